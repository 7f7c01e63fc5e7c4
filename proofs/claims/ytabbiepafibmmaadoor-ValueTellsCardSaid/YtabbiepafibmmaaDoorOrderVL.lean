/- The law ValueOrder: Compare is one order; Equal and Less go with it; null is equal to nothing. Conditions: the slice reads as these values; the tables. -/
import Derived.Test.YtabbiepafibmmaaDoorFrameC
import Derived.Test.YtabbiepafibmmaaDoorRpairs
import Derived.Test.YtabbiepafibmmaaDoorFew
import Derived.Test.YtabbiepafibmmaaDoorTrue
namespace Go.Proofs.YtabbiepafibmmaaDoor
open Go.RowKit
/-- are two values one? -/
def eqVV (v u : VV) : Bool := v.k == u.k && (v.n == u.n && (v.u == u.u && v.s.toList == u.s.toList))
theorem eqVV_iff (v u : VV) : eqVV v u = true ↔ v = u := by
  rcases v with ⟨k, n, x, ⟨⟨s⟩⟩⟩
  rcases u with ⟨k', n', x', ⟨⟨s'⟩⟩⟩
  simp [eqVV, ByteArray.toList_eq]
theorem run_eqVV (v u : VV) : ∀ W, (Op.equalIn 10000 28 (.agg #[.int .i64 v.k, .int .i64 v.n, .int .u64 v.u, .string v.s]) (.agg #[.int .i64 u.k, .int .i64 u.n, .int .u64 u.u, .string u.s])).run Tryd.prog W = .ok (eqVV v u) W := by
  intro W
  unfold eqVV
  rw [run_equalIn_agg W 9999 _ _ _ (by kernel_rfl) (by kernel_rfl)]
  go_simp
  by_cases h1 : v.k = u.k <;> by_cases h2 : v.n = u.n <;> by_cases h3 : v.u = u.u <;> by_cases h4 : v.s.toList = u.s.toList <;> simp [h1, h2, h3, h4]
theorem plain_null {v : VV} (h : v.plain = true) (hk : v.k = 0) : v = V0 := by
  unfold VV.plain plainB rightB at h
  rcases v with ⟨k, n, u, ⟨⟨s⟩⟩⟩
  simp only at hk
  subst hk
  simp [ByteArray.toList_eq] at h
  obtain ⟨rfl, rfl, rfl⟩ := h
  rfl
theorem plain_both {a b : VV} (ha : a.plain = true) (hb : b.plain = true) : bothE a b = if !(a.k == 0 || b.k == 0) && a.k != b.k then 2 else 0 := by
  have a1 := plain_ok a
  have b1 := plain_ok b
  rw [ha] at a1
  rw [hb] at b1
  cases oa : a.ok
  · rw [oa] at a1; simp at a1
  · cases ob : b.ok
    · rw [ob] at b1; simp at b1
    · rw [oa] at a1
      rw [ob] at b1
      have ka : (a.k == 4) = false := by simpa using a1.symm
      have kb : (b.k == 4) = false := by simpa using b1.symm
      simp [bothE, oa, ob, ka, kb]
theorem null_lt {a b : VV} (ha : a.plain = true) (hb : b.plain = true) (hk : b.k = 0) (hk2 : a.k ≠ 0) : 0 < cmpV a b := by
  have e : cmpV a b = cmp3 a b := by simp [cmpV, ha, hb]
  have h0 : 0 ≤ a.k := by
    have a1 := plain_ok a
    rw [ha] at a1
    have : a.ok = true := by
      cases h : a.ok
      · rw [h] at a1; simp at a1
      · rfl
    unfold VV.ok rightB at this
    rcases a with ⟨k, n, u, s⟩
    simp only at *
    split at this
    · omega
    · split at this
      · omega
      · split at this
        · omega
        · split at this
          · omega
          · simp at this; omega
  rw [e]
  unfold cmp3 orI
  rcases ci_cases a.k b.k with ⟨h, e1⟩ | ⟨h, e1⟩ | ⟨h, e1⟩
  · omega
  · rw [e1]; simp
  · omega
set_option maxRecDepth 100000 in
set_option maxHeartbeats 16000000 in
theorem valueOrder_walk (A : Option Addr) (n c : Nat) (vs : List VV) (w : World) (h : RdV w A n vs) (hn : n ≤ 9223372036854775807) (_hr : ∀ v ∈ vs, v.rng) (hT : Tab w) :
    Calls Tryd.prog 9 #[.slice A n c] w fun e w' => e = .returned (.bool true) ∧ Below w.heap.size w w' := by
  clear _hr
  go_enter Tryd.func9, Tryd.ntmps9
  go_wp2_with fail
  refine (wakes2_any w hT).mono ?_
  rintro e w1 ⟨rfl, b1⟩
  have h1 := h.below b1
  clear hT
  go_wp2_with fail
  refine (few_any A n c vs w1 h1 hn).mono ?_
  rintro e w2 ⟨A', n', c', rfl, ho, q2⟩
  have b2 := bl_ca b1 q2
  have hv := ho.rd
  have hlt := ho.len
  have hn10 : n' ≤ 10 := by
    rw [← hlt]
    simp only [fewV, List.length_map, List.length_take]
    omega
  generalize fewV 10 vs = xs at *
  have HL := Lib.hid hlt
  clear b1 h1 h ho q2 hlt
  go_wp2
  go_loopg [3, 22] n' (fun g o s wr => ∃ (i m cm : Nat) (Am : Option Addr), i + g ≤ n' ∧ n' ≤ i + g ∧ s = .int .i64 i ∧ o = .slice Am m cm ∧ m ≤ i ∧ OwnV wr w2.heap.size Am m cm ((xs.take i).filter VV.plain) ∧ Below w2.heap.size w2 wr)
  case atStart => exact ⟨0, 0, 0, none, by omega, by omega, rfl, rfl, by omega, by simpa using OwnV.nil w2 w2.heap.size, Below.refl _ _⟩
  case round =>
    obtain ⟨i, m, cm, Am, hi1, hi2, rfl, rfl, hm, ho, qq⟩ := hrel
    by_cases hi : i < n'
    · obtain ⟨ad, v, hA, hvi, hal, c0, c1, c2, c3⟩ := (hv.below qq).2 i hi
      subst hA
      have HS := Lib.hid (show xs.take (i + 1) = xs.take i ++ [v] from by rw [List.take_add_one, hvi]; rfl)
      clear hvi
      have hA := Blk.new wr 28 #[.int .i64 v.k, .int .i64 v.n, .int .u64 v.u, .string v.s]
      have ho1 := ho.alloc (.cells #[.int .i64 v.k, .int .i64 v.n, .int .u64 v.u, .string v.s] 28)
      replace qq := bl_al qq (.cells #[.int .i64 v.k, .int .i64 v.n, .int .u64 v.u, .string v.s] 28)
      clear ho
      cases hp : v.plain
      · have HF := Lib.hid (show (xs.take (i + 1)).filter VV.plain = (xs.take i).filter VV.plain from by rw [HS.out, List.filter_append]; simp [hp])
        go_wp2_with fail
        clear c0 c1 c2 c3 hal
        generalize wr.alloc (.cells #[.int .i64 v.k, .int .i64 v.n, .int .u64 v.u, .string v.s] 28) = w3 at *
        refine (plain_n v hp w3).mono ?_
        rintro e w4 ⟨rfl, q4⟩
        replace ho1 := ho1.below q4
        replace qq := bl_ca qq q4
        clear q4 hA
        go_wp2
        go_roundg (gk - 1)
        · exact ⟨i + 1, m, cm, Am, by omega, by omega, by go_num, rfl, by omega, by rw [HF.out]; exact ho1, qq⟩
        · omega
      · have HF := Lib.hid (show (xs.take (i + 1)).filter VV.plain = (xs.take i).filter VV.plain ++ [v] from by rw [HS.out, List.filter_append]; simp [hp])
        go_wp2_with fail
        clear c0 c1 c2 c3 hal
        generalize wr.alloc (.cells #[.int .i64 v.k, .int .i64 v.n, .int .u64 v.u, .string v.s] 28) = w3 at *
        generalize wr.heap.size = G at *
        refine (plain_y v hp w3).mono ?_
        rintro e w4 ⟨rfl, q4⟩
        have hA4 := hA.ca q4
        have d0 : w4.cell? ⟨G, 0, none⟩ = some (.int .i64 v.k) := hA4.cell 0
        have d1 : w4.cell? ⟨G, 1, none⟩ = some (.int .i64 v.n) := hA4.cell 1
        have d2 : w4.cell? ⟨G, 2, none⟩ = some (.int .u64 v.u) := hA4.cell 2
        have d3 : w4.cell? ⟨G, 3, none⟩ = some (.string v.s) := hA4.cell 3
        have hb3 := Blk.new w4 28 #[.int .i64 v.k, .int .i64 v.n, .int .u64 v.u, .string v.s]
        have ho3 := (ho1.below q4).alloc (.cells #[.int .i64 v.k, .int .i64 v.n, .int .u64 v.u, .string v.s] 28)
        have b3 := bl_al (bl_ca qq q4) (.cells #[.int .i64 v.k, .int .i64 v.n, .int .u64 v.u, .string v.s] 28)
        clear ho1 qq q4 hA hA4
        go_wp2_with (at_builtin; refine wpList_appV rfl (.tmp 28) (.tmp 30) rfl w2.heap.size Am m cm _ _ 1 _ v rfl rfl ho3 hb3 (by omega) b3.size ?_; intro A4 c4 w5 ho4 b4)
        have b5 := b3.trans b4
        go_roundg (gk - 1)
        · exact ⟨i + 1, m + 1, c4, A4, by omega, by omega, by go_num, rfl, by omega, by rw [HF.out]; exact ho4, b5⟩
        · omega
    · have e : xs.take i = xs := List.take_of_length_le (by rw [HL.out]; omega)
      rw [e] at ho
      clear e
      have HPL := Lib.hid (show ∀ y ∈ xs.filter VV.plain, y.plain = true from fun y hy => (List.mem_filter.1 hy).2)
      generalize xs.filter VV.plain = ys at *
      have hn11 : m ≤ 10 := by omega
      have hv2 := ho.rd
      have bb := bl_ca b2 qq
      have hid : decide (i < n') = false := decide_eq_false hi
      clear hv ho qq b2 HL hi hi1 hi2 hm hn10
      go_wp2
      go_loopg [35] m (fun g s wr => ∃ (i : Nat), i + g ≤ m ∧ m ≤ i + g ∧ s = .int .i64 i ∧ RdV wr Am m ys ∧ Below w.heap.size w wr)
      case atStart => exact ⟨0, by omega, by omega, rfl, hv2, bb⟩
      case round =>
        clear hv2 bb
        obtain ⟨i, hi1, hi2, rfl, hv, bb⟩ := hrel
        by_cases hi : i < m
        · obtain ⟨ad, v, hA, hvi, hal, c0, c1, c2, c3⟩ := hv.2 i hi
          subst hA
          have HPV := Lib.hid (HPL.out v (List.mem_of_getElem? hvi))
          clear hvi
          have qq := Below.refl wr.heap.size wr
          have hA := Blk.new wr 28 #[.int .i64 v.k, .int .i64 v.n, .int .u64 v.u, .string v.s]
          have zhA_qq := qq.size
          replace qq := bl_al qq (.cells #[.int .i64 v.k, .int .i64 v.n, .int .u64 v.u, .string v.s] 28)
          go_wp2
          clear c0 c1 c2 c3 hal
          generalize (wr.alloc (.cells #[.int .i64 v.k, .int .i64 v.n, .int .u64 v.u, .string v.s] 28)) = u1 at *
          replace hv := hv.below qq
          replace bb := bl_ca bb qq
          clear qq
          obtain ⟨g1, rfl⟩ : ∃ g1, g1 = gk := ⟨_, rfl⟩
          obtain ⟨wo, rfl⟩ : ∃ wo : World, wo = wr := ⟨_, rfl⟩
          generalize wo.heap.size = GA at *
          go_loopg [41] m (fun g s wr => ∃ (k : Nat), k + g ≤ m ∧ m ≤ k + g ∧ s = .int .i64 k ∧ RdV wr (some ad) m ys ∧ Blk wr GA 28 #[.int .i64 v.k, .int .i64 v.n, .int .u64 v.u, .string v.s] ∧ Below w.heap.size w wr)
          case atStart => exact ⟨0, by omega, by omega, rfl, hv, hA, bb⟩
          case round =>
            clear hv hA bb
            obtain ⟨k, hk1, hk2, rfl, hv, hA, bb⟩ := hrel
            by_cases hk : k < m
            · obtain ⟨ad2, u, hA2, hui, hal, c0, c1, c2, c3⟩ := hv.2 k hk
              injection hA2 with hA2
              subst hA2
              have HPU := Lib.hid (HPL.out u (List.mem_of_getElem? hui))
              clear hui
              have qq := Below.refl wr.heap.size wr
              rcases cmpV_rng v u with hc | hc | hc
              · have H1 := Lib.hid (fun w => (hc ▸ compare_any v u w : Calls Tryd.prog 34 _ w fun e w' => e = .returned (.int .i64 (-1)) ∧ Below w.heap.size w w'))
                have H2 := Lib.hid (fun w => ((show cmpV u v = 1 from by have := cmpV_anti u v; omega) ▸ compare_any u v w : Calls Tryd.prog 34 _ w fun e w' => e = .returned (.int .i64 (1)) ∧ Below w.heap.size w w'))
                have HQ : ∀ W, (Op.equalIn 10000 28 (.agg #[.int .i64 v.k, .int .i64 v.n, .int .u64 v.u, .string v.s]) (.agg #[.int .i64 u.k, .int .i64 u.n, .int .u64 u.u, .string u.s])).run Tryd.prog W = .ok false W := by
                  have := run_eqVV v u
                  rwa [show eqVV v u = false from by cases e : eqVV v u; rfl; have := (cmpV_zero HPV.out HPU.out).2 ((eqVV_iff v u).1 e); omega] at this
                have HC := Lib.hid hc
                clear hc
                have hB := Blk.new wr 28 #[.int .i64 u.k, .int .i64 u.n, .int .u64 u.u, .string u.s]
                have zhB_qq := qq.size
                replace qq := bl_al qq (.cells #[.int .i64 u.k, .int .i64 u.n, .int .u64 u.u, .string u.s] 28)
                have hA_0 : (wr.alloc (.cells #[.int .i64 u.k, .int .i64 u.n, .int .u64 u.u, .string u.s] 28)).cell? ⟨GA, 0, none⟩ = some (.int .i64 v.k) := (hA.below qq hA.lt).cell 0
                have hA_1 : (wr.alloc (.cells #[.int .i64 u.k, .int .i64 u.n, .int .u64 u.u, .string u.s] 28)).cell? ⟨GA, 1, none⟩ = some (.int .i64 v.n) := (hA.below qq hA.lt).cell 1
                have hA_2 : (wr.alloc (.cells #[.int .i64 u.k, .int .i64 u.n, .int .u64 u.u, .string u.s] 28)).cell? ⟨GA, 2, none⟩ = some (.int .u64 v.u) := (hA.below qq hA.lt).cell 2
                have hA_3 : (wr.alloc (.cells #[.int .i64 u.k, .int .i64 u.n, .int .u64 u.u, .string u.s] 28)).cell? ⟨GA, 3, none⟩ = some (.string v.s) := (hA.below qq hA.lt).cell 3
                go_wp2_with fail
                clear c0 c1 c2 c3 hal hA_0 hA_1 hA_2 hA_3
                generalize (wr.alloc (.cells #[.int .i64 u.k, .int .i64 u.n, .int .u64 u.u, .string u.s] 28)) = x1 at *
                refine (H1.out _).mono ?_
                rintro e x2 ⟨rfl, qx2⟩
                replace hB := hB.ca qx2
                replace qq := bl_ca qq qx2
                clear qx2
                have hA_0 : x2.cell? ⟨GA, 0, none⟩ = some (.int .i64 v.k) := (hA.below qq hA.lt).cell 0
                have hA_1 : x2.cell? ⟨GA, 1, none⟩ = some (.int .i64 v.n) := (hA.below qq hA.lt).cell 1
                have hA_2 : x2.cell? ⟨GA, 2, none⟩ = some (.int .u64 v.u) := (hA.below qq hA.lt).cell 2
                have hA_3 : x2.cell? ⟨GA, 3, none⟩ = some (.string v.s) := (hA.below qq hA.lt).cell 3
                have hB_0 : x2.cell? ⟨wr.heap.size, 0, none⟩ = some (.int .i64 u.k) := hB.cell 0
                have hB_1 : x2.cell? ⟨wr.heap.size, 1, none⟩ = some (.int .i64 u.n) := hB.cell 1
                have hB_2 : x2.cell? ⟨wr.heap.size, 2, none⟩ = some (.int .u64 u.u) := hB.cell 2
                have hB_3 : x2.cell? ⟨wr.heap.size, 3, none⟩ = some (.string u.s) := hB.cell 3
                go_wp2_with fail
                clear hA_0 hA_1 hA_2 hA_3 hB_0 hB_1 hB_2 hB_3
                refine (H2.out _).mono ?_
                rintro e x3 ⟨rfl, qx3⟩
                replace hB := hB.ca qx3
                replace qq := bl_ca qq qx3
                clear qx3
                have hA_0 : x3.cell? ⟨GA, 0, none⟩ = some (.int .i64 v.k) := (hA.below qq hA.lt).cell 0
                have hA_1 : x3.cell? ⟨GA, 1, none⟩ = some (.int .i64 v.n) := (hA.below qq hA.lt).cell 1
                have hA_2 : x3.cell? ⟨GA, 2, none⟩ = some (.int .u64 v.u) := (hA.below qq hA.lt).cell 2
                have hA_3 : x3.cell? ⟨GA, 3, none⟩ = some (.string v.s) := (hA.below qq hA.lt).cell 3
                have hB_0 : x3.cell? ⟨wr.heap.size, 0, none⟩ = some (.int .i64 u.k) := hB.cell 0
                have hB_1 : x3.cell? ⟨wr.heap.size, 1, none⟩ = some (.int .i64 u.n) := hB.cell 1
                have hB_2 : x3.cell? ⟨wr.heap.size, 2, none⟩ = some (.int .u64 u.u) := hB.cell 2
                have hB_3 : x3.cell? ⟨wr.heap.size, 3, none⟩ = some (.string u.s) := hB.cell 3
                go_wp2
                clear hA_0 hA_1 hA_2 hA_3 hB_0 hB_1 hB_2 hB_3
                clear H1 H2 HQ
                replace hv := hv.below qq
                replace hA := hA.below qq hA.lt
                replace bb := bl_ca bb qq
                clear qq
                obtain ⟨g2, rfl⟩ : ∃ g2, g2 = gk := ⟨_, rfl⟩
                obtain ⟨wp, rfl⟩ : ∃ wp : World, wp = wr := ⟨_, rfl⟩
                generalize wp.heap.size = GB at *
                go_loopg [64] m (fun g s wr => ∃ (j : Nat), j + g ≤ m ∧ m ≤ j + g ∧ s = .int .i64 j ∧ RdV wr (some ad) m ys ∧ Blk wr GA 28 #[.int .i64 v.k, .int .i64 v.n, .int .u64 v.u, .string v.s] ∧ Blk wr GB 28 #[.int .i64 u.k, .int .i64 u.n, .int .u64 u.u, .string u.s] ∧ Below w.heap.size w wr)
                case atStart => exact ⟨0, by omega, by omega, rfl, hv, hA, hB, bb⟩
                case round =>
                  clear hv hA bb hB
                  obtain ⟨j, hj1, hj2, rfl, hv, hA, hB, bb⟩ := hrel
                  by_cases hj : j < m
                  · obtain ⟨ad3, t, hA3, hti, hal, c0, c1, c2, c3⟩ := hv.2 j hj
                    injection hA3 with hA3
                    subst hA3
                    have HPT := Lib.hid (HPL.out t (List.mem_of_getElem? hti))
                    clear hti
                    have qq := Below.refl wr.heap.size wr
                    have H1 := Lib.hid (fun w => compare_any u t w)
                    have H2 := Lib.hid (fun w => compare_any v t w)
                    have HTR := Lib.hid (fun h => cmpV_trans HPV.out HPU.out HPT.out (show cmpV v u ≤ 0 from by rw [HC.out]; omega) h)
                    generalize cmpV u t = p at *
                    generalize cmpV v t = q at *
                    by_cases hp : p ≤ 0
                    · have hq : q ≤ 0 := HTR.out hp
                      have hp1 : decide (p ≤ 0) = true := decide_eq_true hp
                      have hq1 : decide (0 < q) = false := decide_eq_false (by omega)
                      clear hp hq HTR
                      have hC := Blk.new wr 28 #[.int .i64 t.k, .int .i64 t.n, .int .u64 t.u, .string t.s]
                      have zhC_qq := qq.size
                      replace qq := bl_al qq (.cells #[.int .i64 t.k, .int .i64 t.n, .int .u64 t.u, .string t.s] 28)
                      have hB_0 : (wr.alloc (.cells #[.int .i64 t.k, .int .i64 t.n, .int .u64 t.u, .string t.s] 28)).cell? ⟨GB, 0, none⟩ = some (.int .i64 u.k) := (hB.below qq hB.lt).cell 0
                      have hB_1 : (wr.alloc (.cells #[.int .i64 t.k, .int .i64 t.n, .int .u64 t.u, .string t.s] 28)).cell? ⟨GB, 1, none⟩ = some (.int .i64 u.n) := (hB.below qq hB.lt).cell 1
                      have hB_2 : (wr.alloc (.cells #[.int .i64 t.k, .int .i64 t.n, .int .u64 t.u, .string t.s] 28)).cell? ⟨GB, 2, none⟩ = some (.int .u64 u.u) := (hB.below qq hB.lt).cell 2
                      have hB_3 : (wr.alloc (.cells #[.int .i64 t.k, .int .i64 t.n, .int .u64 t.u, .string t.s] 28)).cell? ⟨GB, 3, none⟩ = some (.string u.s) := (hB.below qq hB.lt).cell 3
                      go_wp2_with fail
                      clear c0 c1 c2 c3 hal hB_0 hB_1 hB_2 hB_3
                      generalize (wr.alloc (.cells #[.int .i64 t.k, .int .i64 t.n, .int .u64 t.u, .string t.s] 28)) = y1 at *
                      refine (H1.out _).mono ?_
                      rintro e y2 ⟨rfl, qy2⟩
                      replace hC := hC.ca qy2
                      replace qq := bl_ca qq qy2
                      clear qy2
                      have hA_0 : y2.cell? ⟨GA, 0, none⟩ = some (.int .i64 v.k) := (hA.below qq hA.lt).cell 0
                      have hA_1 : y2.cell? ⟨GA, 1, none⟩ = some (.int .i64 v.n) := (hA.below qq hA.lt).cell 1
                      have hA_2 : y2.cell? ⟨GA, 2, none⟩ = some (.int .u64 v.u) := (hA.below qq hA.lt).cell 2
                      have hA_3 : y2.cell? ⟨GA, 3, none⟩ = some (.string v.s) := (hA.below qq hA.lt).cell 3
                      have hC_0 : y2.cell? ⟨wr.heap.size, 0, none⟩ = some (.int .i64 t.k) := hC.cell 0
                      have hC_1 : y2.cell? ⟨wr.heap.size, 1, none⟩ = some (.int .i64 t.n) := hC.cell 1
                      have hC_2 : y2.cell? ⟨wr.heap.size, 2, none⟩ = some (.int .u64 t.u) := hC.cell 2
                      have hC_3 : y2.cell? ⟨wr.heap.size, 3, none⟩ = some (.string t.s) := hC.cell 3
                      go_wp2_with fail
                      clear hA_0 hA_1 hA_2 hA_3 hC_0 hC_1 hC_2 hC_3
                      refine (H2.out _).mono ?_
                      rintro e y3 ⟨rfl, qy3⟩
                      replace hC := hC.ca qy3
                      replace qq := bl_ca qq qy3
                      clear qy3
                      go_wp2
                      go_roundg (gk - 1)
                      · exact ⟨j + 1, by omega, by omega, by go_num, hv.below qq, hA.below qq hA.lt, hB.below qq hB.lt, bl_ca bb qq⟩
                      · omega
                    · have hp1 : decide (p ≤ 0) = false := decide_eq_false hp
                      clear hp HTR H2
                      have hC := Blk.new wr 28 #[.int .i64 t.k, .int .i64 t.n, .int .u64 t.u, .string t.s]
                      have zhC_qq := qq.size
                      replace qq := bl_al qq (.cells #[.int .i64 t.k, .int .i64 t.n, .int .u64 t.u, .string t.s] 28)
                      have hB_0 : (wr.alloc (.cells #[.int .i64 t.k, .int .i64 t.n, .int .u64 t.u, .string t.s] 28)).cell? ⟨GB, 0, none⟩ = some (.int .i64 u.k) := (hB.below qq hB.lt).cell 0
                      have hB_1 : (wr.alloc (.cells #[.int .i64 t.k, .int .i64 t.n, .int .u64 t.u, .string t.s] 28)).cell? ⟨GB, 1, none⟩ = some (.int .i64 u.n) := (hB.below qq hB.lt).cell 1
                      have hB_2 : (wr.alloc (.cells #[.int .i64 t.k, .int .i64 t.n, .int .u64 t.u, .string t.s] 28)).cell? ⟨GB, 2, none⟩ = some (.int .u64 u.u) := (hB.below qq hB.lt).cell 2
                      have hB_3 : (wr.alloc (.cells #[.int .i64 t.k, .int .i64 t.n, .int .u64 t.u, .string t.s] 28)).cell? ⟨GB, 3, none⟩ = some (.string u.s) := (hB.below qq hB.lt).cell 3
                      go_wp2_with fail
                      clear c0 c1 c2 c3 hal hB_0 hB_1 hB_2 hB_3
                      generalize (wr.alloc (.cells #[.int .i64 t.k, .int .i64 t.n, .int .u64 t.u, .string t.s] 28)) = y1 at *
                      refine (H1.out _).mono ?_
                      rintro e y2 ⟨rfl, qy2⟩
                      replace hC := hC.ca qy2
                      replace qq := bl_ca qq qy2
                      clear qy2
                      go_wp2
                      go_roundg (gk - 1)
                      · exact ⟨j + 1, by omega, by omega, by go_num, hv.below qq, hA.below qq hA.lt, hB.below qq hB.lt, bl_ca bb qq⟩
                      · omega
                  · have hjd : decide (j < m) = false := decide_eq_false hj
                    clear hj hj1 hj2
                    have qq := Below.refl wr.heap.size wr
                    cases hnn : (v.k == 0 || u.k == 0)
                    · cases he : (bothE v u != 0)
                      · have hv0 : v.k ≠ 0 := by simp at hnn; exact hnn.1
                        have eqe : equalV v u = (VB0, 0) := by unfold equalV heldV; rw [he, hnn, HC.out]; rfl
                        have eql : lessV v u = (VB1, 0) := by unfold lessV heldV; rw [he, hnn, HC.out]; rfl
                        have H1 := Lib.hid (fun w => (eqe ▸ equal_any v u w : Calls Tryd.prog 36 _ w fun e w' => e = .returned (resT (VB0, 0)) ∧ Below w.heap.size w w'))
                        have H2 := Lib.hid (fun w => (eql ▸ less_any v u w : Calls Tryd.prog 38 _ w fun e w' => e = .returned (resT (VB1, 0)) ∧ Below w.heap.size w w'))
                        clear eqe eql
                        have HTQ := Lib.hid (fun w => ((show trueB VB0 = false from by decide +kernel) ▸ true_any VB0 w : Calls Tryd.prog 20 #[.agg #[.int .i64 1, .int .i64 0, .int .u64 0, .string ⟨#[]⟩]] w fun e w' => e = .returned (.bool false) ∧ Below w.heap.size w w'))
                        have HTL := Lib.hid (fun w => ((show trueB VB1 = true from by decide +kernel) ▸ true_any VB1 w : Calls Tryd.prog 20 #[.agg #[.int .i64 1, .int .i64 1, .int .u64 0, .string ⟨#[]⟩]] w fun e w' => e = .returned (.bool true) ∧ Below w.heap.size w w'))
                        have HQ0 : ∀ W, (Op.equalIn 10000 28 (.agg #[.int .i64 v.k, .int .i64 v.n, .int .u64 v.u, .string v.s]) (.agg #[.int .i64 0, .int .i64 0, .int .u64 0, .string ⟨#[]⟩])).run Tryd.prog W = .ok false W := by
                          have := run_eqVV v V0
                          rwa [show eqVV v V0 = false from by cases e : eqVV v V0; rfl; exact absurd (show v.k = 0 from by rw [(eqVV_iff v V0).1 e]; rfl) hv0] at this
                        clear he hnn hv0
                        have hA_0 : wr.cell? ⟨GA, 0, none⟩ = some (.int .i64 v.k) := (hA.below qq hA.lt).cell 0
                        have hA_1 : wr.cell? ⟨GA, 1, none⟩ = some (.int .i64 v.n) := (hA.below qq hA.lt).cell 1
                        have hA_2 : wr.cell? ⟨GA, 2, none⟩ = some (.int .u64 v.u) := (hA.below qq hA.lt).cell 2
                        have hA_3 : wr.cell? ⟨GA, 3, none⟩ = some (.string v.s) := (hA.below qq hA.lt).cell 3
                        have hB_0 : wr.cell? ⟨GB, 0, none⟩ = some (.int .i64 u.k) := (hB.below qq hB.lt).cell 0
                        have hB_1 : wr.cell? ⟨GB, 1, none⟩ = some (.int .i64 u.n) := (hB.below qq hB.lt).cell 1
                        have hB_2 : wr.cell? ⟨GB, 2, none⟩ = some (.int .u64 u.u) := (hB.below qq hB.lt).cell 2
                        have hB_3 : wr.cell? ⟨GB, 3, none⟩ = some (.string u.s) := (hB.below qq hB.lt).cell 3
                        go_wp2_with fail
                        clear hA_0 hA_1 hA_2 hA_3 hB_0 hB_1 hB_2 hB_3
                        refine (H1.out _).mono ?_
                        rintro e z1 ⟨rfl, qz1⟩
                        simp only [resT, VB0]
                        replace qq := bl_ca qq qz1
                        clear qz1
                        have hX := Blk.new z1 28 #[.int .i64 1, .int .i64 0, .int .u64 0, .string ⟨#[]⟩]
                        have zhX_qq := qq.size
                        replace qq := bl_al qq (.cells #[.int .i64 1, .int .i64 0, .int .u64 0, .string ⟨#[]⟩] 28)
                        have hA_0 : (z1.alloc (.cells #[.int .i64 1, .int .i64 0, .int .u64 0, .string ⟨#[]⟩] 28)).cell? ⟨GA, 0, none⟩ = some (.int .i64 v.k) := (hA.below qq hA.lt).cell 0
                        have hA_1 : (z1.alloc (.cells #[.int .i64 1, .int .i64 0, .int .u64 0, .string ⟨#[]⟩] 28)).cell? ⟨GA, 1, none⟩ = some (.int .i64 v.n) := (hA.below qq hA.lt).cell 1
                        have hA_2 : (z1.alloc (.cells #[.int .i64 1, .int .i64 0, .int .u64 0, .string ⟨#[]⟩] 28)).cell? ⟨GA, 2, none⟩ = some (.int .u64 v.u) := (hA.below qq hA.lt).cell 2
                        have hA_3 : (z1.alloc (.cells #[.int .i64 1, .int .i64 0, .int .u64 0, .string ⟨#[]⟩] 28)).cell? ⟨GA, 3, none⟩ = some (.string v.s) := (hA.below qq hA.lt).cell 3
                        have hB_0 : (z1.alloc (.cells #[.int .i64 1, .int .i64 0, .int .u64 0, .string ⟨#[]⟩] 28)).cell? ⟨GB, 0, none⟩ = some (.int .i64 u.k) := (hB.below qq hB.lt).cell 0
                        have hB_1 : (z1.alloc (.cells #[.int .i64 1, .int .i64 0, .int .u64 0, .string ⟨#[]⟩] 28)).cell? ⟨GB, 1, none⟩ = some (.int .i64 u.n) := (hB.below qq hB.lt).cell 1
                        have hB_2 : (z1.alloc (.cells #[.int .i64 1, .int .i64 0, .int .u64 0, .string ⟨#[]⟩] 28)).cell? ⟨GB, 2, none⟩ = some (.int .u64 u.u) := (hB.below qq hB.lt).cell 2
                        have hB_3 : (z1.alloc (.cells #[.int .i64 1, .int .i64 0, .int .u64 0, .string ⟨#[]⟩] 28)).cell? ⟨GB, 3, none⟩ = some (.string u.s) := (hB.below qq hB.lt).cell 3
                        go_wp2_with fail
                        clear hA_0 hA_1 hA_2 hA_3 hB_0 hB_1 hB_2 hB_3
                        generalize (z1.alloc (.cells #[.int .i64 1, .int .i64 0, .int .u64 0, .string ⟨#[]⟩] 28)) = z2 at *
                        generalize z1.heap.size = Gz2 at *
                        refine (H2.out _).mono ?_
                        rintro e z3 ⟨rfl, qz3⟩
                        simp only [resT, VB1]
                        replace hX := hX.ca qz3
                        replace qq := bl_ca qq qz3
                        clear qz3
                        have lhY_hX := hX.lt
                        replace hX := hX.alloc (.cells #[.int .i64 1, .int .i64 1, .int .u64 0, .string ⟨#[]⟩] 28)
                        have hY := Blk.new z3 28 #[.int .i64 1, .int .i64 1, .int .u64 0, .string ⟨#[]⟩]
                        have zhY_qq := qq.size
                        replace qq := bl_al qq (.cells #[.int .i64 1, .int .i64 1, .int .u64 0, .string ⟨#[]⟩] 28)
                        go_wp2_with fail
                        generalize (z3.alloc (.cells #[.int .i64 1, .int .i64 1, .int .u64 0, .string ⟨#[]⟩] 28)) = z4 at *
                        generalize z3.heap.size = Gz4 at *
                        refine wp_region_lin (S := Grew z4) (by kernel_rfl) (Grew.start _) ?_
                        refine Good.val (i := 0) (d := some 95) (v := ?v27_0_32) rfl rfl (by kernel_rfl) (by kernel_rfl) (by kernel_rfl) (by rfl) (fun w9 hS => ?h27_0_32) ?r27_0_32
                        case h27_0_32 => go_simp; try rfl
                        try simp only [Act.put, List.setIfInBounds_toArray, List.set_cons_zero, List.set_cons_succ]
                        refine Good.val (i := 1) (d := some 96) (v := ?v27_1_33) rfl rfl (by kernel_rfl) (by kernel_rfl) (by kernel_rfl) (by rfl) (fun w9 hS => ?h27_1_33) ?r27_1_33
                        case h27_1_33 => go_simp; try rfl
                        try simp only [Act.put, List.setIfInBounds_toArray, List.set_cons_zero, List.set_cons_succ]
                        refine Good.val (i := 2) (d := some 97) (v := ?v27_2_34) rfl rfl (by kernel_rfl) (by kernel_rfl) (by kernel_rfl) (by rfl) (fun w9 hS => ?h27_2_34) ?r27_2_34
                        case h27_2_34 => go_simp; try rfl
                        try simp only [Act.put, List.setIfInBounds_toArray, List.set_cons_zero, List.set_cons_succ]
                        refine Good.val (i := 3) (d := some 98) (v := ?v27_3_35) rfl rfl (by kernel_rfl) (by kernel_rfl) (by kernel_rfl) (by rfl) (fun w9 hS => ?h27_3_35) ?r27_3_35
                        case h27_3_35 => go_simp; try rfl
                        try simp only [Act.put, List.setIfInBounds_toArray, List.set_cons_zero, List.set_cons_succ]
                        refine Good.val (i := 4) (d := some 99) (v := ?v27_4_36) rfl rfl (by kernel_rfl) (by kernel_rfl) (by kernel_rfl) (by rfl) (fun w9 hS => ?h27_4_36) ?r27_4_36
                        case h27_4_36 => go_simp; try rfl
                        try simp only [Act.put, List.setIfInBounds_toArray, List.set_cons_zero, List.set_cons_succ]
                        refine Good.val (i := 5) (d := some 100) (v := ?v27_5_37) rfl rfl (by kernel_rfl) (by kernel_rfl) (by kernel_rfl) (by rfl) (fun w9 hS => ?h27_5_37) ?r27_5_37
                        case h27_5_37 => go_simp; try rfl
                        try simp only [Act.put, List.setIfInBounds_toArray, List.set_cons_zero, List.set_cons_succ]
                        refine Good.val (i := 6) (d := some 101) (v := ?v27_6_38) rfl rfl (by kernel_rfl) (by kernel_rfl) (by kernel_rfl) (by rfl) (fun w9 hS => ?h27_6_38) ?r27_6_38
                        case h27_6_38 => go_simp; try rfl
                        try simp only [Act.put, List.setIfInBounds_toArray, List.set_cons_zero, List.set_cons_succ]
                        refine Good.val (i := 7) (d := some 102) (v := ?v27_7_39) rfl rfl (by kernel_rfl) (by kernel_rfl) (by kernel_rfl) (by rfl) (fun w9 hS => ?h27_7_39) ?r27_7_39
                        case h27_7_39 =>
                          have hb9 := (Blk.below hX hS hX.lt)
                          have b9_0 : w9.cell? ⟨Gz2, 0, none⟩ = some (.int .i64 1) := hb9.cell 0
                          have b9_1 : w9.cell? ⟨Gz2, 1, none⟩ = some (.int .i64 0) := hb9.cell 1
                          have b9_2 : w9.cell? ⟨Gz2, 2, none⟩ = some (.int .u64 0) := hb9.cell 2
                          have b9_3 : w9.cell? ⟨Gz2, 3, none⟩ = some (.string ⟨#[]⟩) := hb9.cell 3
                          go_simp
                          try rfl
                        try simp only [Act.put, List.setIfInBounds_toArray, List.set_cons_zero, List.set_cons_succ]
                        refine Good.call (i := 8) (d := some 103) (fn := ?f27_8_40) (args := ?a27_8_40) (v := ?v27_8_40) rfl rfl (by kernel_rfl) (by kernel_rfl) (by kernel_rfl) (by rfl) (fun w9 hS => ?h27_8_40) (Grew.call fun w9 qS => ?c27_8_40) ?r27_8_40
                        case h27_8_40 => go_simp; refine ⟨?_, ?_⟩ <;> rfl
                        case c27_8_40 => exact HTQ.out _
                        try simp only [Act.put, List.setIfInBounds_toArray, List.set_cons_zero, List.set_cons_succ]
                        refine Good.val (i := 9) (d := some 104) (v := ?v27_9_41) rfl rfl (by kernel_rfl) (by kernel_rfl) (by kernel_rfl) (by rfl) (fun w9 hS => ?h27_9_41) ?r27_9_41
                        case h27_9_41 => go_simp; try rfl
                        try simp only [Act.put, List.setIfInBounds_toArray, List.set_cons_zero, List.set_cons_succ]
                        refine Good.val (i := 10) (d := some 105) (v := ?v27_10_42) rfl rfl (by kernel_rfl) (by kernel_rfl) (by kernel_rfl) (by rfl) (fun w9 hS => ?h27_10_42) ?r27_10_42
                        case h27_10_42 => go_simp; try rfl
                        try simp only [Act.put, List.setIfInBounds_toArray, List.set_cons_zero, List.set_cons_succ]
                        refine Good.val (i := 11) (d := some 106) (v := ?v27_11_43) rfl rfl (by kernel_rfl) (by kernel_rfl) (by kernel_rfl) (by rfl) (fun w9 hS => ?h27_11_43) ?r27_11_43
                        case h27_11_43 => go_simp; try rfl
                        try simp only [Act.put, List.setIfInBounds_toArray, List.set_cons_zero, List.set_cons_succ]
                        refine Good.skip (i := 12) (d := some 107) rfl rfl (by kernel_rfl) (by kernel_rfl) (by kernel_rfl) (by rfl) ?_
                        try simp only [Act.put, List.setIfInBounds_toArray, List.set_cons_zero, List.set_cons_succ]
                        refine Good.skip (i := 13) (d := some 108) rfl rfl (by kernel_rfl) (by kernel_rfl) (by kernel_rfl) (by rfl) ?_
                        try simp only [Act.put, List.setIfInBounds_toArray, List.set_cons_zero, List.set_cons_succ]
                        refine Good.skip (i := 14) (d := some 109) rfl rfl (by kernel_rfl) (by kernel_rfl) (by kernel_rfl) (by rfl) ?_
                        try simp only [Act.put, List.setIfInBounds_toArray, List.set_cons_zero, List.set_cons_succ]
                        refine Good.val (i := 15) (d := some 110) (v := ?v27_15_47) rfl rfl (by kernel_rfl) (by kernel_rfl) (by kernel_rfl) (by rfl) (fun w9 hS => ?h27_15_47) ?r27_15_47
                        case h27_15_47 => go_simp; try rfl
                        try simp only [Act.put, List.setIfInBounds_toArray, List.set_cons_zero, List.set_cons_succ]
                        refine Good.val (i := 16) (d := some 111) (v := ?v27_16_48) rfl rfl (by kernel_rfl) (by kernel_rfl) (by kernel_rfl) (by rfl) (fun w9 hS => ?h27_16_48) ?r27_16_48
                        case h27_16_48 => go_simp; try rfl
                        try simp only [Act.put, List.setIfInBounds_toArray, List.set_cons_zero, List.set_cons_succ]
                        refine Good.val (i := 17) (d := some 112) (v := ?v27_17_49) rfl rfl (by kernel_rfl) (by kernel_rfl) (by kernel_rfl) (by rfl) (fun w9 hS => ?h27_17_49) ?r27_17_49
                        case h27_17_49 => go_simp; try rfl
                        try simp only [Act.put, List.setIfInBounds_toArray, List.set_cons_zero, List.set_cons_succ]
                        refine Good.val (i := 18) (d := some 113) (v := ?v27_18_50) rfl rfl (by kernel_rfl) (by kernel_rfl) (by kernel_rfl) (by rfl) (fun w9 hS => ?h27_18_50) ?r27_18_50
                        case h27_18_50 =>
                          have hb9 := (Blk.below hY hS hY.lt)
                          have b9_0 : w9.cell? ⟨Gz4, 0, none⟩ = some (.int .i64 1) := hb9.cell 0
                          have b9_1 : w9.cell? ⟨Gz4, 1, none⟩ = some (.int .i64 1) := hb9.cell 1
                          have b9_2 : w9.cell? ⟨Gz4, 2, none⟩ = some (.int .u64 0) := hb9.cell 2
                          have b9_3 : w9.cell? ⟨Gz4, 3, none⟩ = some (.string ⟨#[]⟩) := hb9.cell 3
                          go_simp
                          try rfl
                        try simp only [Act.put, List.setIfInBounds_toArray, List.set_cons_zero, List.set_cons_succ]
                        refine Good.call (i := 19) (d := some 114) (fn := ?f27_19_51) (args := ?a27_19_51) (v := ?v27_19_51) rfl rfl (by kernel_rfl) (by kernel_rfl) (by kernel_rfl) (by rfl) (fun w9 hS => ?h27_19_51) (Grew.call fun w9 qS => ?c27_19_51) ?r27_19_51
                        case h27_19_51 => go_simp; refine ⟨?_, ?_⟩ <;> rfl
                        case c27_19_51 => exact HTL.out _
                        try simp only [Act.put, List.setIfInBounds_toArray, List.set_cons_zero, List.set_cons_succ]
                        refine Good.val (i := 20) (d := some 115) (v := ?v27_20_52) rfl rfl (by kernel_rfl) (by kernel_rfl) (by kernel_rfl) (by rfl) (fun w9 hS => ?h27_20_52) ?r27_20_52
                        case h27_20_52 => go_simp; try rfl
                        try simp only [Act.put, List.setIfInBounds_toArray, List.set_cons_zero, List.set_cons_succ]
                        refine Good.val (i := 21) (d := some 116) (v := ?v27_21_53) rfl rfl (by kernel_rfl) (by kernel_rfl) (by kernel_rfl) (by rfl) (fun w9 hS => ?h27_21_53) ?r27_21_53
                        case h27_21_53 => go_simp; try rfl
                        try simp only [Act.put, List.setIfInBounds_toArray, List.set_cons_zero, List.set_cons_succ]
                        refine Good.val (i := 22) (d := some 117) (v := ?v27_22_54) rfl rfl (by kernel_rfl) (by kernel_rfl) (by kernel_rfl) (by rfl) (fun w9 hS => ?h27_22_54) ?r27_22_54
                        case h27_22_54 => go_simp; try rfl
                        try simp only [Act.put, List.setIfInBounds_toArray, List.set_cons_zero, List.set_cons_succ]
                        refine Good.val (i := 23) (d := some 118) (v := ?v27_23_55) rfl rfl (by kernel_rfl) (by kernel_rfl) (by kernel_rfl) (by rfl) (fun w9 hS => ?h27_23_55) ?r27_23_55
                        case h27_23_55 =>
                          have hb9 := (Blk.below hA (bl_ca qq hS) hA.lt)
                          have b9_0 : w9.cell? ⟨GA, 0, none⟩ = some (.int .i64 v.k) := hb9.cell 0
                          have b9_1 : w9.cell? ⟨GA, 1, none⟩ = some (.int .i64 v.n) := hb9.cell 1
                          have b9_2 : w9.cell? ⟨GA, 2, none⟩ = some (.int .u64 v.u) := hb9.cell 2
                          have b9_3 : w9.cell? ⟨GA, 3, none⟩ = some (.string v.s) := hb9.cell 3
                          go_simp
                          try rfl
                        try simp only [Act.put, List.setIfInBounds_toArray, List.set_cons_zero, List.set_cons_succ]
                        refine Good.call (i := 24) (d := some 119) (fn := ?f27_24_56) (args := ?a27_24_56) (v := ?v27_24_56) rfl rfl (by kernel_rfl) (by kernel_rfl) (by kernel_rfl) (by rfl) (fun w9 hS => ?h27_24_56) (Grew.call fun w9 qS => ?c27_24_56) ?r27_24_56
                        case h27_24_56 => go_simp; refine ⟨?_, ?_⟩ <;> rfl
                        case c27_24_56 => exact vnull_any _
                        try simp only [Act.put, List.setIfInBounds_toArray, List.set_cons_zero, List.set_cons_succ]
                        refine Good.val (i := 25) (d := some 120) (v := ?v27_25_57) rfl rfl (by kernel_rfl) (by kernel_rfl) (by kernel_rfl) (by rfl) (fun w9 hS => ?h27_25_57) ?r27_25_57
                        case h27_25_57 => go_simp; try rfl
                        try simp only [Act.put, List.setIfInBounds_toArray, List.set_cons_zero, List.set_cons_succ]
                        refine Good.val (i := 26) (d := some 121) (v := ?v27_26_58) rfl rfl (by kernel_rfl) (by kernel_rfl) (by kernel_rfl) (by rfl) (fun w9 hS => ?h27_26_58) ?r27_26_58
                        case h27_26_58 => go_simp; try rfl
                        try simp only [Act.put, List.setIfInBounds_toArray, List.set_cons_zero, List.set_cons_succ]
                        refine Good.val (i := 27) (d := some 122) (v := ?v27_27_59) rfl rfl (by kernel_rfl) (by kernel_rfl) (by kernel_rfl) (by rfl) (fun w9 hS => ?h27_27_59) ?r27_27_59
                        case h27_27_59 => go_simp; try rfl
                        try simp only [Act.put, List.setIfInBounds_toArray, List.set_cons_zero, List.set_cons_succ]
                        refine Good.val (i := 28) (d := some 123) (v := ?v27_28_60) rfl rfl (by kernel_rfl) (by kernel_rfl) (by kernel_rfl) (by rfl) (fun w9 hS => ?h27_28_60) ?r27_28_60
                        case h27_28_60 => go_simp; try rfl
                        try simp only [Act.put, List.setIfInBounds_toArray, List.set_cons_zero, List.set_cons_succ]
                        refine Good.val (i := 29) (d := some 124) (v := ?v27_29_61) rfl rfl (by kernel_rfl) (by kernel_rfl) (by kernel_rfl) (by rfl) (fun w9 hS => ?h27_29_61) ?r27_29_61
                        case h27_29_61 => go_simp; try rfl
                        try simp only [Act.put, List.setIfInBounds_toArray, List.set_cons_zero, List.set_cons_succ]
                        refine Good.val (i := 30) (d := some 125) (v := ?v27_30_62) rfl rfl (by kernel_rfl) (by kernel_rfl) (by kernel_rfl) (by rfl) (fun w9 hS => ?h27_30_62) ?r27_30_62
                        case h27_30_62 => go_simp; try rfl
                        try simp only [Act.put, List.setIfInBounds_toArray, List.set_cons_zero, List.set_cons_succ]
                        refine Good.done (by kernel_rfl) (fun z5 qz5 => ?_) _
                        replace hX := hX.ca qz5
                        replace hY := hY.ca qz5
                        replace qq := bl_ca qq qz5
                        clear qz5
                        go_wp2
                        go_roundg (g2 - 1)
                        · exact ⟨k + 1, by omega, by omega, by go_num, hv.below qq, hA.below qq hA.lt, bl_ca bb qq⟩
                        · omega
                      · replace he : bothE v u = 2 := by rw [plain_both HPV.out HPU.out] at he ⊢; revert he; split <;> simp
                        have eqe : equalV v u = (V0, 2) := by unfold equalV heldV; rw [he]; rfl
                        have eql : lessV v u = (V0, 2) := by unfold lessV heldV; rw [he]; rfl
                        have H1 := Lib.hid (fun w => (eqe ▸ equal_any v u w : Calls Tryd.prog 36 _ w fun e w' => e = .returned (resT (V0, 2)) ∧ Below w.heap.size w w'))
                        have H2 := Lib.hid (fun w => (eql ▸ less_any v u w : Calls Tryd.prog 38 _ w fun e w' => e = .returned (resT (V0, 2)) ∧ Below w.heap.size w w'))
                        clear eqe eql
                        clear he
                        have hA_0 : wr.cell? ⟨GA, 0, none⟩ = some (.int .i64 v.k) := (hA.below qq hA.lt).cell 0
                        have hA_1 : wr.cell? ⟨GA, 1, none⟩ = some (.int .i64 v.n) := (hA.below qq hA.lt).cell 1
                        have hA_2 : wr.cell? ⟨GA, 2, none⟩ = some (.int .u64 v.u) := (hA.below qq hA.lt).cell 2
                        have hA_3 : wr.cell? ⟨GA, 3, none⟩ = some (.string v.s) := (hA.below qq hA.lt).cell 3
                        have hB_0 : wr.cell? ⟨GB, 0, none⟩ = some (.int .i64 u.k) := (hB.below qq hB.lt).cell 0
                        have hB_1 : wr.cell? ⟨GB, 1, none⟩ = some (.int .i64 u.n) := (hB.below qq hB.lt).cell 1
                        have hB_2 : wr.cell? ⟨GB, 2, none⟩ = some (.int .u64 u.u) := (hB.below qq hB.lt).cell 2
                        have hB_3 : wr.cell? ⟨GB, 3, none⟩ = some (.string u.s) := (hB.below qq hB.lt).cell 3
                        go_wp2_with fail
                        clear hA_0 hA_1 hA_2 hA_3 hB_0 hB_1 hB_2 hB_3
                        refine (H1.out _).mono ?_
                        rintro e z1 ⟨rfl, qz1⟩
                        simp only [resT, V0]
                        replace qq := bl_ca qq qz1
                        clear qz1
                        have hX := Blk.new z1 28 #[.int .i64 0, .int .i64 0, .int .u64 0, .string ⟨#[]⟩]
                        have zhX_qq := qq.size
                        replace qq := bl_al qq (.cells #[.int .i64 0, .int .i64 0, .int .u64 0, .string ⟨#[]⟩] 28)
                        have hA_0 : (z1.alloc (.cells #[.int .i64 0, .int .i64 0, .int .u64 0, .string ⟨#[]⟩] 28)).cell? ⟨GA, 0, none⟩ = some (.int .i64 v.k) := (hA.below qq hA.lt).cell 0
                        have hA_1 : (z1.alloc (.cells #[.int .i64 0, .int .i64 0, .int .u64 0, .string ⟨#[]⟩] 28)).cell? ⟨GA, 1, none⟩ = some (.int .i64 v.n) := (hA.below qq hA.lt).cell 1
                        have hA_2 : (z1.alloc (.cells #[.int .i64 0, .int .i64 0, .int .u64 0, .string ⟨#[]⟩] 28)).cell? ⟨GA, 2, none⟩ = some (.int .u64 v.u) := (hA.below qq hA.lt).cell 2
                        have hA_3 : (z1.alloc (.cells #[.int .i64 0, .int .i64 0, .int .u64 0, .string ⟨#[]⟩] 28)).cell? ⟨GA, 3, none⟩ = some (.string v.s) := (hA.below qq hA.lt).cell 3
                        have hB_0 : (z1.alloc (.cells #[.int .i64 0, .int .i64 0, .int .u64 0, .string ⟨#[]⟩] 28)).cell? ⟨GB, 0, none⟩ = some (.int .i64 u.k) := (hB.below qq hB.lt).cell 0
                        have hB_1 : (z1.alloc (.cells #[.int .i64 0, .int .i64 0, .int .u64 0, .string ⟨#[]⟩] 28)).cell? ⟨GB, 1, none⟩ = some (.int .i64 u.n) := (hB.below qq hB.lt).cell 1
                        have hB_2 : (z1.alloc (.cells #[.int .i64 0, .int .i64 0, .int .u64 0, .string ⟨#[]⟩] 28)).cell? ⟨GB, 2, none⟩ = some (.int .u64 u.u) := (hB.below qq hB.lt).cell 2
                        have hB_3 : (z1.alloc (.cells #[.int .i64 0, .int .i64 0, .int .u64 0, .string ⟨#[]⟩] 28)).cell? ⟨GB, 3, none⟩ = some (.string u.s) := (hB.below qq hB.lt).cell 3
                        go_wp2_with fail
                        clear hA_0 hA_1 hA_2 hA_3 hB_0 hB_1 hB_2 hB_3
                        generalize (z1.alloc (.cells #[.int .i64 0, .int .i64 0, .int .u64 0, .string ⟨#[]⟩] 28)) = z2 at *
                        generalize z1.heap.size = Gz2 at *
                        refine (H2.out _).mono ?_
                        rintro e z3 ⟨rfl, qz3⟩
                        simp only [resT, V0]
                        replace hX := hX.ca qz3
                        replace qq := bl_ca qq qz3
                        clear qz3
                        have lhY_hX := hX.lt
                        replace hX := hX.alloc (.cells #[.int .i64 0, .int .i64 0, .int .u64 0, .string ⟨#[]⟩] 28)
                        have hY := Blk.new z3 28 #[.int .i64 0, .int .i64 0, .int .u64 0, .string ⟨#[]⟩]
                        have zhY_qq := qq.size
                        replace qq := bl_al qq (.cells #[.int .i64 0, .int .i64 0, .int .u64 0, .string ⟨#[]⟩] 28)
                        go_wp2_with fail
                        generalize (z3.alloc (.cells #[.int .i64 0, .int .i64 0, .int .u64 0, .string ⟨#[]⟩] 28)) = z4 at *
                        generalize z3.heap.size = Gz4 at *
                        refine wp_region_lin (S := Grew z4) (by kernel_rfl) (Grew.start _) ?_
                        refine Good.val (i := 0) (d := some 95) (v := ?v27_0_63) rfl rfl (by kernel_rfl) (by kernel_rfl) (by kernel_rfl) (by rfl) (fun w9 hS => ?h27_0_63) ?r27_0_63
                        case h27_0_63 => go_simp; try rfl
                        try simp only [Act.put, List.setIfInBounds_toArray, List.set_cons_zero, List.set_cons_succ]
                        refine Good.val (i := 1) (d := some 96) (v := ?v27_1_64) rfl rfl (by kernel_rfl) (by kernel_rfl) (by kernel_rfl) (by rfl) (fun w9 hS => ?h27_1_64) ?r27_1_64
                        case h27_1_64 => go_simp; try rfl
                        try simp only [Act.put, List.setIfInBounds_toArray, List.set_cons_zero, List.set_cons_succ]
                        refine Good.val (i := 2) (d := some 97) (v := ?v27_2_65) rfl rfl (by kernel_rfl) (by kernel_rfl) (by kernel_rfl) (by rfl) (fun w9 hS => ?h27_2_65) ?r27_2_65
                        case h27_2_65 => go_simp; try rfl
                        try simp only [Act.put, List.setIfInBounds_toArray, List.set_cons_zero, List.set_cons_succ]
                        refine Good.val (i := 3) (d := some 98) (v := ?v27_3_66) rfl rfl (by kernel_rfl) (by kernel_rfl) (by kernel_rfl) (by rfl) (fun w9 hS => ?h27_3_66) ?r27_3_66
                        case h27_3_66 => go_simp; try rfl
                        try simp only [Act.put, List.setIfInBounds_toArray, List.set_cons_zero, List.set_cons_succ]
                        refine Good.val (i := 4) (d := some 99) (v := ?v27_4_67) rfl rfl (by kernel_rfl) (by kernel_rfl) (by kernel_rfl) (by rfl) (fun w9 hS => ?h27_4_67) ?r27_4_67
                        case h27_4_67 => go_simp; try rfl
                        try simp only [Act.put, List.setIfInBounds_toArray, List.set_cons_zero, List.set_cons_succ]
                        refine Good.val (i := 5) (d := some 100) (v := ?v27_5_68) rfl rfl (by kernel_rfl) (by kernel_rfl) (by kernel_rfl) (by rfl) (fun w9 hS => ?h27_5_68) ?r27_5_68
                        case h27_5_68 => go_simp; try rfl
                        try simp only [Act.put, List.setIfInBounds_toArray, List.set_cons_zero, List.set_cons_succ]
                        refine Good.val (i := 6) (d := some 101) (v := ?v27_6_69) rfl rfl (by kernel_rfl) (by kernel_rfl) (by kernel_rfl) (by rfl) (fun w9 hS => ?h27_6_69) ?r27_6_69
                        case h27_6_69 => go_simp; try rfl
                        try simp only [Act.put, List.setIfInBounds_toArray, List.set_cons_zero, List.set_cons_succ]
                        refine Good.skip (i := 7) (d := some 102) rfl rfl (by kernel_rfl) (by kernel_rfl) (by kernel_rfl) (by rfl) ?_
                        try simp only [Act.put, List.setIfInBounds_toArray, List.set_cons_zero, List.set_cons_succ]
                        refine Good.skip (i := 8) (d := some 103) rfl rfl (by kernel_rfl) (by kernel_rfl) (by kernel_rfl) (by rfl) ?_
                        try simp only [Act.put, List.setIfInBounds_toArray, List.set_cons_zero, List.set_cons_succ]
                        refine Good.skip (i := 9) (d := some 104) rfl rfl (by kernel_rfl) (by kernel_rfl) (by kernel_rfl) (by rfl) ?_
                        try simp only [Act.put, List.setIfInBounds_toArray, List.set_cons_zero, List.set_cons_succ]
                        refine Good.skip (i := 10) (d := some 105) rfl rfl (by kernel_rfl) (by kernel_rfl) (by kernel_rfl) (by rfl) ?_
                        try simp only [Act.put, List.setIfInBounds_toArray, List.set_cons_zero, List.set_cons_succ]
                        refine Good.skip (i := 11) (d := some 106) rfl rfl (by kernel_rfl) (by kernel_rfl) (by kernel_rfl) (by rfl) ?_
                        try simp only [Act.put, List.setIfInBounds_toArray, List.set_cons_zero, List.set_cons_succ]
                        refine Good.skip (i := 12) (d := some 107) rfl rfl (by kernel_rfl) (by kernel_rfl) (by kernel_rfl) (by rfl) ?_
                        try simp only [Act.put, List.setIfInBounds_toArray, List.set_cons_zero, List.set_cons_succ]
                        refine Good.skip (i := 13) (d := some 108) rfl rfl (by kernel_rfl) (by kernel_rfl) (by kernel_rfl) (by rfl) ?_
                        try simp only [Act.put, List.setIfInBounds_toArray, List.set_cons_zero, List.set_cons_succ]
                        refine Good.skip (i := 14) (d := some 109) rfl rfl (by kernel_rfl) (by kernel_rfl) (by kernel_rfl) (by rfl) ?_
                        try simp only [Act.put, List.setIfInBounds_toArray, List.set_cons_zero, List.set_cons_succ]
                        refine Good.skip (i := 15) (d := some 110) rfl rfl (by kernel_rfl) (by kernel_rfl) (by kernel_rfl) (by rfl) ?_
                        try simp only [Act.put, List.setIfInBounds_toArray, List.set_cons_zero, List.set_cons_succ]
                        refine Good.skip (i := 16) (d := some 111) rfl rfl (by kernel_rfl) (by kernel_rfl) (by kernel_rfl) (by rfl) ?_
                        try simp only [Act.put, List.setIfInBounds_toArray, List.set_cons_zero, List.set_cons_succ]
                        refine Good.skip (i := 17) (d := some 112) rfl rfl (by kernel_rfl) (by kernel_rfl) (by kernel_rfl) (by rfl) ?_
                        try simp only [Act.put, List.setIfInBounds_toArray, List.set_cons_zero, List.set_cons_succ]
                        refine Good.skip (i := 18) (d := some 113) rfl rfl (by kernel_rfl) (by kernel_rfl) (by kernel_rfl) (by rfl) ?_
                        try simp only [Act.put, List.setIfInBounds_toArray, List.set_cons_zero, List.set_cons_succ]
                        refine Good.skip (i := 19) (d := some 114) rfl rfl (by kernel_rfl) (by kernel_rfl) (by kernel_rfl) (by rfl) ?_
                        try simp only [Act.put, List.setIfInBounds_toArray, List.set_cons_zero, List.set_cons_succ]
                        refine Good.skip (i := 20) (d := some 115) rfl rfl (by kernel_rfl) (by kernel_rfl) (by kernel_rfl) (by rfl) ?_
                        try simp only [Act.put, List.setIfInBounds_toArray, List.set_cons_zero, List.set_cons_succ]
                        refine Good.skip (i := 21) (d := some 116) rfl rfl (by kernel_rfl) (by kernel_rfl) (by kernel_rfl) (by rfl) ?_
                        try simp only [Act.put, List.setIfInBounds_toArray, List.set_cons_zero, List.set_cons_succ]
                        refine Good.skip (i := 22) (d := some 117) rfl rfl (by kernel_rfl) (by kernel_rfl) (by kernel_rfl) (by rfl) ?_
                        try simp only [Act.put, List.setIfInBounds_toArray, List.set_cons_zero, List.set_cons_succ]
                        refine Good.skip (i := 23) (d := some 118) rfl rfl (by kernel_rfl) (by kernel_rfl) (by kernel_rfl) (by rfl) ?_
                        try simp only [Act.put, List.setIfInBounds_toArray, List.set_cons_zero, List.set_cons_succ]
                        refine Good.skip (i := 24) (d := some 119) rfl rfl (by kernel_rfl) (by kernel_rfl) (by kernel_rfl) (by rfl) ?_
                        try simp only [Act.put, List.setIfInBounds_toArray, List.set_cons_zero, List.set_cons_succ]
                        refine Good.skip (i := 25) (d := some 120) rfl rfl (by kernel_rfl) (by kernel_rfl) (by kernel_rfl) (by rfl) ?_
                        try simp only [Act.put, List.setIfInBounds_toArray, List.set_cons_zero, List.set_cons_succ]
                        refine Good.skip (i := 26) (d := some 121) rfl rfl (by kernel_rfl) (by kernel_rfl) (by kernel_rfl) (by rfl) ?_
                        try simp only [Act.put, List.setIfInBounds_toArray, List.set_cons_zero, List.set_cons_succ]
                        refine Good.skip (i := 27) (d := some 122) rfl rfl (by kernel_rfl) (by kernel_rfl) (by kernel_rfl) (by rfl) ?_
                        try simp only [Act.put, List.setIfInBounds_toArray, List.set_cons_zero, List.set_cons_succ]
                        refine Good.skip (i := 28) (d := some 123) rfl rfl (by kernel_rfl) (by kernel_rfl) (by kernel_rfl) (by rfl) ?_
                        try simp only [Act.put, List.setIfInBounds_toArray, List.set_cons_zero, List.set_cons_succ]
                        refine Good.val (i := 29) (d := some 124) (v := ?v27_29_92) rfl rfl (by kernel_rfl) (by kernel_rfl) (by kernel_rfl) (by rfl) (fun w9 hS => ?h27_29_92) ?r27_29_92
                        case h27_29_92 => go_simp; try rfl
                        try simp only [Act.put, List.setIfInBounds_toArray, List.set_cons_zero, List.set_cons_succ]
                        refine Good.val (i := 30) (d := some 125) (v := ?v27_30_93) rfl rfl (by kernel_rfl) (by kernel_rfl) (by kernel_rfl) (by rfl) (fun w9 hS => ?h27_30_93) ?r27_30_93
                        case h27_30_93 => go_simp; try rfl
                        try simp only [Act.put, List.setIfInBounds_toArray, List.set_cons_zero, List.set_cons_succ]
                        refine Good.done (by kernel_rfl) (fun z5 qz5 => ?_) _
                        replace hX := hX.ca qz5
                        replace hY := hY.ca qz5
                        replace qq := bl_ca qq qz5
                        clear qz5
                        go_wp2
                        go_roundg (g2 - 1)
                        · exact ⟨k + 1, by omega, by omega, by go_num, hv.below qq, hA.below qq hA.lt, bl_ca bb qq⟩
                        · omega
                    · have he : (bothE v u != 0) = false := by rw [plain_both HPV.out HPU.out, hnn]; rfl
                      have hv0 : v.k = 0 := Classical.byContradiction fun h => by have := null_lt HPV.out HPU.out (by simpa [h] using hnn) h; rw [HC.out] at this; omega
                      have eqe : equalV v u = (V0, 0) := by unfold equalV heldV; rw [he, hnn]; rfl
                      have eql : lessV v u = (V0, 0) := by unfold lessV heldV; rw [he, hnn]; rfl
                      have H1 := Lib.hid (fun w => (eqe ▸ equal_any v u w : Calls Tryd.prog 36 _ w fun e w' => e = .returned (resT (V0, 0)) ∧ Below w.heap.size w w'))
                      have H2 := Lib.hid (fun w => (eql ▸ less_any v u w : Calls Tryd.prog 38 _ w fun e w' => e = .returned (resT (V0, 0)) ∧ Below w.heap.size w w'))
                      clear eqe eql
                      have HTQ := Lib.hid (fun w => ((show trueB V0 = false from by decide +kernel) ▸ true_any V0 w : Calls Tryd.prog 20 #[.agg #[.int .i64 0, .int .i64 0, .int .u64 0, .string ⟨#[]⟩]] w fun e w' => e = .returned (.bool false) ∧ Below w.heap.size w w'))
                      have HTL := Lib.hid (fun w => ((show trueB V0 = false from by decide +kernel) ▸ true_any V0 w : Calls Tryd.prog 20 #[.agg #[.int .i64 0, .int .i64 0, .int .u64 0, .string ⟨#[]⟩]] w fun e w' => e = .returned (.bool false) ∧ Below w.heap.size w w'))
                      have HQ0 : ∀ W, (Op.equalIn 10000 28 (.agg #[.int .i64 v.k, .int .i64 v.n, .int .u64 v.u, .string v.s]) (.agg #[.int .i64 0, .int .i64 0, .int .u64 0, .string ⟨#[]⟩])).run Tryd.prog W = .ok true W := by
                        have := run_eqVV v V0
                        rwa [(eqVV_iff v V0).2 (plain_null HPV.out hv0)] at this
                      clear he hnn hv0
                      have hA_0 : wr.cell? ⟨GA, 0, none⟩ = some (.int .i64 v.k) := (hA.below qq hA.lt).cell 0
                      have hA_1 : wr.cell? ⟨GA, 1, none⟩ = some (.int .i64 v.n) := (hA.below qq hA.lt).cell 1
                      have hA_2 : wr.cell? ⟨GA, 2, none⟩ = some (.int .u64 v.u) := (hA.below qq hA.lt).cell 2
                      have hA_3 : wr.cell? ⟨GA, 3, none⟩ = some (.string v.s) := (hA.below qq hA.lt).cell 3
                      have hB_0 : wr.cell? ⟨GB, 0, none⟩ = some (.int .i64 u.k) := (hB.below qq hB.lt).cell 0
                      have hB_1 : wr.cell? ⟨GB, 1, none⟩ = some (.int .i64 u.n) := (hB.below qq hB.lt).cell 1
                      have hB_2 : wr.cell? ⟨GB, 2, none⟩ = some (.int .u64 u.u) := (hB.below qq hB.lt).cell 2
                      have hB_3 : wr.cell? ⟨GB, 3, none⟩ = some (.string u.s) := (hB.below qq hB.lt).cell 3
                      go_wp2_with fail
                      clear hA_0 hA_1 hA_2 hA_3 hB_0 hB_1 hB_2 hB_3
                      refine (H1.out _).mono ?_
                      rintro e z1 ⟨rfl, qz1⟩
                      simp only [resT, V0]
                      replace qq := bl_ca qq qz1
                      clear qz1
                      have hX := Blk.new z1 28 #[.int .i64 0, .int .i64 0, .int .u64 0, .string ⟨#[]⟩]
                      have zhX_qq := qq.size
                      replace qq := bl_al qq (.cells #[.int .i64 0, .int .i64 0, .int .u64 0, .string ⟨#[]⟩] 28)
                      have hA_0 : (z1.alloc (.cells #[.int .i64 0, .int .i64 0, .int .u64 0, .string ⟨#[]⟩] 28)).cell? ⟨GA, 0, none⟩ = some (.int .i64 v.k) := (hA.below qq hA.lt).cell 0
                      have hA_1 : (z1.alloc (.cells #[.int .i64 0, .int .i64 0, .int .u64 0, .string ⟨#[]⟩] 28)).cell? ⟨GA, 1, none⟩ = some (.int .i64 v.n) := (hA.below qq hA.lt).cell 1
                      have hA_2 : (z1.alloc (.cells #[.int .i64 0, .int .i64 0, .int .u64 0, .string ⟨#[]⟩] 28)).cell? ⟨GA, 2, none⟩ = some (.int .u64 v.u) := (hA.below qq hA.lt).cell 2
                      have hA_3 : (z1.alloc (.cells #[.int .i64 0, .int .i64 0, .int .u64 0, .string ⟨#[]⟩] 28)).cell? ⟨GA, 3, none⟩ = some (.string v.s) := (hA.below qq hA.lt).cell 3
                      have hB_0 : (z1.alloc (.cells #[.int .i64 0, .int .i64 0, .int .u64 0, .string ⟨#[]⟩] 28)).cell? ⟨GB, 0, none⟩ = some (.int .i64 u.k) := (hB.below qq hB.lt).cell 0
                      have hB_1 : (z1.alloc (.cells #[.int .i64 0, .int .i64 0, .int .u64 0, .string ⟨#[]⟩] 28)).cell? ⟨GB, 1, none⟩ = some (.int .i64 u.n) := (hB.below qq hB.lt).cell 1
                      have hB_2 : (z1.alloc (.cells #[.int .i64 0, .int .i64 0, .int .u64 0, .string ⟨#[]⟩] 28)).cell? ⟨GB, 2, none⟩ = some (.int .u64 u.u) := (hB.below qq hB.lt).cell 2
                      have hB_3 : (z1.alloc (.cells #[.int .i64 0, .int .i64 0, .int .u64 0, .string ⟨#[]⟩] 28)).cell? ⟨GB, 3, none⟩ = some (.string u.s) := (hB.below qq hB.lt).cell 3
                      go_wp2_with fail
                      clear hA_0 hA_1 hA_2 hA_3 hB_0 hB_1 hB_2 hB_3
                      generalize (z1.alloc (.cells #[.int .i64 0, .int .i64 0, .int .u64 0, .string ⟨#[]⟩] 28)) = z2 at *
                      generalize z1.heap.size = Gz2 at *
                      refine (H2.out _).mono ?_
                      rintro e z3 ⟨rfl, qz3⟩
                      simp only [resT, V0]
                      replace hX := hX.ca qz3
                      replace qq := bl_ca qq qz3
                      clear qz3
                      have lhY_hX := hX.lt
                      replace hX := hX.alloc (.cells #[.int .i64 0, .int .i64 0, .int .u64 0, .string ⟨#[]⟩] 28)
                      have hY := Blk.new z3 28 #[.int .i64 0, .int .i64 0, .int .u64 0, .string ⟨#[]⟩]
                      have zhY_qq := qq.size
                      replace qq := bl_al qq (.cells #[.int .i64 0, .int .i64 0, .int .u64 0, .string ⟨#[]⟩] 28)
                      go_wp2_with fail
                      generalize (z3.alloc (.cells #[.int .i64 0, .int .i64 0, .int .u64 0, .string ⟨#[]⟩] 28)) = z4 at *
                      generalize z3.heap.size = Gz4 at *
                      refine wp_region_lin (S := Grew z4) (by kernel_rfl) (Grew.start _) ?_
                      refine Good.val (i := 0) (d := some 95) (v := ?v27_0_1) rfl rfl (by kernel_rfl) (by kernel_rfl) (by kernel_rfl) (by rfl) (fun w9 hS => ?h27_0_1) ?r27_0_1
                      case h27_0_1 => go_simp; try rfl
                      try simp only [Act.put, List.setIfInBounds_toArray, List.set_cons_zero, List.set_cons_succ]
                      refine Good.val (i := 1) (d := some 96) (v := ?v27_1_2) rfl rfl (by kernel_rfl) (by kernel_rfl) (by kernel_rfl) (by rfl) (fun w9 hS => ?h27_1_2) ?r27_1_2
                      case h27_1_2 => go_simp; try rfl
                      try simp only [Act.put, List.setIfInBounds_toArray, List.set_cons_zero, List.set_cons_succ]
                      refine Good.val (i := 2) (d := some 97) (v := ?v27_2_3) rfl rfl (by kernel_rfl) (by kernel_rfl) (by kernel_rfl) (by rfl) (fun w9 hS => ?h27_2_3) ?r27_2_3
                      case h27_2_3 => go_simp; try rfl
                      try simp only [Act.put, List.setIfInBounds_toArray, List.set_cons_zero, List.set_cons_succ]
                      refine Good.val (i := 3) (d := some 98) (v := ?v27_3_4) rfl rfl (by kernel_rfl) (by kernel_rfl) (by kernel_rfl) (by rfl) (fun w9 hS => ?h27_3_4) ?r27_3_4
                      case h27_3_4 => go_simp; try rfl
                      try simp only [Act.put, List.setIfInBounds_toArray, List.set_cons_zero, List.set_cons_succ]
                      refine Good.val (i := 4) (d := some 99) (v := ?v27_4_5) rfl rfl (by kernel_rfl) (by kernel_rfl) (by kernel_rfl) (by rfl) (fun w9 hS => ?h27_4_5) ?r27_4_5
                      case h27_4_5 => go_simp; try rfl
                      try simp only [Act.put, List.setIfInBounds_toArray, List.set_cons_zero, List.set_cons_succ]
                      refine Good.val (i := 5) (d := some 100) (v := ?v27_5_6) rfl rfl (by kernel_rfl) (by kernel_rfl) (by kernel_rfl) (by rfl) (fun w9 hS => ?h27_5_6) ?r27_5_6
                      case h27_5_6 => go_simp; try rfl
                      try simp only [Act.put, List.setIfInBounds_toArray, List.set_cons_zero, List.set_cons_succ]
                      refine Good.val (i := 6) (d := some 101) (v := ?v27_6_7) rfl rfl (by kernel_rfl) (by kernel_rfl) (by kernel_rfl) (by rfl) (fun w9 hS => ?h27_6_7) ?r27_6_7
                      case h27_6_7 => go_simp; try rfl
                      try simp only [Act.put, List.setIfInBounds_toArray, List.set_cons_zero, List.set_cons_succ]
                      refine Good.val (i := 7) (d := some 102) (v := ?v27_7_8) rfl rfl (by kernel_rfl) (by kernel_rfl) (by kernel_rfl) (by rfl) (fun w9 hS => ?h27_7_8) ?r27_7_8
                      case h27_7_8 =>
                        have hb9 := (Blk.below hX hS hX.lt)
                        have b9_0 : w9.cell? ⟨Gz2, 0, none⟩ = some (.int .i64 0) := hb9.cell 0
                        have b9_1 : w9.cell? ⟨Gz2, 1, none⟩ = some (.int .i64 0) := hb9.cell 1
                        have b9_2 : w9.cell? ⟨Gz2, 2, none⟩ = some (.int .u64 0) := hb9.cell 2
                        have b9_3 : w9.cell? ⟨Gz2, 3, none⟩ = some (.string ⟨#[]⟩) := hb9.cell 3
                        go_simp
                        try rfl
                      try simp only [Act.put, List.setIfInBounds_toArray, List.set_cons_zero, List.set_cons_succ]
                      refine Good.call (i := 8) (d := some 103) (fn := ?f27_8_9) (args := ?a27_8_9) (v := ?v27_8_9) rfl rfl (by kernel_rfl) (by kernel_rfl) (by kernel_rfl) (by rfl) (fun w9 hS => ?h27_8_9) (Grew.call fun w9 qS => ?c27_8_9) ?r27_8_9
                      case h27_8_9 => go_simp; refine ⟨?_, ?_⟩ <;> rfl
                      case c27_8_9 => exact HTQ.out _
                      try simp only [Act.put, List.setIfInBounds_toArray, List.set_cons_zero, List.set_cons_succ]
                      refine Good.val (i := 9) (d := some 104) (v := ?v27_9_10) rfl rfl (by kernel_rfl) (by kernel_rfl) (by kernel_rfl) (by rfl) (fun w9 hS => ?h27_9_10) ?r27_9_10
                      case h27_9_10 => go_simp; try rfl
                      try simp only [Act.put, List.setIfInBounds_toArray, List.set_cons_zero, List.set_cons_succ]
                      refine Good.val (i := 10) (d := some 105) (v := ?v27_10_11) rfl rfl (by kernel_rfl) (by kernel_rfl) (by kernel_rfl) (by rfl) (fun w9 hS => ?h27_10_11) ?r27_10_11
                      case h27_10_11 => go_simp; try rfl
                      try simp only [Act.put, List.setIfInBounds_toArray, List.set_cons_zero, List.set_cons_succ]
                      refine Good.val (i := 11) (d := some 106) (v := ?v27_11_12) rfl rfl (by kernel_rfl) (by kernel_rfl) (by kernel_rfl) (by rfl) (fun w9 hS => ?h27_11_12) ?r27_11_12
                      case h27_11_12 => go_simp; try rfl
                      try simp only [Act.put, List.setIfInBounds_toArray, List.set_cons_zero, List.set_cons_succ]
                      refine Good.skip (i := 12) (d := some 107) rfl rfl (by kernel_rfl) (by kernel_rfl) (by kernel_rfl) (by rfl) ?_
                      try simp only [Act.put, List.setIfInBounds_toArray, List.set_cons_zero, List.set_cons_succ]
                      refine Good.skip (i := 13) (d := some 108) rfl rfl (by kernel_rfl) (by kernel_rfl) (by kernel_rfl) (by rfl) ?_
                      try simp only [Act.put, List.setIfInBounds_toArray, List.set_cons_zero, List.set_cons_succ]
                      refine Good.skip (i := 14) (d := some 109) rfl rfl (by kernel_rfl) (by kernel_rfl) (by kernel_rfl) (by rfl) ?_
                      try simp only [Act.put, List.setIfInBounds_toArray, List.set_cons_zero, List.set_cons_succ]
                      refine Good.val (i := 15) (d := some 110) (v := ?v27_15_16) rfl rfl (by kernel_rfl) (by kernel_rfl) (by kernel_rfl) (by rfl) (fun w9 hS => ?h27_15_16) ?r27_15_16
                      case h27_15_16 => go_simp; try rfl
                      try simp only [Act.put, List.setIfInBounds_toArray, List.set_cons_zero, List.set_cons_succ]
                      refine Good.val (i := 16) (d := some 111) (v := ?v27_16_17) rfl rfl (by kernel_rfl) (by kernel_rfl) (by kernel_rfl) (by rfl) (fun w9 hS => ?h27_16_17) ?r27_16_17
                      case h27_16_17 => go_simp; try rfl
                      try simp only [Act.put, List.setIfInBounds_toArray, List.set_cons_zero, List.set_cons_succ]
                      refine Good.val (i := 17) (d := some 112) (v := ?v27_17_18) rfl rfl (by kernel_rfl) (by kernel_rfl) (by kernel_rfl) (by rfl) (fun w9 hS => ?h27_17_18) ?r27_17_18
                      case h27_17_18 => go_simp; try rfl
                      try simp only [Act.put, List.setIfInBounds_toArray, List.set_cons_zero, List.set_cons_succ]
                      refine Good.val (i := 18) (d := some 113) (v := ?v27_18_19) rfl rfl (by kernel_rfl) (by kernel_rfl) (by kernel_rfl) (by rfl) (fun w9 hS => ?h27_18_19) ?r27_18_19
                      case h27_18_19 =>
                        have hb9 := (Blk.below hY hS hY.lt)
                        have b9_0 : w9.cell? ⟨Gz4, 0, none⟩ = some (.int .i64 0) := hb9.cell 0
                        have b9_1 : w9.cell? ⟨Gz4, 1, none⟩ = some (.int .i64 0) := hb9.cell 1
                        have b9_2 : w9.cell? ⟨Gz4, 2, none⟩ = some (.int .u64 0) := hb9.cell 2
                        have b9_3 : w9.cell? ⟨Gz4, 3, none⟩ = some (.string ⟨#[]⟩) := hb9.cell 3
                        go_simp
                        try rfl
                      try simp only [Act.put, List.setIfInBounds_toArray, List.set_cons_zero, List.set_cons_succ]
                      refine Good.call (i := 19) (d := some 114) (fn := ?f27_19_20) (args := ?a27_19_20) (v := ?v27_19_20) rfl rfl (by kernel_rfl) (by kernel_rfl) (by kernel_rfl) (by rfl) (fun w9 hS => ?h27_19_20) (Grew.call fun w9 qS => ?c27_19_20) ?r27_19_20
                      case h27_19_20 => go_simp; refine ⟨?_, ?_⟩ <;> rfl
                      case c27_19_20 => exact HTL.out _
                      try simp only [Act.put, List.setIfInBounds_toArray, List.set_cons_zero, List.set_cons_succ]
                      refine Good.val (i := 20) (d := some 115) (v := ?v27_20_21) rfl rfl (by kernel_rfl) (by kernel_rfl) (by kernel_rfl) (by rfl) (fun w9 hS => ?h27_20_21) ?r27_20_21
                      case h27_20_21 => go_simp; try rfl
                      try simp only [Act.put, List.setIfInBounds_toArray, List.set_cons_zero, List.set_cons_succ]
                      refine Good.val (i := 21) (d := some 116) (v := ?v27_21_22) rfl rfl (by kernel_rfl) (by kernel_rfl) (by kernel_rfl) (by rfl) (fun w9 hS => ?h27_21_22) ?r27_21_22
                      case h27_21_22 => go_simp; try rfl
                      try simp only [Act.put, List.setIfInBounds_toArray, List.set_cons_zero, List.set_cons_succ]
                      refine Good.val (i := 22) (d := some 117) (v := ?v27_22_23) rfl rfl (by kernel_rfl) (by kernel_rfl) (by kernel_rfl) (by rfl) (fun w9 hS => ?h27_22_23) ?r27_22_23
                      case h27_22_23 => go_simp; try rfl
                      try simp only [Act.put, List.setIfInBounds_toArray, List.set_cons_zero, List.set_cons_succ]
                      refine Good.val (i := 23) (d := some 118) (v := ?v27_23_24) rfl rfl (by kernel_rfl) (by kernel_rfl) (by kernel_rfl) (by rfl) (fun w9 hS => ?h27_23_24) ?r27_23_24
                      case h27_23_24 =>
                        have hb9 := (Blk.below hA (bl_ca qq hS) hA.lt)
                        have b9_0 : w9.cell? ⟨GA, 0, none⟩ = some (.int .i64 v.k) := hb9.cell 0
                        have b9_1 : w9.cell? ⟨GA, 1, none⟩ = some (.int .i64 v.n) := hb9.cell 1
                        have b9_2 : w9.cell? ⟨GA, 2, none⟩ = some (.int .u64 v.u) := hb9.cell 2
                        have b9_3 : w9.cell? ⟨GA, 3, none⟩ = some (.string v.s) := hb9.cell 3
                        go_simp
                        try rfl
                      try simp only [Act.put, List.setIfInBounds_toArray, List.set_cons_zero, List.set_cons_succ]
                      refine Good.call (i := 24) (d := some 119) (fn := ?f27_24_25) (args := ?a27_24_25) (v := ?v27_24_25) rfl rfl (by kernel_rfl) (by kernel_rfl) (by kernel_rfl) (by rfl) (fun w9 hS => ?h27_24_25) (Grew.call fun w9 qS => ?c27_24_25) ?r27_24_25
                      case h27_24_25 => go_simp; refine ⟨?_, ?_⟩ <;> rfl
                      case c27_24_25 => exact vnull_any _
                      try simp only [Act.put, List.setIfInBounds_toArray, List.set_cons_zero, List.set_cons_succ]
                      refine Good.val (i := 25) (d := some 120) (v := ?v27_25_26) rfl rfl (by kernel_rfl) (by kernel_rfl) (by kernel_rfl) (by rfl) (fun w9 hS => ?h27_25_26) ?r27_25_26
                      case h27_25_26 => go_simp; try rfl
                      try simp only [Act.put, List.setIfInBounds_toArray, List.set_cons_zero, List.set_cons_succ]
                      refine Good.val (i := 26) (d := some 121) (v := ?v27_26_27) rfl rfl (by kernel_rfl) (by kernel_rfl) (by kernel_rfl) (by rfl) (fun w9 hS => ?h27_26_27) ?r27_26_27
                      case h27_26_27 => go_simp; try rfl
                      try simp only [Act.put, List.setIfInBounds_toArray, List.set_cons_zero, List.set_cons_succ]
                      refine Good.val (i := 27) (d := some 122) (v := ?v27_27_28) rfl rfl (by kernel_rfl) (by kernel_rfl) (by kernel_rfl) (by rfl) (fun w9 hS => ?h27_27_28) ?r27_27_28
                      case h27_27_28 => go_simp; try rfl
                      try simp only [Act.put, List.setIfInBounds_toArray, List.set_cons_zero, List.set_cons_succ]
                      refine Good.val (i := 28) (d := some 123) (v := ?v27_28_29) rfl rfl (by kernel_rfl) (by kernel_rfl) (by kernel_rfl) (by rfl) (fun w9 hS => ?h27_28_29) ?r27_28_29
                      case h27_28_29 => go_simp; try rfl
                      try simp only [Act.put, List.setIfInBounds_toArray, List.set_cons_zero, List.set_cons_succ]
                      refine Good.val (i := 29) (d := some 124) (v := ?v27_29_30) rfl rfl (by kernel_rfl) (by kernel_rfl) (by kernel_rfl) (by rfl) (fun w9 hS => ?h27_29_30) ?r27_29_30
                      case h27_29_30 => go_simp; try rfl
                      try simp only [Act.put, List.setIfInBounds_toArray, List.set_cons_zero, List.set_cons_succ]
                      refine Good.val (i := 30) (d := some 125) (v := ?v27_30_31) rfl rfl (by kernel_rfl) (by kernel_rfl) (by kernel_rfl) (by rfl) (fun w9 hS => ?h27_30_31) ?r27_30_31
                      case h27_30_31 => go_simp; try rfl
                      try simp only [Act.put, List.setIfInBounds_toArray, List.set_cons_zero, List.set_cons_succ]
                      refine Good.done (by kernel_rfl) (fun z5 qz5 => ?_) _
                      replace hX := hX.ca qz5
                      replace hY := hY.ca qz5
                      replace qq := bl_ca qq qz5
                      clear qz5
                      go_wp2
                      go_roundg (g2 - 1)
                      · exact ⟨k + 1, by omega, by omega, by go_num, hv.below qq, hA.below qq hA.lt, bl_ca bb qq⟩
                      · omega
              · have H1 := Lib.hid (fun w => (hc ▸ compare_any v u w : Calls Tryd.prog 34 _ w fun e w' => e = .returned (.int .i64 0) ∧ Below w.heap.size w w'))
                have H2 := Lib.hid (fun w => ((show cmpV u v = 0 from by have := cmpV_anti u v; omega) ▸ compare_any u v w : Calls Tryd.prog 34 _ w fun e w' => e = .returned (.int .i64 0) ∧ Below w.heap.size w w'))
                have HQ : ∀ W, (Op.equalIn 10000 28 (.agg #[.int .i64 v.k, .int .i64 v.n, .int .u64 v.u, .string v.s]) (.agg #[.int .i64 u.k, .int .i64 u.n, .int .u64 u.u, .string u.s])).run Tryd.prog W = .ok true W := by
                  have := run_eqVV v u
                  rwa [(eqVV_iff v u).2 ((cmpV_zero HPV.out HPU.out).1 hc)] at this
                have HC := Lib.hid hc
                clear hc
                have hB := Blk.new wr 28 #[.int .i64 u.k, .int .i64 u.n, .int .u64 u.u, .string u.s]
                have zhB_qq := qq.size
                replace qq := bl_al qq (.cells #[.int .i64 u.k, .int .i64 u.n, .int .u64 u.u, .string u.s] 28)
                have hA_0 : (wr.alloc (.cells #[.int .i64 u.k, .int .i64 u.n, .int .u64 u.u, .string u.s] 28)).cell? ⟨GA, 0, none⟩ = some (.int .i64 v.k) := (hA.below qq hA.lt).cell 0
                have hA_1 : (wr.alloc (.cells #[.int .i64 u.k, .int .i64 u.n, .int .u64 u.u, .string u.s] 28)).cell? ⟨GA, 1, none⟩ = some (.int .i64 v.n) := (hA.below qq hA.lt).cell 1
                have hA_2 : (wr.alloc (.cells #[.int .i64 u.k, .int .i64 u.n, .int .u64 u.u, .string u.s] 28)).cell? ⟨GA, 2, none⟩ = some (.int .u64 v.u) := (hA.below qq hA.lt).cell 2
                have hA_3 : (wr.alloc (.cells #[.int .i64 u.k, .int .i64 u.n, .int .u64 u.u, .string u.s] 28)).cell? ⟨GA, 3, none⟩ = some (.string v.s) := (hA.below qq hA.lt).cell 3
                go_wp2_with fail
                clear c0 c1 c2 c3 hal hA_0 hA_1 hA_2 hA_3
                generalize (wr.alloc (.cells #[.int .i64 u.k, .int .i64 u.n, .int .u64 u.u, .string u.s] 28)) = x1 at *
                refine (H1.out _).mono ?_
                rintro e x2 ⟨rfl, qx2⟩
                replace hB := hB.ca qx2
                replace qq := bl_ca qq qx2
                clear qx2
                have hA_0 : x2.cell? ⟨GA, 0, none⟩ = some (.int .i64 v.k) := (hA.below qq hA.lt).cell 0
                have hA_1 : x2.cell? ⟨GA, 1, none⟩ = some (.int .i64 v.n) := (hA.below qq hA.lt).cell 1
                have hA_2 : x2.cell? ⟨GA, 2, none⟩ = some (.int .u64 v.u) := (hA.below qq hA.lt).cell 2
                have hA_3 : x2.cell? ⟨GA, 3, none⟩ = some (.string v.s) := (hA.below qq hA.lt).cell 3
                have hB_0 : x2.cell? ⟨wr.heap.size, 0, none⟩ = some (.int .i64 u.k) := hB.cell 0
                have hB_1 : x2.cell? ⟨wr.heap.size, 1, none⟩ = some (.int .i64 u.n) := hB.cell 1
                have hB_2 : x2.cell? ⟨wr.heap.size, 2, none⟩ = some (.int .u64 u.u) := hB.cell 2
                have hB_3 : x2.cell? ⟨wr.heap.size, 3, none⟩ = some (.string u.s) := hB.cell 3
                go_wp2_with fail
                clear hA_0 hA_1 hA_2 hA_3 hB_0 hB_1 hB_2 hB_3
                refine (H2.out _).mono ?_
                rintro e x3 ⟨rfl, qx3⟩
                replace hB := hB.ca qx3
                replace qq := bl_ca qq qx3
                clear qx3
                have hA_0 : x3.cell? ⟨GA, 0, none⟩ = some (.int .i64 v.k) := (hA.below qq hA.lt).cell 0
                have hA_1 : x3.cell? ⟨GA, 1, none⟩ = some (.int .i64 v.n) := (hA.below qq hA.lt).cell 1
                have hA_2 : x3.cell? ⟨GA, 2, none⟩ = some (.int .u64 v.u) := (hA.below qq hA.lt).cell 2
                have hA_3 : x3.cell? ⟨GA, 3, none⟩ = some (.string v.s) := (hA.below qq hA.lt).cell 3
                have hB_0 : x3.cell? ⟨wr.heap.size, 0, none⟩ = some (.int .i64 u.k) := hB.cell 0
                have hB_1 : x3.cell? ⟨wr.heap.size, 1, none⟩ = some (.int .i64 u.n) := hB.cell 1
                have hB_2 : x3.cell? ⟨wr.heap.size, 2, none⟩ = some (.int .u64 u.u) := hB.cell 2
                have hB_3 : x3.cell? ⟨wr.heap.size, 3, none⟩ = some (.string u.s) := hB.cell 3
                go_wp2
                clear hA_0 hA_1 hA_2 hA_3 hB_0 hB_1 hB_2 hB_3
                clear H1 H2 HQ
                replace hv := hv.below qq
                replace hA := hA.below qq hA.lt
                replace bb := bl_ca bb qq
                clear qq
                obtain ⟨g2, rfl⟩ : ∃ g2, g2 = gk := ⟨_, rfl⟩
                obtain ⟨wp, rfl⟩ : ∃ wp : World, wp = wr := ⟨_, rfl⟩
                generalize wp.heap.size = GB at *
                go_loopg [64] m (fun g s wr => ∃ (j : Nat), j + g ≤ m ∧ m ≤ j + g ∧ s = .int .i64 j ∧ RdV wr (some ad) m ys ∧ Blk wr GA 28 #[.int .i64 v.k, .int .i64 v.n, .int .u64 v.u, .string v.s] ∧ Blk wr GB 28 #[.int .i64 u.k, .int .i64 u.n, .int .u64 u.u, .string u.s] ∧ Below w.heap.size w wr)
                case atStart => exact ⟨0, by omega, by omega, rfl, hv, hA, hB, bb⟩
                case round =>
                  clear hv hA bb hB
                  obtain ⟨j, hj1, hj2, rfl, hv, hA, hB, bb⟩ := hrel
                  by_cases hj : j < m
                  · obtain ⟨ad3, t, hA3, hti, hal, c0, c1, c2, c3⟩ := hv.2 j hj
                    injection hA3 with hA3
                    subst hA3
                    have HPT := Lib.hid (HPL.out t (List.mem_of_getElem? hti))
                    clear hti
                    have qq := Below.refl wr.heap.size wr
                    have H1 := Lib.hid (fun w => compare_any u t w)
                    have H2 := Lib.hid (fun w => compare_any v t w)
                    have HTR := Lib.hid (fun h => cmpV_trans HPV.out HPU.out HPT.out (show cmpV v u ≤ 0 from by rw [HC.out]; omega) h)
                    generalize cmpV u t = p at *
                    generalize cmpV v t = q at *
                    by_cases hp : p ≤ 0
                    · have hq : q ≤ 0 := HTR.out hp
                      have hp1 : decide (p ≤ 0) = true := decide_eq_true hp
                      have hq1 : decide (0 < q) = false := decide_eq_false (by omega)
                      clear hp hq HTR
                      have hC := Blk.new wr 28 #[.int .i64 t.k, .int .i64 t.n, .int .u64 t.u, .string t.s]
                      have zhC_qq := qq.size
                      replace qq := bl_al qq (.cells #[.int .i64 t.k, .int .i64 t.n, .int .u64 t.u, .string t.s] 28)
                      have hB_0 : (wr.alloc (.cells #[.int .i64 t.k, .int .i64 t.n, .int .u64 t.u, .string t.s] 28)).cell? ⟨GB, 0, none⟩ = some (.int .i64 u.k) := (hB.below qq hB.lt).cell 0
                      have hB_1 : (wr.alloc (.cells #[.int .i64 t.k, .int .i64 t.n, .int .u64 t.u, .string t.s] 28)).cell? ⟨GB, 1, none⟩ = some (.int .i64 u.n) := (hB.below qq hB.lt).cell 1
                      have hB_2 : (wr.alloc (.cells #[.int .i64 t.k, .int .i64 t.n, .int .u64 t.u, .string t.s] 28)).cell? ⟨GB, 2, none⟩ = some (.int .u64 u.u) := (hB.below qq hB.lt).cell 2
                      have hB_3 : (wr.alloc (.cells #[.int .i64 t.k, .int .i64 t.n, .int .u64 t.u, .string t.s] 28)).cell? ⟨GB, 3, none⟩ = some (.string u.s) := (hB.below qq hB.lt).cell 3
                      go_wp2_with fail
                      clear c0 c1 c2 c3 hal hB_0 hB_1 hB_2 hB_3
                      generalize (wr.alloc (.cells #[.int .i64 t.k, .int .i64 t.n, .int .u64 t.u, .string t.s] 28)) = y1 at *
                      refine (H1.out _).mono ?_
                      rintro e y2 ⟨rfl, qy2⟩
                      replace hC := hC.ca qy2
                      replace qq := bl_ca qq qy2
                      clear qy2
                      have hA_0 : y2.cell? ⟨GA, 0, none⟩ = some (.int .i64 v.k) := (hA.below qq hA.lt).cell 0
                      have hA_1 : y2.cell? ⟨GA, 1, none⟩ = some (.int .i64 v.n) := (hA.below qq hA.lt).cell 1
                      have hA_2 : y2.cell? ⟨GA, 2, none⟩ = some (.int .u64 v.u) := (hA.below qq hA.lt).cell 2
                      have hA_3 : y2.cell? ⟨GA, 3, none⟩ = some (.string v.s) := (hA.below qq hA.lt).cell 3
                      have hC_0 : y2.cell? ⟨wr.heap.size, 0, none⟩ = some (.int .i64 t.k) := hC.cell 0
                      have hC_1 : y2.cell? ⟨wr.heap.size, 1, none⟩ = some (.int .i64 t.n) := hC.cell 1
                      have hC_2 : y2.cell? ⟨wr.heap.size, 2, none⟩ = some (.int .u64 t.u) := hC.cell 2
                      have hC_3 : y2.cell? ⟨wr.heap.size, 3, none⟩ = some (.string t.s) := hC.cell 3
                      go_wp2_with fail
                      clear hA_0 hA_1 hA_2 hA_3 hC_0 hC_1 hC_2 hC_3
                      refine (H2.out _).mono ?_
                      rintro e y3 ⟨rfl, qy3⟩
                      replace hC := hC.ca qy3
                      replace qq := bl_ca qq qy3
                      clear qy3
                      go_wp2
                      go_roundg (gk - 1)
                      · exact ⟨j + 1, by omega, by omega, by go_num, hv.below qq, hA.below qq hA.lt, hB.below qq hB.lt, bl_ca bb qq⟩
                      · omega
                    · have hp1 : decide (p ≤ 0) = false := decide_eq_false hp
                      clear hp HTR H2
                      have hC := Blk.new wr 28 #[.int .i64 t.k, .int .i64 t.n, .int .u64 t.u, .string t.s]
                      have zhC_qq := qq.size
                      replace qq := bl_al qq (.cells #[.int .i64 t.k, .int .i64 t.n, .int .u64 t.u, .string t.s] 28)
                      have hB_0 : (wr.alloc (.cells #[.int .i64 t.k, .int .i64 t.n, .int .u64 t.u, .string t.s] 28)).cell? ⟨GB, 0, none⟩ = some (.int .i64 u.k) := (hB.below qq hB.lt).cell 0
                      have hB_1 : (wr.alloc (.cells #[.int .i64 t.k, .int .i64 t.n, .int .u64 t.u, .string t.s] 28)).cell? ⟨GB, 1, none⟩ = some (.int .i64 u.n) := (hB.below qq hB.lt).cell 1
                      have hB_2 : (wr.alloc (.cells #[.int .i64 t.k, .int .i64 t.n, .int .u64 t.u, .string t.s] 28)).cell? ⟨GB, 2, none⟩ = some (.int .u64 u.u) := (hB.below qq hB.lt).cell 2
                      have hB_3 : (wr.alloc (.cells #[.int .i64 t.k, .int .i64 t.n, .int .u64 t.u, .string t.s] 28)).cell? ⟨GB, 3, none⟩ = some (.string u.s) := (hB.below qq hB.lt).cell 3
                      go_wp2_with fail
                      clear c0 c1 c2 c3 hal hB_0 hB_1 hB_2 hB_3
                      generalize (wr.alloc (.cells #[.int .i64 t.k, .int .i64 t.n, .int .u64 t.u, .string t.s] 28)) = y1 at *
                      refine (H1.out _).mono ?_
                      rintro e y2 ⟨rfl, qy2⟩
                      replace hC := hC.ca qy2
                      replace qq := bl_ca qq qy2
                      clear qy2
                      go_wp2
                      go_roundg (gk - 1)
                      · exact ⟨j + 1, by omega, by omega, by go_num, hv.below qq, hA.below qq hA.lt, hB.below qq hB.lt, bl_ca bb qq⟩
                      · omega
                  · have hjd : decide (j < m) = false := decide_eq_false hj
                    clear hj hj1 hj2
                    have qq := Below.refl wr.heap.size wr
                    have he : (bothE v u != 0) = false := by rw [plain_both HPV.out HPU.out, (cmpV_zero HPV.out HPU.out).1 HC.out]; simp
                    by_cases hv0 : v.k = 0
                    · have hnn : (v.k == 0 || u.k == 0) = true := by simp [hv0]
                      have eqe : equalV v u = (V0, 0) := by unfold equalV heldV; rw [he, hnn]; rfl
                      have eql : lessV v u = (V0, 0) := by unfold lessV heldV; rw [he, hnn]; rfl
                      have H1 := Lib.hid (fun w => (eqe ▸ equal_any v u w : Calls Tryd.prog 36 _ w fun e w' => e = .returned (resT (V0, 0)) ∧ Below w.heap.size w w'))
                      have H2 := Lib.hid (fun w => (eql ▸ less_any v u w : Calls Tryd.prog 38 _ w fun e w' => e = .returned (resT (V0, 0)) ∧ Below w.heap.size w w'))
                      clear eqe eql
                      have HTQ := Lib.hid (fun w => ((show trueB V0 = false from by decide +kernel) ▸ true_any V0 w : Calls Tryd.prog 20 #[.agg #[.int .i64 0, .int .i64 0, .int .u64 0, .string ⟨#[]⟩]] w fun e w' => e = .returned (.bool false) ∧ Below w.heap.size w w'))
                      have HTL := Lib.hid (fun w => ((show trueB V0 = false from by decide +kernel) ▸ true_any V0 w : Calls Tryd.prog 20 #[.agg #[.int .i64 0, .int .i64 0, .int .u64 0, .string ⟨#[]⟩]] w fun e w' => e = .returned (.bool false) ∧ Below w.heap.size w w'))
                      have HQ0 : ∀ W, (Op.equalIn 10000 28 (.agg #[.int .i64 v.k, .int .i64 v.n, .int .u64 v.u, .string v.s]) (.agg #[.int .i64 0, .int .i64 0, .int .u64 0, .string ⟨#[]⟩])).run Tryd.prog W = .ok true W := by
                        have := run_eqVV v V0
                        rwa [(eqVV_iff v V0).2 (plain_null HPV.out hv0)] at this
                      clear he hnn hv0
                      have hA_0 : wr.cell? ⟨GA, 0, none⟩ = some (.int .i64 v.k) := (hA.below qq hA.lt).cell 0
                      have hA_1 : wr.cell? ⟨GA, 1, none⟩ = some (.int .i64 v.n) := (hA.below qq hA.lt).cell 1
                      have hA_2 : wr.cell? ⟨GA, 2, none⟩ = some (.int .u64 v.u) := (hA.below qq hA.lt).cell 2
                      have hA_3 : wr.cell? ⟨GA, 3, none⟩ = some (.string v.s) := (hA.below qq hA.lt).cell 3
                      have hB_0 : wr.cell? ⟨GB, 0, none⟩ = some (.int .i64 u.k) := (hB.below qq hB.lt).cell 0
                      have hB_1 : wr.cell? ⟨GB, 1, none⟩ = some (.int .i64 u.n) := (hB.below qq hB.lt).cell 1
                      have hB_2 : wr.cell? ⟨GB, 2, none⟩ = some (.int .u64 u.u) := (hB.below qq hB.lt).cell 2
                      have hB_3 : wr.cell? ⟨GB, 3, none⟩ = some (.string u.s) := (hB.below qq hB.lt).cell 3
                      go_wp2_with fail
                      clear hA_0 hA_1 hA_2 hA_3 hB_0 hB_1 hB_2 hB_3
                      refine (H1.out _).mono ?_
                      rintro e z1 ⟨rfl, qz1⟩
                      simp only [resT, V0]
                      replace qq := bl_ca qq qz1
                      clear qz1
                      have hX := Blk.new z1 28 #[.int .i64 0, .int .i64 0, .int .u64 0, .string ⟨#[]⟩]
                      have zhX_qq := qq.size
                      replace qq := bl_al qq (.cells #[.int .i64 0, .int .i64 0, .int .u64 0, .string ⟨#[]⟩] 28)
                      have hA_0 : (z1.alloc (.cells #[.int .i64 0, .int .i64 0, .int .u64 0, .string ⟨#[]⟩] 28)).cell? ⟨GA, 0, none⟩ = some (.int .i64 v.k) := (hA.below qq hA.lt).cell 0
                      have hA_1 : (z1.alloc (.cells #[.int .i64 0, .int .i64 0, .int .u64 0, .string ⟨#[]⟩] 28)).cell? ⟨GA, 1, none⟩ = some (.int .i64 v.n) := (hA.below qq hA.lt).cell 1
                      have hA_2 : (z1.alloc (.cells #[.int .i64 0, .int .i64 0, .int .u64 0, .string ⟨#[]⟩] 28)).cell? ⟨GA, 2, none⟩ = some (.int .u64 v.u) := (hA.below qq hA.lt).cell 2
                      have hA_3 : (z1.alloc (.cells #[.int .i64 0, .int .i64 0, .int .u64 0, .string ⟨#[]⟩] 28)).cell? ⟨GA, 3, none⟩ = some (.string v.s) := (hA.below qq hA.lt).cell 3
                      have hB_0 : (z1.alloc (.cells #[.int .i64 0, .int .i64 0, .int .u64 0, .string ⟨#[]⟩] 28)).cell? ⟨GB, 0, none⟩ = some (.int .i64 u.k) := (hB.below qq hB.lt).cell 0
                      have hB_1 : (z1.alloc (.cells #[.int .i64 0, .int .i64 0, .int .u64 0, .string ⟨#[]⟩] 28)).cell? ⟨GB, 1, none⟩ = some (.int .i64 u.n) := (hB.below qq hB.lt).cell 1
                      have hB_2 : (z1.alloc (.cells #[.int .i64 0, .int .i64 0, .int .u64 0, .string ⟨#[]⟩] 28)).cell? ⟨GB, 2, none⟩ = some (.int .u64 u.u) := (hB.below qq hB.lt).cell 2
                      have hB_3 : (z1.alloc (.cells #[.int .i64 0, .int .i64 0, .int .u64 0, .string ⟨#[]⟩] 28)).cell? ⟨GB, 3, none⟩ = some (.string u.s) := (hB.below qq hB.lt).cell 3
                      go_wp2_with fail
                      clear hA_0 hA_1 hA_2 hA_3 hB_0 hB_1 hB_2 hB_3
                      generalize (z1.alloc (.cells #[.int .i64 0, .int .i64 0, .int .u64 0, .string ⟨#[]⟩] 28)) = z2 at *
                      generalize z1.heap.size = Gz2 at *
                      refine (H2.out _).mono ?_
                      rintro e z3 ⟨rfl, qz3⟩
                      simp only [resT, V0]
                      replace hX := hX.ca qz3
                      replace qq := bl_ca qq qz3
                      clear qz3
                      have lhY_hX := hX.lt
                      replace hX := hX.alloc (.cells #[.int .i64 0, .int .i64 0, .int .u64 0, .string ⟨#[]⟩] 28)
                      have hY := Blk.new z3 28 #[.int .i64 0, .int .i64 0, .int .u64 0, .string ⟨#[]⟩]
                      have zhY_qq := qq.size
                      replace qq := bl_al qq (.cells #[.int .i64 0, .int .i64 0, .int .u64 0, .string ⟨#[]⟩] 28)
                      go_wp2_with fail
                      generalize (z3.alloc (.cells #[.int .i64 0, .int .i64 0, .int .u64 0, .string ⟨#[]⟩] 28)) = z4 at *
                      generalize z3.heap.size = Gz4 at *
                      refine wp_region_lin (S := Grew z4) (by kernel_rfl) (Grew.start _) ?_
                      refine Good.val (i := 0) (d := some 95) (v := ?v27_0_94) rfl rfl (by kernel_rfl) (by kernel_rfl) (by kernel_rfl) (by rfl) (fun w9 hS => ?h27_0_94) ?r27_0_94
                      case h27_0_94 => go_simp; try rfl
                      try simp only [Act.put, List.setIfInBounds_toArray, List.set_cons_zero, List.set_cons_succ]
                      refine Good.val (i := 1) (d := some 96) (v := ?v27_1_95) rfl rfl (by kernel_rfl) (by kernel_rfl) (by kernel_rfl) (by rfl) (fun w9 hS => ?h27_1_95) ?r27_1_95
                      case h27_1_95 => go_simp; try rfl
                      try simp only [Act.put, List.setIfInBounds_toArray, List.set_cons_zero, List.set_cons_succ]
                      refine Good.val (i := 2) (d := some 97) (v := ?v27_2_96) rfl rfl (by kernel_rfl) (by kernel_rfl) (by kernel_rfl) (by rfl) (fun w9 hS => ?h27_2_96) ?r27_2_96
                      case h27_2_96 => go_simp; try rfl
                      try simp only [Act.put, List.setIfInBounds_toArray, List.set_cons_zero, List.set_cons_succ]
                      refine Good.val (i := 3) (d := some 98) (v := ?v27_3_97) rfl rfl (by kernel_rfl) (by kernel_rfl) (by kernel_rfl) (by rfl) (fun w9 hS => ?h27_3_97) ?r27_3_97
                      case h27_3_97 => go_simp; try rfl
                      try simp only [Act.put, List.setIfInBounds_toArray, List.set_cons_zero, List.set_cons_succ]
                      refine Good.val (i := 4) (d := some 99) (v := ?v27_4_98) rfl rfl (by kernel_rfl) (by kernel_rfl) (by kernel_rfl) (by rfl) (fun w9 hS => ?h27_4_98) ?r27_4_98
                      case h27_4_98 => go_simp; try rfl
                      try simp only [Act.put, List.setIfInBounds_toArray, List.set_cons_zero, List.set_cons_succ]
                      refine Good.val (i := 5) (d := some 100) (v := ?v27_5_99) rfl rfl (by kernel_rfl) (by kernel_rfl) (by kernel_rfl) (by rfl) (fun w9 hS => ?h27_5_99) ?r27_5_99
                      case h27_5_99 => go_simp; try rfl
                      try simp only [Act.put, List.setIfInBounds_toArray, List.set_cons_zero, List.set_cons_succ]
                      refine Good.val (i := 6) (d := some 101) (v := ?v27_6_100) rfl rfl (by kernel_rfl) (by kernel_rfl) (by kernel_rfl) (by rfl) (fun w9 hS => ?h27_6_100) ?r27_6_100
                      case h27_6_100 => go_simp; try rfl
                      try simp only [Act.put, List.setIfInBounds_toArray, List.set_cons_zero, List.set_cons_succ]
                      refine Good.val (i := 7) (d := some 102) (v := ?v27_7_101) rfl rfl (by kernel_rfl) (by kernel_rfl) (by kernel_rfl) (by rfl) (fun w9 hS => ?h27_7_101) ?r27_7_101
                      case h27_7_101 =>
                        have hb9 := (Blk.below hX hS hX.lt)
                        have b9_0 : w9.cell? ⟨Gz2, 0, none⟩ = some (.int .i64 0) := hb9.cell 0
                        have b9_1 : w9.cell? ⟨Gz2, 1, none⟩ = some (.int .i64 0) := hb9.cell 1
                        have b9_2 : w9.cell? ⟨Gz2, 2, none⟩ = some (.int .u64 0) := hb9.cell 2
                        have b9_3 : w9.cell? ⟨Gz2, 3, none⟩ = some (.string ⟨#[]⟩) := hb9.cell 3
                        go_simp
                        try rfl
                      try simp only [Act.put, List.setIfInBounds_toArray, List.set_cons_zero, List.set_cons_succ]
                      refine Good.call (i := 8) (d := some 103) (fn := ?f27_8_102) (args := ?a27_8_102) (v := ?v27_8_102) rfl rfl (by kernel_rfl) (by kernel_rfl) (by kernel_rfl) (by rfl) (fun w9 hS => ?h27_8_102) (Grew.call fun w9 qS => ?c27_8_102) ?r27_8_102
                      case h27_8_102 => go_simp; refine ⟨?_, ?_⟩ <;> rfl
                      case c27_8_102 => exact HTQ.out _
                      try simp only [Act.put, List.setIfInBounds_toArray, List.set_cons_zero, List.set_cons_succ]
                      refine Good.val (i := 9) (d := some 104) (v := ?v27_9_103) rfl rfl (by kernel_rfl) (by kernel_rfl) (by kernel_rfl) (by rfl) (fun w9 hS => ?h27_9_103) ?r27_9_103
                      case h27_9_103 => go_simp; try rfl
                      try simp only [Act.put, List.setIfInBounds_toArray, List.set_cons_zero, List.set_cons_succ]
                      refine Good.val (i := 10) (d := some 105) (v := ?v27_10_104) rfl rfl (by kernel_rfl) (by kernel_rfl) (by kernel_rfl) (by rfl) (fun w9 hS => ?h27_10_104) ?r27_10_104
                      case h27_10_104 => go_simp; try rfl
                      try simp only [Act.put, List.setIfInBounds_toArray, List.set_cons_zero, List.set_cons_succ]
                      refine Good.val (i := 11) (d := some 106) (v := ?v27_11_105) rfl rfl (by kernel_rfl) (by kernel_rfl) (by kernel_rfl) (by rfl) (fun w9 hS => ?h27_11_105) ?r27_11_105
                      case h27_11_105 => go_simp; try rfl
                      try simp only [Act.put, List.setIfInBounds_toArray, List.set_cons_zero, List.set_cons_succ]
                      refine Good.val (i := 12) (d := some 107) (v := ?v27_12_106) rfl rfl (by kernel_rfl) (by kernel_rfl) (by kernel_rfl) (by rfl) (fun w9 hS => ?h27_12_106) ?r27_12_106
                      case h27_12_106 =>
                        have hb9 := (Blk.below hA (bl_ca qq hS) hA.lt)
                        have b9_0 : w9.cell? ⟨GA, 0, none⟩ = some (.int .i64 v.k) := hb9.cell 0
                        have b9_1 : w9.cell? ⟨GA, 1, none⟩ = some (.int .i64 v.n) := hb9.cell 1
                        have b9_2 : w9.cell? ⟨GA, 2, none⟩ = some (.int .u64 v.u) := hb9.cell 2
                        have b9_3 : w9.cell? ⟨GA, 3, none⟩ = some (.string v.s) := hb9.cell 3
                        go_simp
                        try rfl
                      try simp only [Act.put, List.setIfInBounds_toArray, List.set_cons_zero, List.set_cons_succ]
                      refine Good.call (i := 13) (d := some 108) (fn := ?f27_13_107) (args := ?a27_13_107) (v := ?v27_13_107) rfl rfl (by kernel_rfl) (by kernel_rfl) (by kernel_rfl) (by rfl) (fun w9 hS => ?h27_13_107) (Grew.call fun w9 qS => ?c27_13_107) ?r27_13_107
                      case h27_13_107 => go_simp; refine ⟨?_, ?_⟩ <;> rfl
                      case c27_13_107 => exact vnull_any _
                      try simp only [Act.put, List.setIfInBounds_toArray, List.set_cons_zero, List.set_cons_succ]
                      refine Good.val (i := 14) (d := some 109) (v := ?v27_14_108) rfl rfl (by kernel_rfl) (by kernel_rfl) (by kernel_rfl) (by rfl) (fun w9 hS => ?h27_14_108) ?r27_14_108
                      case h27_14_108 => go_simp; try rfl
                      try simp only [Act.put, List.setIfInBounds_toArray, List.set_cons_zero, List.set_cons_succ]
                      refine Good.val (i := 15) (d := some 110) (v := ?v27_15_109) rfl rfl (by kernel_rfl) (by kernel_rfl) (by kernel_rfl) (by rfl) (fun w9 hS => ?h27_15_109) ?r27_15_109
                      case h27_15_109 => go_simp; try rfl
                      try simp only [Act.put, List.setIfInBounds_toArray, List.set_cons_zero, List.set_cons_succ]
                      refine Good.val (i := 16) (d := some 111) (v := ?v27_16_110) rfl rfl (by kernel_rfl) (by kernel_rfl) (by kernel_rfl) (by rfl) (fun w9 hS => ?h27_16_110) ?r27_16_110
                      case h27_16_110 => go_simp; try rfl
                      try simp only [Act.put, List.setIfInBounds_toArray, List.set_cons_zero, List.set_cons_succ]
                      refine Good.val (i := 17) (d := some 112) (v := ?v27_17_111) rfl rfl (by kernel_rfl) (by kernel_rfl) (by kernel_rfl) (by rfl) (fun w9 hS => ?h27_17_111) ?r27_17_111
                      case h27_17_111 => go_simp; try rfl
                      try simp only [Act.put, List.setIfInBounds_toArray, List.set_cons_zero, List.set_cons_succ]
                      refine Good.val (i := 18) (d := some 113) (v := ?v27_18_112) rfl rfl (by kernel_rfl) (by kernel_rfl) (by kernel_rfl) (by rfl) (fun w9 hS => ?h27_18_112) ?r27_18_112
                      case h27_18_112 =>
                        have hb9 := (Blk.below hY hS hY.lt)
                        have b9_0 : w9.cell? ⟨Gz4, 0, none⟩ = some (.int .i64 0) := hb9.cell 0
                        have b9_1 : w9.cell? ⟨Gz4, 1, none⟩ = some (.int .i64 0) := hb9.cell 1
                        have b9_2 : w9.cell? ⟨Gz4, 2, none⟩ = some (.int .u64 0) := hb9.cell 2
                        have b9_3 : w9.cell? ⟨Gz4, 3, none⟩ = some (.string ⟨#[]⟩) := hb9.cell 3
                        go_simp
                        try rfl
                      try simp only [Act.put, List.setIfInBounds_toArray, List.set_cons_zero, List.set_cons_succ]
                      refine Good.call (i := 19) (d := some 114) (fn := ?f27_19_113) (args := ?a27_19_113) (v := ?v27_19_113) rfl rfl (by kernel_rfl) (by kernel_rfl) (by kernel_rfl) (by rfl) (fun w9 hS => ?h27_19_113) (Grew.call fun w9 qS => ?c27_19_113) ?r27_19_113
                      case h27_19_113 => go_simp; refine ⟨?_, ?_⟩ <;> rfl
                      case c27_19_113 => exact HTL.out _
                      try simp only [Act.put, List.setIfInBounds_toArray, List.set_cons_zero, List.set_cons_succ]
                      refine Good.val (i := 20) (d := some 115) (v := ?v27_20_114) rfl rfl (by kernel_rfl) (by kernel_rfl) (by kernel_rfl) (by rfl) (fun w9 hS => ?h27_20_114) ?r27_20_114
                      case h27_20_114 => go_simp; try rfl
                      try simp only [Act.put, List.setIfInBounds_toArray, List.set_cons_zero, List.set_cons_succ]
                      refine Good.val (i := 21) (d := some 116) (v := ?v27_21_115) rfl rfl (by kernel_rfl) (by kernel_rfl) (by kernel_rfl) (by rfl) (fun w9 hS => ?h27_21_115) ?r27_21_115
                      case h27_21_115 => go_simp; try rfl
                      try simp only [Act.put, List.setIfInBounds_toArray, List.set_cons_zero, List.set_cons_succ]
                      refine Good.val (i := 22) (d := some 117) (v := ?v27_22_116) rfl rfl (by kernel_rfl) (by kernel_rfl) (by kernel_rfl) (by rfl) (fun w9 hS => ?h27_22_116) ?r27_22_116
                      case h27_22_116 => go_simp; try rfl
                      try simp only [Act.put, List.setIfInBounds_toArray, List.set_cons_zero, List.set_cons_succ]
                      refine Good.skip (i := 23) (d := some 118) rfl rfl (by kernel_rfl) (by kernel_rfl) (by kernel_rfl) (by rfl) ?_
                      try simp only [Act.put, List.setIfInBounds_toArray, List.set_cons_zero, List.set_cons_succ]
                      refine Good.skip (i := 24) (d := some 119) rfl rfl (by kernel_rfl) (by kernel_rfl) (by kernel_rfl) (by rfl) ?_
                      try simp only [Act.put, List.setIfInBounds_toArray, List.set_cons_zero, List.set_cons_succ]
                      refine Good.skip (i := 25) (d := some 120) rfl rfl (by kernel_rfl) (by kernel_rfl) (by kernel_rfl) (by rfl) ?_
                      try simp only [Act.put, List.setIfInBounds_toArray, List.set_cons_zero, List.set_cons_succ]
                      refine Good.val (i := 26) (d := some 121) (v := ?v27_26_120) rfl rfl (by kernel_rfl) (by kernel_rfl) (by kernel_rfl) (by rfl) (fun w9 hS => ?h27_26_120) ?r27_26_120
                      case h27_26_120 => go_simp; try rfl
                      try simp only [Act.put, List.setIfInBounds_toArray, List.set_cons_zero, List.set_cons_succ]
                      refine Good.val (i := 27) (d := some 122) (v := ?v27_27_121) rfl rfl (by kernel_rfl) (by kernel_rfl) (by kernel_rfl) (by rfl) (fun w9 hS => ?h27_27_121) ?r27_27_121
                      case h27_27_121 => go_simp; try rfl
                      try simp only [Act.put, List.setIfInBounds_toArray, List.set_cons_zero, List.set_cons_succ]
                      refine Good.val (i := 28) (d := some 123) (v := ?v27_28_122) rfl rfl (by kernel_rfl) (by kernel_rfl) (by kernel_rfl) (by rfl) (fun w9 hS => ?h27_28_122) ?r27_28_122
                      case h27_28_122 => go_simp; try rfl
                      try simp only [Act.put, List.setIfInBounds_toArray, List.set_cons_zero, List.set_cons_succ]
                      refine Good.val (i := 29) (d := some 124) (v := ?v27_29_123) rfl rfl (by kernel_rfl) (by kernel_rfl) (by kernel_rfl) (by rfl) (fun w9 hS => ?h27_29_123) ?r27_29_123
                      case h27_29_123 => go_simp; try rfl
                      try simp only [Act.put, List.setIfInBounds_toArray, List.set_cons_zero, List.set_cons_succ]
                      refine Good.val (i := 30) (d := some 125) (v := ?v27_30_124) rfl rfl (by kernel_rfl) (by kernel_rfl) (by kernel_rfl) (by rfl) (fun w9 hS => ?h27_30_124) ?r27_30_124
                      case h27_30_124 => go_simp; try rfl
                      try simp only [Act.put, List.setIfInBounds_toArray, List.set_cons_zero, List.set_cons_succ]
                      refine Good.done (by kernel_rfl) (fun z5 qz5 => ?_) _
                      replace hX := hX.ca qz5
                      replace hY := hY.ca qz5
                      replace qq := bl_ca qq qz5
                      clear qz5
                      go_wp2
                      go_roundg (g2 - 1)
                      · exact ⟨k + 1, by omega, by omega, by go_num, hv.below qq, hA.below qq hA.lt, bl_ca bb qq⟩
                      · omega
                    · have hnn : (v.k == 0 || u.k == 0) = false := by rw [← (cmpV_zero HPV.out HPU.out).1 HC.out]; simp [hv0]
                      have eqe : equalV v u = (VB1, 0) := by unfold equalV heldV; rw [he, hnn, HC.out]; rfl
                      have eql : lessV v u = (VB0, 0) := by unfold lessV heldV; rw [he, hnn, HC.out]; rfl
                      have H1 := Lib.hid (fun w => (eqe ▸ equal_any v u w : Calls Tryd.prog 36 _ w fun e w' => e = .returned (resT (VB1, 0)) ∧ Below w.heap.size w w'))
                      have H2 := Lib.hid (fun w => (eql ▸ less_any v u w : Calls Tryd.prog 38 _ w fun e w' => e = .returned (resT (VB0, 0)) ∧ Below w.heap.size w w'))
                      clear eqe eql
                      have HTQ := Lib.hid (fun w => ((show trueB VB1 = true from by decide +kernel) ▸ true_any VB1 w : Calls Tryd.prog 20 #[.agg #[.int .i64 1, .int .i64 1, .int .u64 0, .string ⟨#[]⟩]] w fun e w' => e = .returned (.bool true) ∧ Below w.heap.size w w'))
                      have HTL := Lib.hid (fun w => ((show trueB VB0 = false from by decide +kernel) ▸ true_any VB0 w : Calls Tryd.prog 20 #[.agg #[.int .i64 1, .int .i64 0, .int .u64 0, .string ⟨#[]⟩]] w fun e w' => e = .returned (.bool false) ∧ Below w.heap.size w w'))
                      have HQ0 : ∀ W, (Op.equalIn 10000 28 (.agg #[.int .i64 v.k, .int .i64 v.n, .int .u64 v.u, .string v.s]) (.agg #[.int .i64 0, .int .i64 0, .int .u64 0, .string ⟨#[]⟩])).run Tryd.prog W = .ok false W := by
                        have := run_eqVV v V0
                        rwa [show eqVV v V0 = false from by cases e : eqVV v V0; rfl; exact absurd (show v.k = 0 from by rw [(eqVV_iff v V0).1 e]; rfl) hv0] at this
                      clear he hnn hv0
                      have hA_0 : wr.cell? ⟨GA, 0, none⟩ = some (.int .i64 v.k) := (hA.below qq hA.lt).cell 0
                      have hA_1 : wr.cell? ⟨GA, 1, none⟩ = some (.int .i64 v.n) := (hA.below qq hA.lt).cell 1
                      have hA_2 : wr.cell? ⟨GA, 2, none⟩ = some (.int .u64 v.u) := (hA.below qq hA.lt).cell 2
                      have hA_3 : wr.cell? ⟨GA, 3, none⟩ = some (.string v.s) := (hA.below qq hA.lt).cell 3
                      have hB_0 : wr.cell? ⟨GB, 0, none⟩ = some (.int .i64 u.k) := (hB.below qq hB.lt).cell 0
                      have hB_1 : wr.cell? ⟨GB, 1, none⟩ = some (.int .i64 u.n) := (hB.below qq hB.lt).cell 1
                      have hB_2 : wr.cell? ⟨GB, 2, none⟩ = some (.int .u64 u.u) := (hB.below qq hB.lt).cell 2
                      have hB_3 : wr.cell? ⟨GB, 3, none⟩ = some (.string u.s) := (hB.below qq hB.lt).cell 3
                      go_wp2_with fail
                      clear hA_0 hA_1 hA_2 hA_3 hB_0 hB_1 hB_2 hB_3
                      refine (H1.out _).mono ?_
                      rintro e z1 ⟨rfl, qz1⟩
                      simp only [resT, VB1]
                      replace qq := bl_ca qq qz1
                      clear qz1
                      have hX := Blk.new z1 28 #[.int .i64 1, .int .i64 1, .int .u64 0, .string ⟨#[]⟩]
                      have zhX_qq := qq.size
                      replace qq := bl_al qq (.cells #[.int .i64 1, .int .i64 1, .int .u64 0, .string ⟨#[]⟩] 28)
                      have hA_0 : (z1.alloc (.cells #[.int .i64 1, .int .i64 1, .int .u64 0, .string ⟨#[]⟩] 28)).cell? ⟨GA, 0, none⟩ = some (.int .i64 v.k) := (hA.below qq hA.lt).cell 0
                      have hA_1 : (z1.alloc (.cells #[.int .i64 1, .int .i64 1, .int .u64 0, .string ⟨#[]⟩] 28)).cell? ⟨GA, 1, none⟩ = some (.int .i64 v.n) := (hA.below qq hA.lt).cell 1
                      have hA_2 : (z1.alloc (.cells #[.int .i64 1, .int .i64 1, .int .u64 0, .string ⟨#[]⟩] 28)).cell? ⟨GA, 2, none⟩ = some (.int .u64 v.u) := (hA.below qq hA.lt).cell 2
                      have hA_3 : (z1.alloc (.cells #[.int .i64 1, .int .i64 1, .int .u64 0, .string ⟨#[]⟩] 28)).cell? ⟨GA, 3, none⟩ = some (.string v.s) := (hA.below qq hA.lt).cell 3
                      have hB_0 : (z1.alloc (.cells #[.int .i64 1, .int .i64 1, .int .u64 0, .string ⟨#[]⟩] 28)).cell? ⟨GB, 0, none⟩ = some (.int .i64 u.k) := (hB.below qq hB.lt).cell 0
                      have hB_1 : (z1.alloc (.cells #[.int .i64 1, .int .i64 1, .int .u64 0, .string ⟨#[]⟩] 28)).cell? ⟨GB, 1, none⟩ = some (.int .i64 u.n) := (hB.below qq hB.lt).cell 1
                      have hB_2 : (z1.alloc (.cells #[.int .i64 1, .int .i64 1, .int .u64 0, .string ⟨#[]⟩] 28)).cell? ⟨GB, 2, none⟩ = some (.int .u64 u.u) := (hB.below qq hB.lt).cell 2
                      have hB_3 : (z1.alloc (.cells #[.int .i64 1, .int .i64 1, .int .u64 0, .string ⟨#[]⟩] 28)).cell? ⟨GB, 3, none⟩ = some (.string u.s) := (hB.below qq hB.lt).cell 3
                      go_wp2_with fail
                      clear hA_0 hA_1 hA_2 hA_3 hB_0 hB_1 hB_2 hB_3
                      generalize (z1.alloc (.cells #[.int .i64 1, .int .i64 1, .int .u64 0, .string ⟨#[]⟩] 28)) = z2 at *
                      generalize z1.heap.size = Gz2 at *
                      refine (H2.out _).mono ?_
                      rintro e z3 ⟨rfl, qz3⟩
                      simp only [resT, VB0]
                      replace hX := hX.ca qz3
                      replace qq := bl_ca qq qz3
                      clear qz3
                      have lhY_hX := hX.lt
                      replace hX := hX.alloc (.cells #[.int .i64 1, .int .i64 0, .int .u64 0, .string ⟨#[]⟩] 28)
                      have hY := Blk.new z3 28 #[.int .i64 1, .int .i64 0, .int .u64 0, .string ⟨#[]⟩]
                      have zhY_qq := qq.size
                      replace qq := bl_al qq (.cells #[.int .i64 1, .int .i64 0, .int .u64 0, .string ⟨#[]⟩] 28)
                      go_wp2_with fail
                      generalize (z3.alloc (.cells #[.int .i64 1, .int .i64 0, .int .u64 0, .string ⟨#[]⟩] 28)) = z4 at *
                      generalize z3.heap.size = Gz4 at *
                      refine wp_region_lin (S := Grew z4) (by kernel_rfl) (Grew.start _) ?_
                      refine Good.val (i := 0) (d := some 95) (v := ?v27_0_125) rfl rfl (by kernel_rfl) (by kernel_rfl) (by kernel_rfl) (by rfl) (fun w9 hS => ?h27_0_125) ?r27_0_125
                      case h27_0_125 => go_simp; try rfl
                      try simp only [Act.put, List.setIfInBounds_toArray, List.set_cons_zero, List.set_cons_succ]
                      refine Good.val (i := 1) (d := some 96) (v := ?v27_1_126) rfl rfl (by kernel_rfl) (by kernel_rfl) (by kernel_rfl) (by rfl) (fun w9 hS => ?h27_1_126) ?r27_1_126
                      case h27_1_126 => go_simp; try rfl
                      try simp only [Act.put, List.setIfInBounds_toArray, List.set_cons_zero, List.set_cons_succ]
                      refine Good.val (i := 2) (d := some 97) (v := ?v27_2_127) rfl rfl (by kernel_rfl) (by kernel_rfl) (by kernel_rfl) (by rfl) (fun w9 hS => ?h27_2_127) ?r27_2_127
                      case h27_2_127 => go_simp; try rfl
                      try simp only [Act.put, List.setIfInBounds_toArray, List.set_cons_zero, List.set_cons_succ]
                      refine Good.val (i := 3) (d := some 98) (v := ?v27_3_128) rfl rfl (by kernel_rfl) (by kernel_rfl) (by kernel_rfl) (by rfl) (fun w9 hS => ?h27_3_128) ?r27_3_128
                      case h27_3_128 => go_simp; try rfl
                      try simp only [Act.put, List.setIfInBounds_toArray, List.set_cons_zero, List.set_cons_succ]
                      refine Good.val (i := 4) (d := some 99) (v := ?v27_4_129) rfl rfl (by kernel_rfl) (by kernel_rfl) (by kernel_rfl) (by rfl) (fun w9 hS => ?h27_4_129) ?r27_4_129
                      case h27_4_129 => go_simp; try rfl
                      try simp only [Act.put, List.setIfInBounds_toArray, List.set_cons_zero, List.set_cons_succ]
                      refine Good.val (i := 5) (d := some 100) (v := ?v27_5_130) rfl rfl (by kernel_rfl) (by kernel_rfl) (by kernel_rfl) (by rfl) (fun w9 hS => ?h27_5_130) ?r27_5_130
                      case h27_5_130 => go_simp; try rfl
                      try simp only [Act.put, List.setIfInBounds_toArray, List.set_cons_zero, List.set_cons_succ]
                      refine Good.val (i := 6) (d := some 101) (v := ?v27_6_131) rfl rfl (by kernel_rfl) (by kernel_rfl) (by kernel_rfl) (by rfl) (fun w9 hS => ?h27_6_131) ?r27_6_131
                      case h27_6_131 => go_simp; try rfl
                      try simp only [Act.put, List.setIfInBounds_toArray, List.set_cons_zero, List.set_cons_succ]
                      refine Good.val (i := 7) (d := some 102) (v := ?v27_7_132) rfl rfl (by kernel_rfl) (by kernel_rfl) (by kernel_rfl) (by rfl) (fun w9 hS => ?h27_7_132) ?r27_7_132
                      case h27_7_132 =>
                        have hb9 := (Blk.below hX hS hX.lt)
                        have b9_0 : w9.cell? ⟨Gz2, 0, none⟩ = some (.int .i64 1) := hb9.cell 0
                        have b9_1 : w9.cell? ⟨Gz2, 1, none⟩ = some (.int .i64 1) := hb9.cell 1
                        have b9_2 : w9.cell? ⟨Gz2, 2, none⟩ = some (.int .u64 0) := hb9.cell 2
                        have b9_3 : w9.cell? ⟨Gz2, 3, none⟩ = some (.string ⟨#[]⟩) := hb9.cell 3
                        go_simp
                        try rfl
                      try simp only [Act.put, List.setIfInBounds_toArray, List.set_cons_zero, List.set_cons_succ]
                      refine Good.call (i := 8) (d := some 103) (fn := ?f27_8_133) (args := ?a27_8_133) (v := ?v27_8_133) rfl rfl (by kernel_rfl) (by kernel_rfl) (by kernel_rfl) (by rfl) (fun w9 hS => ?h27_8_133) (Grew.call fun w9 qS => ?c27_8_133) ?r27_8_133
                      case h27_8_133 => go_simp; refine ⟨?_, ?_⟩ <;> rfl
                      case c27_8_133 => exact HTQ.out _
                      try simp only [Act.put, List.setIfInBounds_toArray, List.set_cons_zero, List.set_cons_succ]
                      refine Good.val (i := 9) (d := some 104) (v := ?v27_9_134) rfl rfl (by kernel_rfl) (by kernel_rfl) (by kernel_rfl) (by rfl) (fun w9 hS => ?h27_9_134) ?r27_9_134
                      case h27_9_134 => go_simp; try rfl
                      try simp only [Act.put, List.setIfInBounds_toArray, List.set_cons_zero, List.set_cons_succ]
                      refine Good.val (i := 10) (d := some 105) (v := ?v27_10_135) rfl rfl (by kernel_rfl) (by kernel_rfl) (by kernel_rfl) (by rfl) (fun w9 hS => ?h27_10_135) ?r27_10_135
                      case h27_10_135 => go_simp; try rfl
                      try simp only [Act.put, List.setIfInBounds_toArray, List.set_cons_zero, List.set_cons_succ]
                      refine Good.val (i := 11) (d := some 106) (v := ?v27_11_136) rfl rfl (by kernel_rfl) (by kernel_rfl) (by kernel_rfl) (by rfl) (fun w9 hS => ?h27_11_136) ?r27_11_136
                      case h27_11_136 => go_simp; try rfl
                      try simp only [Act.put, List.setIfInBounds_toArray, List.set_cons_zero, List.set_cons_succ]
                      refine Good.val (i := 12) (d := some 107) (v := ?v27_12_137) rfl rfl (by kernel_rfl) (by kernel_rfl) (by kernel_rfl) (by rfl) (fun w9 hS => ?h27_12_137) ?r27_12_137
                      case h27_12_137 =>
                        have hb9 := (Blk.below hA (bl_ca qq hS) hA.lt)
                        have b9_0 : w9.cell? ⟨GA, 0, none⟩ = some (.int .i64 v.k) := hb9.cell 0
                        have b9_1 : w9.cell? ⟨GA, 1, none⟩ = some (.int .i64 v.n) := hb9.cell 1
                        have b9_2 : w9.cell? ⟨GA, 2, none⟩ = some (.int .u64 v.u) := hb9.cell 2
                        have b9_3 : w9.cell? ⟨GA, 3, none⟩ = some (.string v.s) := hb9.cell 3
                        go_simp
                        try rfl
                      try simp only [Act.put, List.setIfInBounds_toArray, List.set_cons_zero, List.set_cons_succ]
                      refine Good.call (i := 13) (d := some 108) (fn := ?f27_13_138) (args := ?a27_13_138) (v := ?v27_13_138) rfl rfl (by kernel_rfl) (by kernel_rfl) (by kernel_rfl) (by rfl) (fun w9 hS => ?h27_13_138) (Grew.call fun w9 qS => ?c27_13_138) ?r27_13_138
                      case h27_13_138 => go_simp; refine ⟨?_, ?_⟩ <;> rfl
                      case c27_13_138 => exact vnull_any _
                      try simp only [Act.put, List.setIfInBounds_toArray, List.set_cons_zero, List.set_cons_succ]
                      refine Good.val (i := 14) (d := some 109) (v := ?v27_14_139) rfl rfl (by kernel_rfl) (by kernel_rfl) (by kernel_rfl) (by rfl) (fun w9 hS => ?h27_14_139) ?r27_14_139
                      case h27_14_139 => go_simp; try rfl
                      try simp only [Act.put, List.setIfInBounds_toArray, List.set_cons_zero, List.set_cons_succ]
                      refine Good.val (i := 15) (d := some 110) (v := ?v27_15_140) rfl rfl (by kernel_rfl) (by kernel_rfl) (by kernel_rfl) (by rfl) (fun w9 hS => ?h27_15_140) ?r27_15_140
                      case h27_15_140 => go_simp; try rfl
                      try simp only [Act.put, List.setIfInBounds_toArray, List.set_cons_zero, List.set_cons_succ]
                      refine Good.val (i := 16) (d := some 111) (v := ?v27_16_141) rfl rfl (by kernel_rfl) (by kernel_rfl) (by kernel_rfl) (by rfl) (fun w9 hS => ?h27_16_141) ?r27_16_141
                      case h27_16_141 => go_simp; try rfl
                      try simp only [Act.put, List.setIfInBounds_toArray, List.set_cons_zero, List.set_cons_succ]
                      refine Good.val (i := 17) (d := some 112) (v := ?v27_17_142) rfl rfl (by kernel_rfl) (by kernel_rfl) (by kernel_rfl) (by rfl) (fun w9 hS => ?h27_17_142) ?r27_17_142
                      case h27_17_142 => go_simp; try rfl
                      try simp only [Act.put, List.setIfInBounds_toArray, List.set_cons_zero, List.set_cons_succ]
                      refine Good.val (i := 18) (d := some 113) (v := ?v27_18_143) rfl rfl (by kernel_rfl) (by kernel_rfl) (by kernel_rfl) (by rfl) (fun w9 hS => ?h27_18_143) ?r27_18_143
                      case h27_18_143 =>
                        have hb9 := (Blk.below hY hS hY.lt)
                        have b9_0 : w9.cell? ⟨Gz4, 0, none⟩ = some (.int .i64 1) := hb9.cell 0
                        have b9_1 : w9.cell? ⟨Gz4, 1, none⟩ = some (.int .i64 0) := hb9.cell 1
                        have b9_2 : w9.cell? ⟨Gz4, 2, none⟩ = some (.int .u64 0) := hb9.cell 2
                        have b9_3 : w9.cell? ⟨Gz4, 3, none⟩ = some (.string ⟨#[]⟩) := hb9.cell 3
                        go_simp
                        try rfl
                      try simp only [Act.put, List.setIfInBounds_toArray, List.set_cons_zero, List.set_cons_succ]
                      refine Good.call (i := 19) (d := some 114) (fn := ?f27_19_144) (args := ?a27_19_144) (v := ?v27_19_144) rfl rfl (by kernel_rfl) (by kernel_rfl) (by kernel_rfl) (by rfl) (fun w9 hS => ?h27_19_144) (Grew.call fun w9 qS => ?c27_19_144) ?r27_19_144
                      case h27_19_144 => go_simp; refine ⟨?_, ?_⟩ <;> rfl
                      case c27_19_144 => exact HTL.out _
                      try simp only [Act.put, List.setIfInBounds_toArray, List.set_cons_zero, List.set_cons_succ]
                      refine Good.val (i := 20) (d := some 115) (v := ?v27_20_145) rfl rfl (by kernel_rfl) (by kernel_rfl) (by kernel_rfl) (by rfl) (fun w9 hS => ?h27_20_145) ?r27_20_145
                      case h27_20_145 => go_simp; try rfl
                      try simp only [Act.put, List.setIfInBounds_toArray, List.set_cons_zero, List.set_cons_succ]
                      refine Good.val (i := 21) (d := some 116) (v := ?v27_21_146) rfl rfl (by kernel_rfl) (by kernel_rfl) (by kernel_rfl) (by rfl) (fun w9 hS => ?h27_21_146) ?r27_21_146
                      case h27_21_146 => go_simp; try rfl
                      try simp only [Act.put, List.setIfInBounds_toArray, List.set_cons_zero, List.set_cons_succ]
                      refine Good.val (i := 22) (d := some 117) (v := ?v27_22_147) rfl rfl (by kernel_rfl) (by kernel_rfl) (by kernel_rfl) (by rfl) (fun w9 hS => ?h27_22_147) ?r27_22_147
                      case h27_22_147 => go_simp; try rfl
                      try simp only [Act.put, List.setIfInBounds_toArray, List.set_cons_zero, List.set_cons_succ]
                      refine Good.skip (i := 23) (d := some 118) rfl rfl (by kernel_rfl) (by kernel_rfl) (by kernel_rfl) (by rfl) ?_
                      try simp only [Act.put, List.setIfInBounds_toArray, List.set_cons_zero, List.set_cons_succ]
                      refine Good.skip (i := 24) (d := some 119) rfl rfl (by kernel_rfl) (by kernel_rfl) (by kernel_rfl) (by rfl) ?_
                      try simp only [Act.put, List.setIfInBounds_toArray, List.set_cons_zero, List.set_cons_succ]
                      refine Good.skip (i := 25) (d := some 120) rfl rfl (by kernel_rfl) (by kernel_rfl) (by kernel_rfl) (by rfl) ?_
                      try simp only [Act.put, List.setIfInBounds_toArray, List.set_cons_zero, List.set_cons_succ]
                      refine Good.val (i := 26) (d := some 121) (v := ?v27_26_151) rfl rfl (by kernel_rfl) (by kernel_rfl) (by kernel_rfl) (by rfl) (fun w9 hS => ?h27_26_151) ?r27_26_151
                      case h27_26_151 => go_simp; try rfl
                      try simp only [Act.put, List.setIfInBounds_toArray, List.set_cons_zero, List.set_cons_succ]
                      refine Good.val (i := 27) (d := some 122) (v := ?v27_27_152) rfl rfl (by kernel_rfl) (by kernel_rfl) (by kernel_rfl) (by rfl) (fun w9 hS => ?h27_27_152) ?r27_27_152
                      case h27_27_152 => go_simp; try rfl
                      try simp only [Act.put, List.setIfInBounds_toArray, List.set_cons_zero, List.set_cons_succ]
                      refine Good.val (i := 28) (d := some 123) (v := ?v27_28_153) rfl rfl (by kernel_rfl) (by kernel_rfl) (by kernel_rfl) (by rfl) (fun w9 hS => ?h27_28_153) ?r27_28_153
                      case h27_28_153 => go_simp; try rfl
                      try simp only [Act.put, List.setIfInBounds_toArray, List.set_cons_zero, List.set_cons_succ]
                      refine Good.val (i := 29) (d := some 124) (v := ?v27_29_154) rfl rfl (by kernel_rfl) (by kernel_rfl) (by kernel_rfl) (by rfl) (fun w9 hS => ?h27_29_154) ?r27_29_154
                      case h27_29_154 => go_simp; try rfl
                      try simp only [Act.put, List.setIfInBounds_toArray, List.set_cons_zero, List.set_cons_succ]
                      refine Good.val (i := 30) (d := some 125) (v := ?v27_30_155) rfl rfl (by kernel_rfl) (by kernel_rfl) (by kernel_rfl) (by rfl) (fun w9 hS => ?h27_30_155) ?r27_30_155
                      case h27_30_155 => go_simp; try rfl
                      try simp only [Act.put, List.setIfInBounds_toArray, List.set_cons_zero, List.set_cons_succ]
                      refine Good.done (by kernel_rfl) (fun z5 qz5 => ?_) _
                      replace hX := hX.ca qz5
                      replace hY := hY.ca qz5
                      replace qq := bl_ca qq qz5
                      clear qz5
                      go_wp2
                      go_roundg (g2 - 1)
                      · exact ⟨k + 1, by omega, by omega, by go_num, hv.below qq, hA.below qq hA.lt, bl_ca bb qq⟩
                      · omega
              · have H1 := Lib.hid (fun w => (hc ▸ compare_any v u w : Calls Tryd.prog 34 _ w fun e w' => e = .returned (.int .i64 (1)) ∧ Below w.heap.size w w'))
                have H2 := Lib.hid (fun w => ((show cmpV u v = -1 from by have := cmpV_anti u v; omega) ▸ compare_any u v w : Calls Tryd.prog 34 _ w fun e w' => e = .returned (.int .i64 (-1)) ∧ Below w.heap.size w w'))
                have HQ : ∀ W, (Op.equalIn 10000 28 (.agg #[.int .i64 v.k, .int .i64 v.n, .int .u64 v.u, .string v.s]) (.agg #[.int .i64 u.k, .int .i64 u.n, .int .u64 u.u, .string u.s])).run Tryd.prog W = .ok false W := by
                  have := run_eqVV v u
                  rwa [show eqVV v u = false from by cases e : eqVV v u; rfl; have := (cmpV_zero HPV.out HPU.out).2 ((eqVV_iff v u).1 e); omega] at this
                have HC := Lib.hid hc
                clear hc
                have hB := Blk.new wr 28 #[.int .i64 u.k, .int .i64 u.n, .int .u64 u.u, .string u.s]
                have zhB_qq := qq.size
                replace qq := bl_al qq (.cells #[.int .i64 u.k, .int .i64 u.n, .int .u64 u.u, .string u.s] 28)
                have hA_0 : (wr.alloc (.cells #[.int .i64 u.k, .int .i64 u.n, .int .u64 u.u, .string u.s] 28)).cell? ⟨GA, 0, none⟩ = some (.int .i64 v.k) := (hA.below qq hA.lt).cell 0
                have hA_1 : (wr.alloc (.cells #[.int .i64 u.k, .int .i64 u.n, .int .u64 u.u, .string u.s] 28)).cell? ⟨GA, 1, none⟩ = some (.int .i64 v.n) := (hA.below qq hA.lt).cell 1
                have hA_2 : (wr.alloc (.cells #[.int .i64 u.k, .int .i64 u.n, .int .u64 u.u, .string u.s] 28)).cell? ⟨GA, 2, none⟩ = some (.int .u64 v.u) := (hA.below qq hA.lt).cell 2
                have hA_3 : (wr.alloc (.cells #[.int .i64 u.k, .int .i64 u.n, .int .u64 u.u, .string u.s] 28)).cell? ⟨GA, 3, none⟩ = some (.string v.s) := (hA.below qq hA.lt).cell 3
                go_wp2_with fail
                clear c0 c1 c2 c3 hal hA_0 hA_1 hA_2 hA_3
                generalize (wr.alloc (.cells #[.int .i64 u.k, .int .i64 u.n, .int .u64 u.u, .string u.s] 28)) = x1 at *
                refine (H1.out _).mono ?_
                rintro e x2 ⟨rfl, qx2⟩
                replace hB := hB.ca qx2
                replace qq := bl_ca qq qx2
                clear qx2
                have hA_0 : x2.cell? ⟨GA, 0, none⟩ = some (.int .i64 v.k) := (hA.below qq hA.lt).cell 0
                have hA_1 : x2.cell? ⟨GA, 1, none⟩ = some (.int .i64 v.n) := (hA.below qq hA.lt).cell 1
                have hA_2 : x2.cell? ⟨GA, 2, none⟩ = some (.int .u64 v.u) := (hA.below qq hA.lt).cell 2
                have hA_3 : x2.cell? ⟨GA, 3, none⟩ = some (.string v.s) := (hA.below qq hA.lt).cell 3
                have hB_0 : x2.cell? ⟨wr.heap.size, 0, none⟩ = some (.int .i64 u.k) := hB.cell 0
                have hB_1 : x2.cell? ⟨wr.heap.size, 1, none⟩ = some (.int .i64 u.n) := hB.cell 1
                have hB_2 : x2.cell? ⟨wr.heap.size, 2, none⟩ = some (.int .u64 u.u) := hB.cell 2
                have hB_3 : x2.cell? ⟨wr.heap.size, 3, none⟩ = some (.string u.s) := hB.cell 3
                go_wp2_with fail
                clear hA_0 hA_1 hA_2 hA_3 hB_0 hB_1 hB_2 hB_3
                refine (H2.out _).mono ?_
                rintro e x3 ⟨rfl, qx3⟩
                replace hB := hB.ca qx3
                replace qq := bl_ca qq qx3
                clear qx3
                have hA_0 : x3.cell? ⟨GA, 0, none⟩ = some (.int .i64 v.k) := (hA.below qq hA.lt).cell 0
                have hA_1 : x3.cell? ⟨GA, 1, none⟩ = some (.int .i64 v.n) := (hA.below qq hA.lt).cell 1
                have hA_2 : x3.cell? ⟨GA, 2, none⟩ = some (.int .u64 v.u) := (hA.below qq hA.lt).cell 2
                have hA_3 : x3.cell? ⟨GA, 3, none⟩ = some (.string v.s) := (hA.below qq hA.lt).cell 3
                have hB_0 : x3.cell? ⟨wr.heap.size, 0, none⟩ = some (.int .i64 u.k) := hB.cell 0
                have hB_1 : x3.cell? ⟨wr.heap.size, 1, none⟩ = some (.int .i64 u.n) := hB.cell 1
                have hB_2 : x3.cell? ⟨wr.heap.size, 2, none⟩ = some (.int .u64 u.u) := hB.cell 2
                have hB_3 : x3.cell? ⟨wr.heap.size, 3, none⟩ = some (.string u.s) := hB.cell 3
                go_wp2
                clear hA_0 hA_1 hA_2 hA_3 hB_0 hB_1 hB_2 hB_3
                clear H1 H2 HQ
                replace hv := hv.below qq
                replace hA := hA.below qq hA.lt
                replace bb := bl_ca bb qq
                clear qq
                obtain ⟨g2, rfl⟩ : ∃ g2, g2 = gk := ⟨_, rfl⟩
                obtain ⟨wp, rfl⟩ : ∃ wp : World, wp = wr := ⟨_, rfl⟩
                generalize wp.heap.size = GB at *
                go_loopg [64] m (fun g s wr => ∃ (j : Nat), j + g ≤ m ∧ m ≤ j + g ∧ s = .int .i64 j ∧ RdV wr (some ad) m ys ∧ Blk wr GA 28 #[.int .i64 v.k, .int .i64 v.n, .int .u64 v.u, .string v.s] ∧ Blk wr GB 28 #[.int .i64 u.k, .int .i64 u.n, .int .u64 u.u, .string u.s] ∧ Below w.heap.size w wr)
                case atStart => exact ⟨0, by omega, by omega, rfl, hv, hA, hB, bb⟩
                case round =>
                  clear hv hA bb hB
                  obtain ⟨j, hj1, hj2, rfl, hv, hA, hB, bb⟩ := hrel
                  by_cases hj : j < m
                  · obtain ⟨ad3, t, hA3, hti, hal, c0, c1, c2, c3⟩ := hv.2 j hj
                    injection hA3 with hA3
                    subst hA3
                    have HPT := Lib.hid (HPL.out t (List.mem_of_getElem? hti))
                    clear hti
                    have qq := Below.refl wr.heap.size wr
                    have hC := Blk.new wr 28 #[.int .i64 t.k, .int .i64 t.n, .int .u64 t.u, .string t.s]
                    have zhC_qq := qq.size
                    replace qq := bl_al qq (.cells #[.int .i64 t.k, .int .i64 t.n, .int .u64 t.u, .string t.s] 28)
                    go_wp2
                    clear c0 c1 c2 c3 hal
                    generalize (wr.alloc (.cells #[.int .i64 t.k, .int .i64 t.n, .int .u64 t.u, .string t.s] 28)) = y1 at *
                    go_roundg (gk - 1)
                    · exact ⟨j + 1, by omega, by omega, by go_num, hv.below qq, hA.below qq hA.lt, hB.below qq hB.lt, bl_ca bb qq⟩
                    · omega
                  · have hjd : decide (j < m) = false := decide_eq_false hj
                    clear hj hj1 hj2
                    have qq := Below.refl wr.heap.size wr
                    cases hnn : (v.k == 0 || u.k == 0)
                    · cases he : (bothE v u != 0)
                      · have eqe : equalV v u = (VB0, 0) := by unfold equalV heldV; rw [he, hnn, HC.out]; rfl
                        have eql : lessV v u = (VB0, 0) := by unfold lessV heldV; rw [he, hnn, HC.out]; rfl
                        have H1 := Lib.hid (fun w => (eqe ▸ equal_any v u w : Calls Tryd.prog 36 _ w fun e w' => e = .returned (resT (VB0, 0)) ∧ Below w.heap.size w w'))
                        have H2 := Lib.hid (fun w => (eql ▸ less_any v u w : Calls Tryd.prog 38 _ w fun e w' => e = .returned (resT (VB0, 0)) ∧ Below w.heap.size w w'))
                        clear eqe eql
                        have HTQ := Lib.hid (fun w => ((show trueB VB0 = false from by decide +kernel) ▸ true_any VB0 w : Calls Tryd.prog 20 #[.agg #[.int .i64 1, .int .i64 0, .int .u64 0, .string ⟨#[]⟩]] w fun e w' => e = .returned (.bool false) ∧ Below w.heap.size w w'))
                        have HTL := Lib.hid (fun w => ((show trueB VB0 = false from by decide +kernel) ▸ true_any VB0 w : Calls Tryd.prog 20 #[.agg #[.int .i64 1, .int .i64 0, .int .u64 0, .string ⟨#[]⟩]] w fun e w' => e = .returned (.bool false) ∧ Below w.heap.size w w'))
                        clear he hnn
                        have hA_0 : wr.cell? ⟨GA, 0, none⟩ = some (.int .i64 v.k) := (hA.below qq hA.lt).cell 0
                        have hA_1 : wr.cell? ⟨GA, 1, none⟩ = some (.int .i64 v.n) := (hA.below qq hA.lt).cell 1
                        have hA_2 : wr.cell? ⟨GA, 2, none⟩ = some (.int .u64 v.u) := (hA.below qq hA.lt).cell 2
                        have hA_3 : wr.cell? ⟨GA, 3, none⟩ = some (.string v.s) := (hA.below qq hA.lt).cell 3
                        have hB_0 : wr.cell? ⟨GB, 0, none⟩ = some (.int .i64 u.k) := (hB.below qq hB.lt).cell 0
                        have hB_1 : wr.cell? ⟨GB, 1, none⟩ = some (.int .i64 u.n) := (hB.below qq hB.lt).cell 1
                        have hB_2 : wr.cell? ⟨GB, 2, none⟩ = some (.int .u64 u.u) := (hB.below qq hB.lt).cell 2
                        have hB_3 : wr.cell? ⟨GB, 3, none⟩ = some (.string u.s) := (hB.below qq hB.lt).cell 3
                        go_wp2_with fail
                        clear hA_0 hA_1 hA_2 hA_3 hB_0 hB_1 hB_2 hB_3
                        refine (H1.out _).mono ?_
                        rintro e z1 ⟨rfl, qz1⟩
                        simp only [resT, VB0]
                        replace qq := bl_ca qq qz1
                        clear qz1
                        have hX := Blk.new z1 28 #[.int .i64 1, .int .i64 0, .int .u64 0, .string ⟨#[]⟩]
                        have zhX_qq := qq.size
                        replace qq := bl_al qq (.cells #[.int .i64 1, .int .i64 0, .int .u64 0, .string ⟨#[]⟩] 28)
                        have hA_0 : (z1.alloc (.cells #[.int .i64 1, .int .i64 0, .int .u64 0, .string ⟨#[]⟩] 28)).cell? ⟨GA, 0, none⟩ = some (.int .i64 v.k) := (hA.below qq hA.lt).cell 0
                        have hA_1 : (z1.alloc (.cells #[.int .i64 1, .int .i64 0, .int .u64 0, .string ⟨#[]⟩] 28)).cell? ⟨GA, 1, none⟩ = some (.int .i64 v.n) := (hA.below qq hA.lt).cell 1
                        have hA_2 : (z1.alloc (.cells #[.int .i64 1, .int .i64 0, .int .u64 0, .string ⟨#[]⟩] 28)).cell? ⟨GA, 2, none⟩ = some (.int .u64 v.u) := (hA.below qq hA.lt).cell 2
                        have hA_3 : (z1.alloc (.cells #[.int .i64 1, .int .i64 0, .int .u64 0, .string ⟨#[]⟩] 28)).cell? ⟨GA, 3, none⟩ = some (.string v.s) := (hA.below qq hA.lt).cell 3
                        have hB_0 : (z1.alloc (.cells #[.int .i64 1, .int .i64 0, .int .u64 0, .string ⟨#[]⟩] 28)).cell? ⟨GB, 0, none⟩ = some (.int .i64 u.k) := (hB.below qq hB.lt).cell 0
                        have hB_1 : (z1.alloc (.cells #[.int .i64 1, .int .i64 0, .int .u64 0, .string ⟨#[]⟩] 28)).cell? ⟨GB, 1, none⟩ = some (.int .i64 u.n) := (hB.below qq hB.lt).cell 1
                        have hB_2 : (z1.alloc (.cells #[.int .i64 1, .int .i64 0, .int .u64 0, .string ⟨#[]⟩] 28)).cell? ⟨GB, 2, none⟩ = some (.int .u64 u.u) := (hB.below qq hB.lt).cell 2
                        have hB_3 : (z1.alloc (.cells #[.int .i64 1, .int .i64 0, .int .u64 0, .string ⟨#[]⟩] 28)).cell? ⟨GB, 3, none⟩ = some (.string u.s) := (hB.below qq hB.lt).cell 3
                        go_wp2_with fail
                        clear hA_0 hA_1 hA_2 hA_3 hB_0 hB_1 hB_2 hB_3
                        generalize (z1.alloc (.cells #[.int .i64 1, .int .i64 0, .int .u64 0, .string ⟨#[]⟩] 28)) = z2 at *
                        generalize z1.heap.size = Gz2 at *
                        refine (H2.out _).mono ?_
                        rintro e z3 ⟨rfl, qz3⟩
                        simp only [resT, VB0]
                        replace hX := hX.ca qz3
                        replace qq := bl_ca qq qz3
                        clear qz3
                        have lhY_hX := hX.lt
                        replace hX := hX.alloc (.cells #[.int .i64 1, .int .i64 0, .int .u64 0, .string ⟨#[]⟩] 28)
                        have hY := Blk.new z3 28 #[.int .i64 1, .int .i64 0, .int .u64 0, .string ⟨#[]⟩]
                        have zhY_qq := qq.size
                        replace qq := bl_al qq (.cells #[.int .i64 1, .int .i64 0, .int .u64 0, .string ⟨#[]⟩] 28)
                        go_wp2_with fail
                        generalize (z3.alloc (.cells #[.int .i64 1, .int .i64 0, .int .u64 0, .string ⟨#[]⟩] 28)) = z4 at *
                        generalize z3.heap.size = Gz4 at *
                        refine wp_region_lin (S := Grew z4) (by kernel_rfl) (Grew.start _) ?_
                        refine Good.val (i := 0) (d := some 95) (v := ?v27_0_187) rfl rfl (by kernel_rfl) (by kernel_rfl) (by kernel_rfl) (by rfl) (fun w9 hS => ?h27_0_187) ?r27_0_187
                        case h27_0_187 => go_simp; try rfl
                        try simp only [Act.put, List.setIfInBounds_toArray, List.set_cons_zero, List.set_cons_succ]
                        refine Good.val (i := 1) (d := some 96) (v := ?v27_1_188) rfl rfl (by kernel_rfl) (by kernel_rfl) (by kernel_rfl) (by rfl) (fun w9 hS => ?h27_1_188) ?r27_1_188
                        case h27_1_188 => go_simp; try rfl
                        try simp only [Act.put, List.setIfInBounds_toArray, List.set_cons_zero, List.set_cons_succ]
                        refine Good.val (i := 2) (d := some 97) (v := ?v27_2_189) rfl rfl (by kernel_rfl) (by kernel_rfl) (by kernel_rfl) (by rfl) (fun w9 hS => ?h27_2_189) ?r27_2_189
                        case h27_2_189 => go_simp; try rfl
                        try simp only [Act.put, List.setIfInBounds_toArray, List.set_cons_zero, List.set_cons_succ]
                        refine Good.val (i := 3) (d := some 98) (v := ?v27_3_190) rfl rfl (by kernel_rfl) (by kernel_rfl) (by kernel_rfl) (by rfl) (fun w9 hS => ?h27_3_190) ?r27_3_190
                        case h27_3_190 => go_simp; try rfl
                        try simp only [Act.put, List.setIfInBounds_toArray, List.set_cons_zero, List.set_cons_succ]
                        refine Good.val (i := 4) (d := some 99) (v := ?v27_4_191) rfl rfl (by kernel_rfl) (by kernel_rfl) (by kernel_rfl) (by rfl) (fun w9 hS => ?h27_4_191) ?r27_4_191
                        case h27_4_191 => go_simp; try rfl
                        try simp only [Act.put, List.setIfInBounds_toArray, List.set_cons_zero, List.set_cons_succ]
                        refine Good.val (i := 5) (d := some 100) (v := ?v27_5_192) rfl rfl (by kernel_rfl) (by kernel_rfl) (by kernel_rfl) (by rfl) (fun w9 hS => ?h27_5_192) ?r27_5_192
                        case h27_5_192 => go_simp; try rfl
                        try simp only [Act.put, List.setIfInBounds_toArray, List.set_cons_zero, List.set_cons_succ]
                        refine Good.val (i := 6) (d := some 101) (v := ?v27_6_193) rfl rfl (by kernel_rfl) (by kernel_rfl) (by kernel_rfl) (by rfl) (fun w9 hS => ?h27_6_193) ?r27_6_193
                        case h27_6_193 => go_simp; try rfl
                        try simp only [Act.put, List.setIfInBounds_toArray, List.set_cons_zero, List.set_cons_succ]
                        refine Good.val (i := 7) (d := some 102) (v := ?v27_7_194) rfl rfl (by kernel_rfl) (by kernel_rfl) (by kernel_rfl) (by rfl) (fun w9 hS => ?h27_7_194) ?r27_7_194
                        case h27_7_194 =>
                          have hb9 := (Blk.below hX hS hX.lt)
                          have b9_0 : w9.cell? ⟨Gz2, 0, none⟩ = some (.int .i64 1) := hb9.cell 0
                          have b9_1 : w9.cell? ⟨Gz2, 1, none⟩ = some (.int .i64 0) := hb9.cell 1
                          have b9_2 : w9.cell? ⟨Gz2, 2, none⟩ = some (.int .u64 0) := hb9.cell 2
                          have b9_3 : w9.cell? ⟨Gz2, 3, none⟩ = some (.string ⟨#[]⟩) := hb9.cell 3
                          go_simp
                          try rfl
                        try simp only [Act.put, List.setIfInBounds_toArray, List.set_cons_zero, List.set_cons_succ]
                        refine Good.call (i := 8) (d := some 103) (fn := ?f27_8_195) (args := ?a27_8_195) (v := ?v27_8_195) rfl rfl (by kernel_rfl) (by kernel_rfl) (by kernel_rfl) (by rfl) (fun w9 hS => ?h27_8_195) (Grew.call fun w9 qS => ?c27_8_195) ?r27_8_195
                        case h27_8_195 => go_simp; refine ⟨?_, ?_⟩ <;> rfl
                        case c27_8_195 => exact HTQ.out _
                        try simp only [Act.put, List.setIfInBounds_toArray, List.set_cons_zero, List.set_cons_succ]
                        refine Good.val (i := 9) (d := some 104) (v := ?v27_9_196) rfl rfl (by kernel_rfl) (by kernel_rfl) (by kernel_rfl) (by rfl) (fun w9 hS => ?h27_9_196) ?r27_9_196
                        case h27_9_196 => go_simp; try rfl
                        try simp only [Act.put, List.setIfInBounds_toArray, List.set_cons_zero, List.set_cons_succ]
                        refine Good.val (i := 10) (d := some 105) (v := ?v27_10_197) rfl rfl (by kernel_rfl) (by kernel_rfl) (by kernel_rfl) (by rfl) (fun w9 hS => ?h27_10_197) ?r27_10_197
                        case h27_10_197 => go_simp; try rfl
                        try simp only [Act.put, List.setIfInBounds_toArray, List.set_cons_zero, List.set_cons_succ]
                        refine Good.val (i := 11) (d := some 106) (v := ?v27_11_198) rfl rfl (by kernel_rfl) (by kernel_rfl) (by kernel_rfl) (by rfl) (fun w9 hS => ?h27_11_198) ?r27_11_198
                        case h27_11_198 => go_simp; try rfl
                        try simp only [Act.put, List.setIfInBounds_toArray, List.set_cons_zero, List.set_cons_succ]
                        refine Good.skip (i := 12) (d := some 107) rfl rfl (by kernel_rfl) (by kernel_rfl) (by kernel_rfl) (by rfl) ?_
                        try simp only [Act.put, List.setIfInBounds_toArray, List.set_cons_zero, List.set_cons_succ]
                        refine Good.skip (i := 13) (d := some 108) rfl rfl (by kernel_rfl) (by kernel_rfl) (by kernel_rfl) (by rfl) ?_
                        try simp only [Act.put, List.setIfInBounds_toArray, List.set_cons_zero, List.set_cons_succ]
                        refine Good.skip (i := 14) (d := some 109) rfl rfl (by kernel_rfl) (by kernel_rfl) (by kernel_rfl) (by rfl) ?_
                        try simp only [Act.put, List.setIfInBounds_toArray, List.set_cons_zero, List.set_cons_succ]
                        refine Good.val (i := 15) (d := some 110) (v := ?v27_15_202) rfl rfl (by kernel_rfl) (by kernel_rfl) (by kernel_rfl) (by rfl) (fun w9 hS => ?h27_15_202) ?r27_15_202
                        case h27_15_202 => go_simp; try rfl
                        try simp only [Act.put, List.setIfInBounds_toArray, List.set_cons_zero, List.set_cons_succ]
                        refine Good.val (i := 16) (d := some 111) (v := ?v27_16_203) rfl rfl (by kernel_rfl) (by kernel_rfl) (by kernel_rfl) (by rfl) (fun w9 hS => ?h27_16_203) ?r27_16_203
                        case h27_16_203 => go_simp; try rfl
                        try simp only [Act.put, List.setIfInBounds_toArray, List.set_cons_zero, List.set_cons_succ]
                        refine Good.val (i := 17) (d := some 112) (v := ?v27_17_204) rfl rfl (by kernel_rfl) (by kernel_rfl) (by kernel_rfl) (by rfl) (fun w9 hS => ?h27_17_204) ?r27_17_204
                        case h27_17_204 => go_simp; try rfl
                        try simp only [Act.put, List.setIfInBounds_toArray, List.set_cons_zero, List.set_cons_succ]
                        refine Good.val (i := 18) (d := some 113) (v := ?v27_18_205) rfl rfl (by kernel_rfl) (by kernel_rfl) (by kernel_rfl) (by rfl) (fun w9 hS => ?h27_18_205) ?r27_18_205
                        case h27_18_205 =>
                          have hb9 := (Blk.below hY hS hY.lt)
                          have b9_0 : w9.cell? ⟨Gz4, 0, none⟩ = some (.int .i64 1) := hb9.cell 0
                          have b9_1 : w9.cell? ⟨Gz4, 1, none⟩ = some (.int .i64 0) := hb9.cell 1
                          have b9_2 : w9.cell? ⟨Gz4, 2, none⟩ = some (.int .u64 0) := hb9.cell 2
                          have b9_3 : w9.cell? ⟨Gz4, 3, none⟩ = some (.string ⟨#[]⟩) := hb9.cell 3
                          go_simp
                          try rfl
                        try simp only [Act.put, List.setIfInBounds_toArray, List.set_cons_zero, List.set_cons_succ]
                        refine Good.call (i := 19) (d := some 114) (fn := ?f27_19_206) (args := ?a27_19_206) (v := ?v27_19_206) rfl rfl (by kernel_rfl) (by kernel_rfl) (by kernel_rfl) (by rfl) (fun w9 hS => ?h27_19_206) (Grew.call fun w9 qS => ?c27_19_206) ?r27_19_206
                        case h27_19_206 => go_simp; refine ⟨?_, ?_⟩ <;> rfl
                        case c27_19_206 => exact HTL.out _
                        try simp only [Act.put, List.setIfInBounds_toArray, List.set_cons_zero, List.set_cons_succ]
                        refine Good.val (i := 20) (d := some 115) (v := ?v27_20_207) rfl rfl (by kernel_rfl) (by kernel_rfl) (by kernel_rfl) (by rfl) (fun w9 hS => ?h27_20_207) ?r27_20_207
                        case h27_20_207 => go_simp; try rfl
                        try simp only [Act.put, List.setIfInBounds_toArray, List.set_cons_zero, List.set_cons_succ]
                        refine Good.val (i := 21) (d := some 116) (v := ?v27_21_208) rfl rfl (by kernel_rfl) (by kernel_rfl) (by kernel_rfl) (by rfl) (fun w9 hS => ?h27_21_208) ?r27_21_208
                        case h27_21_208 => go_simp; try rfl
                        try simp only [Act.put, List.setIfInBounds_toArray, List.set_cons_zero, List.set_cons_succ]
                        refine Good.val (i := 22) (d := some 117) (v := ?v27_22_209) rfl rfl (by kernel_rfl) (by kernel_rfl) (by kernel_rfl) (by rfl) (fun w9 hS => ?h27_22_209) ?r27_22_209
                        case h27_22_209 => go_simp; try rfl
                        try simp only [Act.put, List.setIfInBounds_toArray, List.set_cons_zero, List.set_cons_succ]
                        refine Good.skip (i := 23) (d := some 118) rfl rfl (by kernel_rfl) (by kernel_rfl) (by kernel_rfl) (by rfl) ?_
                        try simp only [Act.put, List.setIfInBounds_toArray, List.set_cons_zero, List.set_cons_succ]
                        refine Good.skip (i := 24) (d := some 119) rfl rfl (by kernel_rfl) (by kernel_rfl) (by kernel_rfl) (by rfl) ?_
                        try simp only [Act.put, List.setIfInBounds_toArray, List.set_cons_zero, List.set_cons_succ]
                        refine Good.skip (i := 25) (d := some 120) rfl rfl (by kernel_rfl) (by kernel_rfl) (by kernel_rfl) (by rfl) ?_
                        try simp only [Act.put, List.setIfInBounds_toArray, List.set_cons_zero, List.set_cons_succ]
                        refine Good.val (i := 26) (d := some 121) (v := ?v27_26_213) rfl rfl (by kernel_rfl) (by kernel_rfl) (by kernel_rfl) (by rfl) (fun w9 hS => ?h27_26_213) ?r27_26_213
                        case h27_26_213 => go_simp; try rfl
                        try simp only [Act.put, List.setIfInBounds_toArray, List.set_cons_zero, List.set_cons_succ]
                        refine Good.val (i := 27) (d := some 122) (v := ?v27_27_214) rfl rfl (by kernel_rfl) (by kernel_rfl) (by kernel_rfl) (by rfl) (fun w9 hS => ?h27_27_214) ?r27_27_214
                        case h27_27_214 => go_simp; try rfl
                        try simp only [Act.put, List.setIfInBounds_toArray, List.set_cons_zero, List.set_cons_succ]
                        refine Good.val (i := 28) (d := some 123) (v := ?v27_28_215) rfl rfl (by kernel_rfl) (by kernel_rfl) (by kernel_rfl) (by rfl) (fun w9 hS => ?h27_28_215) ?r27_28_215
                        case h27_28_215 => go_simp; try rfl
                        try simp only [Act.put, List.setIfInBounds_toArray, List.set_cons_zero, List.set_cons_succ]
                        refine Good.val (i := 29) (d := some 124) (v := ?v27_29_216) rfl rfl (by kernel_rfl) (by kernel_rfl) (by kernel_rfl) (by rfl) (fun w9 hS => ?h27_29_216) ?r27_29_216
                        case h27_29_216 => go_simp; try rfl
                        try simp only [Act.put, List.setIfInBounds_toArray, List.set_cons_zero, List.set_cons_succ]
                        refine Good.val (i := 30) (d := some 125) (v := ?v27_30_217) rfl rfl (by kernel_rfl) (by kernel_rfl) (by kernel_rfl) (by rfl) (fun w9 hS => ?h27_30_217) ?r27_30_217
                        case h27_30_217 => go_simp; try rfl
                        try simp only [Act.put, List.setIfInBounds_toArray, List.set_cons_zero, List.set_cons_succ]
                        refine Good.done (by kernel_rfl) (fun z5 qz5 => ?_) _
                        replace hX := hX.ca qz5
                        replace hY := hY.ca qz5
                        replace qq := bl_ca qq qz5
                        clear qz5
                        go_wp2
                        go_roundg (g2 - 1)
                        · exact ⟨k + 1, by omega, by omega, by go_num, hv.below qq, hA.below qq hA.lt, bl_ca bb qq⟩
                        · omega
                      · replace he : bothE v u = 2 := by rw [plain_both HPV.out HPU.out] at he ⊢; revert he; split <;> simp
                        have eqe : equalV v u = (V0, 2) := by unfold equalV heldV; rw [he]; rfl
                        have eql : lessV v u = (V0, 2) := by unfold lessV heldV; rw [he]; rfl
                        have H1 := Lib.hid (fun w => (eqe ▸ equal_any v u w : Calls Tryd.prog 36 _ w fun e w' => e = .returned (resT (V0, 2)) ∧ Below w.heap.size w w'))
                        have H2 := Lib.hid (fun w => (eql ▸ less_any v u w : Calls Tryd.prog 38 _ w fun e w' => e = .returned (resT (V0, 2)) ∧ Below w.heap.size w w'))
                        clear eqe eql
                        clear he
                        have hA_0 : wr.cell? ⟨GA, 0, none⟩ = some (.int .i64 v.k) := (hA.below qq hA.lt).cell 0
                        have hA_1 : wr.cell? ⟨GA, 1, none⟩ = some (.int .i64 v.n) := (hA.below qq hA.lt).cell 1
                        have hA_2 : wr.cell? ⟨GA, 2, none⟩ = some (.int .u64 v.u) := (hA.below qq hA.lt).cell 2
                        have hA_3 : wr.cell? ⟨GA, 3, none⟩ = some (.string v.s) := (hA.below qq hA.lt).cell 3
                        have hB_0 : wr.cell? ⟨GB, 0, none⟩ = some (.int .i64 u.k) := (hB.below qq hB.lt).cell 0
                        have hB_1 : wr.cell? ⟨GB, 1, none⟩ = some (.int .i64 u.n) := (hB.below qq hB.lt).cell 1
                        have hB_2 : wr.cell? ⟨GB, 2, none⟩ = some (.int .u64 u.u) := (hB.below qq hB.lt).cell 2
                        have hB_3 : wr.cell? ⟨GB, 3, none⟩ = some (.string u.s) := (hB.below qq hB.lt).cell 3
                        go_wp2_with fail
                        clear hA_0 hA_1 hA_2 hA_3 hB_0 hB_1 hB_2 hB_3
                        refine (H1.out _).mono ?_
                        rintro e z1 ⟨rfl, qz1⟩
                        simp only [resT, V0]
                        replace qq := bl_ca qq qz1
                        clear qz1
                        have hX := Blk.new z1 28 #[.int .i64 0, .int .i64 0, .int .u64 0, .string ⟨#[]⟩]
                        have zhX_qq := qq.size
                        replace qq := bl_al qq (.cells #[.int .i64 0, .int .i64 0, .int .u64 0, .string ⟨#[]⟩] 28)
                        have hA_0 : (z1.alloc (.cells #[.int .i64 0, .int .i64 0, .int .u64 0, .string ⟨#[]⟩] 28)).cell? ⟨GA, 0, none⟩ = some (.int .i64 v.k) := (hA.below qq hA.lt).cell 0
                        have hA_1 : (z1.alloc (.cells #[.int .i64 0, .int .i64 0, .int .u64 0, .string ⟨#[]⟩] 28)).cell? ⟨GA, 1, none⟩ = some (.int .i64 v.n) := (hA.below qq hA.lt).cell 1
                        have hA_2 : (z1.alloc (.cells #[.int .i64 0, .int .i64 0, .int .u64 0, .string ⟨#[]⟩] 28)).cell? ⟨GA, 2, none⟩ = some (.int .u64 v.u) := (hA.below qq hA.lt).cell 2
                        have hA_3 : (z1.alloc (.cells #[.int .i64 0, .int .i64 0, .int .u64 0, .string ⟨#[]⟩] 28)).cell? ⟨GA, 3, none⟩ = some (.string v.s) := (hA.below qq hA.lt).cell 3
                        have hB_0 : (z1.alloc (.cells #[.int .i64 0, .int .i64 0, .int .u64 0, .string ⟨#[]⟩] 28)).cell? ⟨GB, 0, none⟩ = some (.int .i64 u.k) := (hB.below qq hB.lt).cell 0
                        have hB_1 : (z1.alloc (.cells #[.int .i64 0, .int .i64 0, .int .u64 0, .string ⟨#[]⟩] 28)).cell? ⟨GB, 1, none⟩ = some (.int .i64 u.n) := (hB.below qq hB.lt).cell 1
                        have hB_2 : (z1.alloc (.cells #[.int .i64 0, .int .i64 0, .int .u64 0, .string ⟨#[]⟩] 28)).cell? ⟨GB, 2, none⟩ = some (.int .u64 u.u) := (hB.below qq hB.lt).cell 2
                        have hB_3 : (z1.alloc (.cells #[.int .i64 0, .int .i64 0, .int .u64 0, .string ⟨#[]⟩] 28)).cell? ⟨GB, 3, none⟩ = some (.string u.s) := (hB.below qq hB.lt).cell 3
                        go_wp2_with fail
                        clear hA_0 hA_1 hA_2 hA_3 hB_0 hB_1 hB_2 hB_3
                        generalize (z1.alloc (.cells #[.int .i64 0, .int .i64 0, .int .u64 0, .string ⟨#[]⟩] 28)) = z2 at *
                        generalize z1.heap.size = Gz2 at *
                        refine (H2.out _).mono ?_
                        rintro e z3 ⟨rfl, qz3⟩
                        simp only [resT, V0]
                        replace hX := hX.ca qz3
                        replace qq := bl_ca qq qz3
                        clear qz3
                        have lhY_hX := hX.lt
                        replace hX := hX.alloc (.cells #[.int .i64 0, .int .i64 0, .int .u64 0, .string ⟨#[]⟩] 28)
                        have hY := Blk.new z3 28 #[.int .i64 0, .int .i64 0, .int .u64 0, .string ⟨#[]⟩]
                        have zhY_qq := qq.size
                        replace qq := bl_al qq (.cells #[.int .i64 0, .int .i64 0, .int .u64 0, .string ⟨#[]⟩] 28)
                        go_wp2_with fail
                        generalize (z3.alloc (.cells #[.int .i64 0, .int .i64 0, .int .u64 0, .string ⟨#[]⟩] 28)) = z4 at *
                        generalize z3.heap.size = Gz4 at *
                        refine wp_region_lin (S := Grew z4) (by kernel_rfl) (Grew.start _) ?_
                        refine Good.val (i := 0) (d := some 95) (v := ?v27_0_218) rfl rfl (by kernel_rfl) (by kernel_rfl) (by kernel_rfl) (by rfl) (fun w9 hS => ?h27_0_218) ?r27_0_218
                        case h27_0_218 => go_simp; try rfl
                        try simp only [Act.put, List.setIfInBounds_toArray, List.set_cons_zero, List.set_cons_succ]
                        refine Good.val (i := 1) (d := some 96) (v := ?v27_1_219) rfl rfl (by kernel_rfl) (by kernel_rfl) (by kernel_rfl) (by rfl) (fun w9 hS => ?h27_1_219) ?r27_1_219
                        case h27_1_219 => go_simp; try rfl
                        try simp only [Act.put, List.setIfInBounds_toArray, List.set_cons_zero, List.set_cons_succ]
                        refine Good.val (i := 2) (d := some 97) (v := ?v27_2_220) rfl rfl (by kernel_rfl) (by kernel_rfl) (by kernel_rfl) (by rfl) (fun w9 hS => ?h27_2_220) ?r27_2_220
                        case h27_2_220 => go_simp; try rfl
                        try simp only [Act.put, List.setIfInBounds_toArray, List.set_cons_zero, List.set_cons_succ]
                        refine Good.val (i := 3) (d := some 98) (v := ?v27_3_221) rfl rfl (by kernel_rfl) (by kernel_rfl) (by kernel_rfl) (by rfl) (fun w9 hS => ?h27_3_221) ?r27_3_221
                        case h27_3_221 => go_simp; try rfl
                        try simp only [Act.put, List.setIfInBounds_toArray, List.set_cons_zero, List.set_cons_succ]
                        refine Good.val (i := 4) (d := some 99) (v := ?v27_4_222) rfl rfl (by kernel_rfl) (by kernel_rfl) (by kernel_rfl) (by rfl) (fun w9 hS => ?h27_4_222) ?r27_4_222
                        case h27_4_222 => go_simp; try rfl
                        try simp only [Act.put, List.setIfInBounds_toArray, List.set_cons_zero, List.set_cons_succ]
                        refine Good.val (i := 5) (d := some 100) (v := ?v27_5_223) rfl rfl (by kernel_rfl) (by kernel_rfl) (by kernel_rfl) (by rfl) (fun w9 hS => ?h27_5_223) ?r27_5_223
                        case h27_5_223 => go_simp; try rfl
                        try simp only [Act.put, List.setIfInBounds_toArray, List.set_cons_zero, List.set_cons_succ]
                        refine Good.val (i := 6) (d := some 101) (v := ?v27_6_224) rfl rfl (by kernel_rfl) (by kernel_rfl) (by kernel_rfl) (by rfl) (fun w9 hS => ?h27_6_224) ?r27_6_224
                        case h27_6_224 => go_simp; try rfl
                        try simp only [Act.put, List.setIfInBounds_toArray, List.set_cons_zero, List.set_cons_succ]
                        refine Good.skip (i := 7) (d := some 102) rfl rfl (by kernel_rfl) (by kernel_rfl) (by kernel_rfl) (by rfl) ?_
                        try simp only [Act.put, List.setIfInBounds_toArray, List.set_cons_zero, List.set_cons_succ]
                        refine Good.skip (i := 8) (d := some 103) rfl rfl (by kernel_rfl) (by kernel_rfl) (by kernel_rfl) (by rfl) ?_
                        try simp only [Act.put, List.setIfInBounds_toArray, List.set_cons_zero, List.set_cons_succ]
                        refine Good.skip (i := 9) (d := some 104) rfl rfl (by kernel_rfl) (by kernel_rfl) (by kernel_rfl) (by rfl) ?_
                        try simp only [Act.put, List.setIfInBounds_toArray, List.set_cons_zero, List.set_cons_succ]
                        refine Good.skip (i := 10) (d := some 105) rfl rfl (by kernel_rfl) (by kernel_rfl) (by kernel_rfl) (by rfl) ?_
                        try simp only [Act.put, List.setIfInBounds_toArray, List.set_cons_zero, List.set_cons_succ]
                        refine Good.skip (i := 11) (d := some 106) rfl rfl (by kernel_rfl) (by kernel_rfl) (by kernel_rfl) (by rfl) ?_
                        try simp only [Act.put, List.setIfInBounds_toArray, List.set_cons_zero, List.set_cons_succ]
                        refine Good.skip (i := 12) (d := some 107) rfl rfl (by kernel_rfl) (by kernel_rfl) (by kernel_rfl) (by rfl) ?_
                        try simp only [Act.put, List.setIfInBounds_toArray, List.set_cons_zero, List.set_cons_succ]
                        refine Good.skip (i := 13) (d := some 108) rfl rfl (by kernel_rfl) (by kernel_rfl) (by kernel_rfl) (by rfl) ?_
                        try simp only [Act.put, List.setIfInBounds_toArray, List.set_cons_zero, List.set_cons_succ]
                        refine Good.skip (i := 14) (d := some 109) rfl rfl (by kernel_rfl) (by kernel_rfl) (by kernel_rfl) (by rfl) ?_
                        try simp only [Act.put, List.setIfInBounds_toArray, List.set_cons_zero, List.set_cons_succ]
                        refine Good.skip (i := 15) (d := some 110) rfl rfl (by kernel_rfl) (by kernel_rfl) (by kernel_rfl) (by rfl) ?_
                        try simp only [Act.put, List.setIfInBounds_toArray, List.set_cons_zero, List.set_cons_succ]
                        refine Good.skip (i := 16) (d := some 111) rfl rfl (by kernel_rfl) (by kernel_rfl) (by kernel_rfl) (by rfl) ?_
                        try simp only [Act.put, List.setIfInBounds_toArray, List.set_cons_zero, List.set_cons_succ]
                        refine Good.skip (i := 17) (d := some 112) rfl rfl (by kernel_rfl) (by kernel_rfl) (by kernel_rfl) (by rfl) ?_
                        try simp only [Act.put, List.setIfInBounds_toArray, List.set_cons_zero, List.set_cons_succ]
                        refine Good.skip (i := 18) (d := some 113) rfl rfl (by kernel_rfl) (by kernel_rfl) (by kernel_rfl) (by rfl) ?_
                        try simp only [Act.put, List.setIfInBounds_toArray, List.set_cons_zero, List.set_cons_succ]
                        refine Good.skip (i := 19) (d := some 114) rfl rfl (by kernel_rfl) (by kernel_rfl) (by kernel_rfl) (by rfl) ?_
                        try simp only [Act.put, List.setIfInBounds_toArray, List.set_cons_zero, List.set_cons_succ]
                        refine Good.skip (i := 20) (d := some 115) rfl rfl (by kernel_rfl) (by kernel_rfl) (by kernel_rfl) (by rfl) ?_
                        try simp only [Act.put, List.setIfInBounds_toArray, List.set_cons_zero, List.set_cons_succ]
                        refine Good.skip (i := 21) (d := some 116) rfl rfl (by kernel_rfl) (by kernel_rfl) (by kernel_rfl) (by rfl) ?_
                        try simp only [Act.put, List.setIfInBounds_toArray, List.set_cons_zero, List.set_cons_succ]
                        refine Good.skip (i := 22) (d := some 117) rfl rfl (by kernel_rfl) (by kernel_rfl) (by kernel_rfl) (by rfl) ?_
                        try simp only [Act.put, List.setIfInBounds_toArray, List.set_cons_zero, List.set_cons_succ]
                        refine Good.skip (i := 23) (d := some 118) rfl rfl (by kernel_rfl) (by kernel_rfl) (by kernel_rfl) (by rfl) ?_
                        try simp only [Act.put, List.setIfInBounds_toArray, List.set_cons_zero, List.set_cons_succ]
                        refine Good.skip (i := 24) (d := some 119) rfl rfl (by kernel_rfl) (by kernel_rfl) (by kernel_rfl) (by rfl) ?_
                        try simp only [Act.put, List.setIfInBounds_toArray, List.set_cons_zero, List.set_cons_succ]
                        refine Good.skip (i := 25) (d := some 120) rfl rfl (by kernel_rfl) (by kernel_rfl) (by kernel_rfl) (by rfl) ?_
                        try simp only [Act.put, List.setIfInBounds_toArray, List.set_cons_zero, List.set_cons_succ]
                        refine Good.skip (i := 26) (d := some 121) rfl rfl (by kernel_rfl) (by kernel_rfl) (by kernel_rfl) (by rfl) ?_
                        try simp only [Act.put, List.setIfInBounds_toArray, List.set_cons_zero, List.set_cons_succ]
                        refine Good.skip (i := 27) (d := some 122) rfl rfl (by kernel_rfl) (by kernel_rfl) (by kernel_rfl) (by rfl) ?_
                        try simp only [Act.put, List.setIfInBounds_toArray, List.set_cons_zero, List.set_cons_succ]
                        refine Good.skip (i := 28) (d := some 123) rfl rfl (by kernel_rfl) (by kernel_rfl) (by kernel_rfl) (by rfl) ?_
                        try simp only [Act.put, List.setIfInBounds_toArray, List.set_cons_zero, List.set_cons_succ]
                        refine Good.val (i := 29) (d := some 124) (v := ?v27_29_247) rfl rfl (by kernel_rfl) (by kernel_rfl) (by kernel_rfl) (by rfl) (fun w9 hS => ?h27_29_247) ?r27_29_247
                        case h27_29_247 => go_simp; try rfl
                        try simp only [Act.put, List.setIfInBounds_toArray, List.set_cons_zero, List.set_cons_succ]
                        refine Good.val (i := 30) (d := some 125) (v := ?v27_30_248) rfl rfl (by kernel_rfl) (by kernel_rfl) (by kernel_rfl) (by rfl) (fun w9 hS => ?h27_30_248) ?r27_30_248
                        case h27_30_248 => go_simp; try rfl
                        try simp only [Act.put, List.setIfInBounds_toArray, List.set_cons_zero, List.set_cons_succ]
                        refine Good.done (by kernel_rfl) (fun z5 qz5 => ?_) _
                        replace hX := hX.ca qz5
                        replace hY := hY.ca qz5
                        replace qq := bl_ca qq qz5
                        clear qz5
                        go_wp2
                        go_roundg (g2 - 1)
                        · exact ⟨k + 1, by omega, by omega, by go_num, hv.below qq, hA.below qq hA.lt, bl_ca bb qq⟩
                        · omega
                    · have he : (bothE v u != 0) = false := by rw [plain_both HPV.out HPU.out, hnn]; rfl
                      have eqe : equalV v u = (V0, 0) := by unfold equalV heldV; rw [he, hnn]; rfl
                      have eql : lessV v u = (V0, 0) := by unfold lessV heldV; rw [he, hnn]; rfl
                      have H1 := Lib.hid (fun w => (eqe ▸ equal_any v u w : Calls Tryd.prog 36 _ w fun e w' => e = .returned (resT (V0, 0)) ∧ Below w.heap.size w w'))
                      have H2 := Lib.hid (fun w => (eql ▸ less_any v u w : Calls Tryd.prog 38 _ w fun e w' => e = .returned (resT (V0, 0)) ∧ Below w.heap.size w w'))
                      clear eqe eql
                      have HTQ := Lib.hid (fun w => ((show trueB V0 = false from by decide +kernel) ▸ true_any V0 w : Calls Tryd.prog 20 #[.agg #[.int .i64 0, .int .i64 0, .int .u64 0, .string ⟨#[]⟩]] w fun e w' => e = .returned (.bool false) ∧ Below w.heap.size w w'))
                      have HTL := Lib.hid (fun w => ((show trueB V0 = false from by decide +kernel) ▸ true_any V0 w : Calls Tryd.prog 20 #[.agg #[.int .i64 0, .int .i64 0, .int .u64 0, .string ⟨#[]⟩]] w fun e w' => e = .returned (.bool false) ∧ Below w.heap.size w w'))
                      clear he hnn
                      have hA_0 : wr.cell? ⟨GA, 0, none⟩ = some (.int .i64 v.k) := (hA.below qq hA.lt).cell 0
                      have hA_1 : wr.cell? ⟨GA, 1, none⟩ = some (.int .i64 v.n) := (hA.below qq hA.lt).cell 1
                      have hA_2 : wr.cell? ⟨GA, 2, none⟩ = some (.int .u64 v.u) := (hA.below qq hA.lt).cell 2
                      have hA_3 : wr.cell? ⟨GA, 3, none⟩ = some (.string v.s) := (hA.below qq hA.lt).cell 3
                      have hB_0 : wr.cell? ⟨GB, 0, none⟩ = some (.int .i64 u.k) := (hB.below qq hB.lt).cell 0
                      have hB_1 : wr.cell? ⟨GB, 1, none⟩ = some (.int .i64 u.n) := (hB.below qq hB.lt).cell 1
                      have hB_2 : wr.cell? ⟨GB, 2, none⟩ = some (.int .u64 u.u) := (hB.below qq hB.lt).cell 2
                      have hB_3 : wr.cell? ⟨GB, 3, none⟩ = some (.string u.s) := (hB.below qq hB.lt).cell 3
                      go_wp2_with fail
                      clear hA_0 hA_1 hA_2 hA_3 hB_0 hB_1 hB_2 hB_3
                      refine (H1.out _).mono ?_
                      rintro e z1 ⟨rfl, qz1⟩
                      simp only [resT, V0]
                      replace qq := bl_ca qq qz1
                      clear qz1
                      have hX := Blk.new z1 28 #[.int .i64 0, .int .i64 0, .int .u64 0, .string ⟨#[]⟩]
                      have zhX_qq := qq.size
                      replace qq := bl_al qq (.cells #[.int .i64 0, .int .i64 0, .int .u64 0, .string ⟨#[]⟩] 28)
                      have hA_0 : (z1.alloc (.cells #[.int .i64 0, .int .i64 0, .int .u64 0, .string ⟨#[]⟩] 28)).cell? ⟨GA, 0, none⟩ = some (.int .i64 v.k) := (hA.below qq hA.lt).cell 0
                      have hA_1 : (z1.alloc (.cells #[.int .i64 0, .int .i64 0, .int .u64 0, .string ⟨#[]⟩] 28)).cell? ⟨GA, 1, none⟩ = some (.int .i64 v.n) := (hA.below qq hA.lt).cell 1
                      have hA_2 : (z1.alloc (.cells #[.int .i64 0, .int .i64 0, .int .u64 0, .string ⟨#[]⟩] 28)).cell? ⟨GA, 2, none⟩ = some (.int .u64 v.u) := (hA.below qq hA.lt).cell 2
                      have hA_3 : (z1.alloc (.cells #[.int .i64 0, .int .i64 0, .int .u64 0, .string ⟨#[]⟩] 28)).cell? ⟨GA, 3, none⟩ = some (.string v.s) := (hA.below qq hA.lt).cell 3
                      have hB_0 : (z1.alloc (.cells #[.int .i64 0, .int .i64 0, .int .u64 0, .string ⟨#[]⟩] 28)).cell? ⟨GB, 0, none⟩ = some (.int .i64 u.k) := (hB.below qq hB.lt).cell 0
                      have hB_1 : (z1.alloc (.cells #[.int .i64 0, .int .i64 0, .int .u64 0, .string ⟨#[]⟩] 28)).cell? ⟨GB, 1, none⟩ = some (.int .i64 u.n) := (hB.below qq hB.lt).cell 1
                      have hB_2 : (z1.alloc (.cells #[.int .i64 0, .int .i64 0, .int .u64 0, .string ⟨#[]⟩] 28)).cell? ⟨GB, 2, none⟩ = some (.int .u64 u.u) := (hB.below qq hB.lt).cell 2
                      have hB_3 : (z1.alloc (.cells #[.int .i64 0, .int .i64 0, .int .u64 0, .string ⟨#[]⟩] 28)).cell? ⟨GB, 3, none⟩ = some (.string u.s) := (hB.below qq hB.lt).cell 3
                      go_wp2_with fail
                      clear hA_0 hA_1 hA_2 hA_3 hB_0 hB_1 hB_2 hB_3
                      generalize (z1.alloc (.cells #[.int .i64 0, .int .i64 0, .int .u64 0, .string ⟨#[]⟩] 28)) = z2 at *
                      generalize z1.heap.size = Gz2 at *
                      refine (H2.out _).mono ?_
                      rintro e z3 ⟨rfl, qz3⟩
                      simp only [resT, V0]
                      replace hX := hX.ca qz3
                      replace qq := bl_ca qq qz3
                      clear qz3
                      have lhY_hX := hX.lt
                      replace hX := hX.alloc (.cells #[.int .i64 0, .int .i64 0, .int .u64 0, .string ⟨#[]⟩] 28)
                      have hY := Blk.new z3 28 #[.int .i64 0, .int .i64 0, .int .u64 0, .string ⟨#[]⟩]
                      have zhY_qq := qq.size
                      replace qq := bl_al qq (.cells #[.int .i64 0, .int .i64 0, .int .u64 0, .string ⟨#[]⟩] 28)
                      go_wp2_with fail
                      generalize (z3.alloc (.cells #[.int .i64 0, .int .i64 0, .int .u64 0, .string ⟨#[]⟩] 28)) = z4 at *
                      generalize z3.heap.size = Gz4 at *
                      refine wp_region_lin (S := Grew z4) (by kernel_rfl) (Grew.start _) ?_
                      refine Good.val (i := 0) (d := some 95) (v := ?v27_0_156) rfl rfl (by kernel_rfl) (by kernel_rfl) (by kernel_rfl) (by rfl) (fun w9 hS => ?h27_0_156) ?r27_0_156
                      case h27_0_156 => go_simp; try rfl
                      try simp only [Act.put, List.setIfInBounds_toArray, List.set_cons_zero, List.set_cons_succ]
                      refine Good.val (i := 1) (d := some 96) (v := ?v27_1_157) rfl rfl (by kernel_rfl) (by kernel_rfl) (by kernel_rfl) (by rfl) (fun w9 hS => ?h27_1_157) ?r27_1_157
                      case h27_1_157 => go_simp; try rfl
                      try simp only [Act.put, List.setIfInBounds_toArray, List.set_cons_zero, List.set_cons_succ]
                      refine Good.val (i := 2) (d := some 97) (v := ?v27_2_158) rfl rfl (by kernel_rfl) (by kernel_rfl) (by kernel_rfl) (by rfl) (fun w9 hS => ?h27_2_158) ?r27_2_158
                      case h27_2_158 => go_simp; try rfl
                      try simp only [Act.put, List.setIfInBounds_toArray, List.set_cons_zero, List.set_cons_succ]
                      refine Good.val (i := 3) (d := some 98) (v := ?v27_3_159) rfl rfl (by kernel_rfl) (by kernel_rfl) (by kernel_rfl) (by rfl) (fun w9 hS => ?h27_3_159) ?r27_3_159
                      case h27_3_159 => go_simp; try rfl
                      try simp only [Act.put, List.setIfInBounds_toArray, List.set_cons_zero, List.set_cons_succ]
                      refine Good.val (i := 4) (d := some 99) (v := ?v27_4_160) rfl rfl (by kernel_rfl) (by kernel_rfl) (by kernel_rfl) (by rfl) (fun w9 hS => ?h27_4_160) ?r27_4_160
                      case h27_4_160 => go_simp; try rfl
                      try simp only [Act.put, List.setIfInBounds_toArray, List.set_cons_zero, List.set_cons_succ]
                      refine Good.val (i := 5) (d := some 100) (v := ?v27_5_161) rfl rfl (by kernel_rfl) (by kernel_rfl) (by kernel_rfl) (by rfl) (fun w9 hS => ?h27_5_161) ?r27_5_161
                      case h27_5_161 => go_simp; try rfl
                      try simp only [Act.put, List.setIfInBounds_toArray, List.set_cons_zero, List.set_cons_succ]
                      refine Good.val (i := 6) (d := some 101) (v := ?v27_6_162) rfl rfl (by kernel_rfl) (by kernel_rfl) (by kernel_rfl) (by rfl) (fun w9 hS => ?h27_6_162) ?r27_6_162
                      case h27_6_162 => go_simp; try rfl
                      try simp only [Act.put, List.setIfInBounds_toArray, List.set_cons_zero, List.set_cons_succ]
                      refine Good.val (i := 7) (d := some 102) (v := ?v27_7_163) rfl rfl (by kernel_rfl) (by kernel_rfl) (by kernel_rfl) (by rfl) (fun w9 hS => ?h27_7_163) ?r27_7_163
                      case h27_7_163 =>
                        have hb9 := (Blk.below hX hS hX.lt)
                        have b9_0 : w9.cell? ⟨Gz2, 0, none⟩ = some (.int .i64 0) := hb9.cell 0
                        have b9_1 : w9.cell? ⟨Gz2, 1, none⟩ = some (.int .i64 0) := hb9.cell 1
                        have b9_2 : w9.cell? ⟨Gz2, 2, none⟩ = some (.int .u64 0) := hb9.cell 2
                        have b9_3 : w9.cell? ⟨Gz2, 3, none⟩ = some (.string ⟨#[]⟩) := hb9.cell 3
                        go_simp
                        try rfl
                      try simp only [Act.put, List.setIfInBounds_toArray, List.set_cons_zero, List.set_cons_succ]
                      refine Good.call (i := 8) (d := some 103) (fn := ?f27_8_164) (args := ?a27_8_164) (v := ?v27_8_164) rfl rfl (by kernel_rfl) (by kernel_rfl) (by kernel_rfl) (by rfl) (fun w9 hS => ?h27_8_164) (Grew.call fun w9 qS => ?c27_8_164) ?r27_8_164
                      case h27_8_164 => go_simp; refine ⟨?_, ?_⟩ <;> rfl
                      case c27_8_164 => exact HTQ.out _
                      try simp only [Act.put, List.setIfInBounds_toArray, List.set_cons_zero, List.set_cons_succ]
                      refine Good.val (i := 9) (d := some 104) (v := ?v27_9_165) rfl rfl (by kernel_rfl) (by kernel_rfl) (by kernel_rfl) (by rfl) (fun w9 hS => ?h27_9_165) ?r27_9_165
                      case h27_9_165 => go_simp; try rfl
                      try simp only [Act.put, List.setIfInBounds_toArray, List.set_cons_zero, List.set_cons_succ]
                      refine Good.val (i := 10) (d := some 105) (v := ?v27_10_166) rfl rfl (by kernel_rfl) (by kernel_rfl) (by kernel_rfl) (by rfl) (fun w9 hS => ?h27_10_166) ?r27_10_166
                      case h27_10_166 => go_simp; try rfl
                      try simp only [Act.put, List.setIfInBounds_toArray, List.set_cons_zero, List.set_cons_succ]
                      refine Good.val (i := 11) (d := some 106) (v := ?v27_11_167) rfl rfl (by kernel_rfl) (by kernel_rfl) (by kernel_rfl) (by rfl) (fun w9 hS => ?h27_11_167) ?r27_11_167
                      case h27_11_167 => go_simp; try rfl
                      try simp only [Act.put, List.setIfInBounds_toArray, List.set_cons_zero, List.set_cons_succ]
                      refine Good.skip (i := 12) (d := some 107) rfl rfl (by kernel_rfl) (by kernel_rfl) (by kernel_rfl) (by rfl) ?_
                      try simp only [Act.put, List.setIfInBounds_toArray, List.set_cons_zero, List.set_cons_succ]
                      refine Good.skip (i := 13) (d := some 108) rfl rfl (by kernel_rfl) (by kernel_rfl) (by kernel_rfl) (by rfl) ?_
                      try simp only [Act.put, List.setIfInBounds_toArray, List.set_cons_zero, List.set_cons_succ]
                      refine Good.skip (i := 14) (d := some 109) rfl rfl (by kernel_rfl) (by kernel_rfl) (by kernel_rfl) (by rfl) ?_
                      try simp only [Act.put, List.setIfInBounds_toArray, List.set_cons_zero, List.set_cons_succ]
                      refine Good.val (i := 15) (d := some 110) (v := ?v27_15_171) rfl rfl (by kernel_rfl) (by kernel_rfl) (by kernel_rfl) (by rfl) (fun w9 hS => ?h27_15_171) ?r27_15_171
                      case h27_15_171 => go_simp; try rfl
                      try simp only [Act.put, List.setIfInBounds_toArray, List.set_cons_zero, List.set_cons_succ]
                      refine Good.val (i := 16) (d := some 111) (v := ?v27_16_172) rfl rfl (by kernel_rfl) (by kernel_rfl) (by kernel_rfl) (by rfl) (fun w9 hS => ?h27_16_172) ?r27_16_172
                      case h27_16_172 => go_simp; try rfl
                      try simp only [Act.put, List.setIfInBounds_toArray, List.set_cons_zero, List.set_cons_succ]
                      refine Good.val (i := 17) (d := some 112) (v := ?v27_17_173) rfl rfl (by kernel_rfl) (by kernel_rfl) (by kernel_rfl) (by rfl) (fun w9 hS => ?h27_17_173) ?r27_17_173
                      case h27_17_173 => go_simp; try rfl
                      try simp only [Act.put, List.setIfInBounds_toArray, List.set_cons_zero, List.set_cons_succ]
                      refine Good.val (i := 18) (d := some 113) (v := ?v27_18_174) rfl rfl (by kernel_rfl) (by kernel_rfl) (by kernel_rfl) (by rfl) (fun w9 hS => ?h27_18_174) ?r27_18_174
                      case h27_18_174 =>
                        have hb9 := (Blk.below hY hS hY.lt)
                        have b9_0 : w9.cell? ⟨Gz4, 0, none⟩ = some (.int .i64 0) := hb9.cell 0
                        have b9_1 : w9.cell? ⟨Gz4, 1, none⟩ = some (.int .i64 0) := hb9.cell 1
                        have b9_2 : w9.cell? ⟨Gz4, 2, none⟩ = some (.int .u64 0) := hb9.cell 2
                        have b9_3 : w9.cell? ⟨Gz4, 3, none⟩ = some (.string ⟨#[]⟩) := hb9.cell 3
                        go_simp
                        try rfl
                      try simp only [Act.put, List.setIfInBounds_toArray, List.set_cons_zero, List.set_cons_succ]
                      refine Good.call (i := 19) (d := some 114) (fn := ?f27_19_175) (args := ?a27_19_175) (v := ?v27_19_175) rfl rfl (by kernel_rfl) (by kernel_rfl) (by kernel_rfl) (by rfl) (fun w9 hS => ?h27_19_175) (Grew.call fun w9 qS => ?c27_19_175) ?r27_19_175
                      case h27_19_175 => go_simp; refine ⟨?_, ?_⟩ <;> rfl
                      case c27_19_175 => exact HTL.out _
                      try simp only [Act.put, List.setIfInBounds_toArray, List.set_cons_zero, List.set_cons_succ]
                      refine Good.val (i := 20) (d := some 115) (v := ?v27_20_176) rfl rfl (by kernel_rfl) (by kernel_rfl) (by kernel_rfl) (by rfl) (fun w9 hS => ?h27_20_176) ?r27_20_176
                      case h27_20_176 => go_simp; try rfl
                      try simp only [Act.put, List.setIfInBounds_toArray, List.set_cons_zero, List.set_cons_succ]
                      refine Good.val (i := 21) (d := some 116) (v := ?v27_21_177) rfl rfl (by kernel_rfl) (by kernel_rfl) (by kernel_rfl) (by rfl) (fun w9 hS => ?h27_21_177) ?r27_21_177
                      case h27_21_177 => go_simp; try rfl
                      try simp only [Act.put, List.setIfInBounds_toArray, List.set_cons_zero, List.set_cons_succ]
                      refine Good.val (i := 22) (d := some 117) (v := ?v27_22_178) rfl rfl (by kernel_rfl) (by kernel_rfl) (by kernel_rfl) (by rfl) (fun w9 hS => ?h27_22_178) ?r27_22_178
                      case h27_22_178 => go_simp; try rfl
                      try simp only [Act.put, List.setIfInBounds_toArray, List.set_cons_zero, List.set_cons_succ]
                      refine Good.skip (i := 23) (d := some 118) rfl rfl (by kernel_rfl) (by kernel_rfl) (by kernel_rfl) (by rfl) ?_
                      try simp only [Act.put, List.setIfInBounds_toArray, List.set_cons_zero, List.set_cons_succ]
                      refine Good.skip (i := 24) (d := some 119) rfl rfl (by kernel_rfl) (by kernel_rfl) (by kernel_rfl) (by rfl) ?_
                      try simp only [Act.put, List.setIfInBounds_toArray, List.set_cons_zero, List.set_cons_succ]
                      refine Good.skip (i := 25) (d := some 120) rfl rfl (by kernel_rfl) (by kernel_rfl) (by kernel_rfl) (by rfl) ?_
                      try simp only [Act.put, List.setIfInBounds_toArray, List.set_cons_zero, List.set_cons_succ]
                      refine Good.val (i := 26) (d := some 121) (v := ?v27_26_182) rfl rfl (by kernel_rfl) (by kernel_rfl) (by kernel_rfl) (by rfl) (fun w9 hS => ?h27_26_182) ?r27_26_182
                      case h27_26_182 => go_simp; try rfl
                      try simp only [Act.put, List.setIfInBounds_toArray, List.set_cons_zero, List.set_cons_succ]
                      refine Good.val (i := 27) (d := some 122) (v := ?v27_27_183) rfl rfl (by kernel_rfl) (by kernel_rfl) (by kernel_rfl) (by rfl) (fun w9 hS => ?h27_27_183) ?r27_27_183
                      case h27_27_183 => go_simp; try rfl
                      try simp only [Act.put, List.setIfInBounds_toArray, List.set_cons_zero, List.set_cons_succ]
                      refine Good.val (i := 28) (d := some 123) (v := ?v27_28_184) rfl rfl (by kernel_rfl) (by kernel_rfl) (by kernel_rfl) (by rfl) (fun w9 hS => ?h27_28_184) ?r27_28_184
                      case h27_28_184 => go_simp; try rfl
                      try simp only [Act.put, List.setIfInBounds_toArray, List.set_cons_zero, List.set_cons_succ]
                      refine Good.val (i := 29) (d := some 124) (v := ?v27_29_185) rfl rfl (by kernel_rfl) (by kernel_rfl) (by kernel_rfl) (by rfl) (fun w9 hS => ?h27_29_185) ?r27_29_185
                      case h27_29_185 => go_simp; try rfl
                      try simp only [Act.put, List.setIfInBounds_toArray, List.set_cons_zero, List.set_cons_succ]
                      refine Good.val (i := 30) (d := some 125) (v := ?v27_30_186) rfl rfl (by kernel_rfl) (by kernel_rfl) (by kernel_rfl) (by rfl) (fun w9 hS => ?h27_30_186) ?r27_30_186
                      case h27_30_186 => go_simp; try rfl
                      try simp only [Act.put, List.setIfInBounds_toArray, List.set_cons_zero, List.set_cons_succ]
                      refine Good.done (by kernel_rfl) (fun z5 qz5 => ?_) _
                      replace hX := hX.ca qz5
                      replace hY := hY.ca qz5
                      replace qq := bl_ca qq qz5
                      clear qz5
                      go_wp2
                      go_roundg (g2 - 1)
                      · exact ⟨k + 1, by omega, by omega, by go_num, hv.below qq, hA.below qq hA.lt, bl_ca bb qq⟩
                      · omega
            · go_wp2
              go_roundg (g1 - 1)
              · exact ⟨i + 1, by omega, by omega, by go_num, hv, bb⟩
              · omega
        · go_wp2
          go_ret
          exact ⟨rfl, bb⟩
end Go.Proofs.YtabbiepafibmmaaDoor
