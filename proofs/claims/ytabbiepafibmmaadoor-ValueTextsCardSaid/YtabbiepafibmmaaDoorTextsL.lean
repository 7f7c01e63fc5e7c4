/- The law ValueTexts: values' literals, and which texts are literals. Conditions: the slices read as these; the tables. -/
import Derived.Test.YtabbiepafibmmaaDoorFew
import Derived.Test.YtabbiepafibmmaaDoorRdT
import Derived.Test.YtabbiepafibmmaaDoorEqV
import Derived.Test.YtabbiepafibmmaaDoorVrp
namespace Go.Proofs.YtabbiepafibmmaaDoor
open Go.RowKit
theorem paR_r {s : ByteArray} : paR s = .returned (resT (paV s, paE s)) := rfl
theorem short_n (v : VV) : v.short.n = v.n := rfl
theorem few_rng {k : Nat} {vs : List VV} (h : ∀ v ∈ vs, v.rng) : ∀ v ∈ fewV k vs, -9223372036854775808 ≤ v.n ∧ v.n ≤ 9223372036854775807 := by
  intro v hv
  unfold fewV at hv
  obtain ⟨u, hu, rfl⟩ := List.mem_map.1 hv
  have := (h u (List.mem_of_mem_take hu)).1
  unfold I64 at this
  rw [short_n]; omega
theorem plain_size {v : VV} (h : v.plain = true) : v.s.size ≤ 100000 := by
  rcases plain_cases h with rfl | rfl | rfl | ⟨n, rfl⟩ | ⟨s, hs, rfl⟩
  · decide
  · decide
  · decide
  · exact Nat.zero_le _
  · exact Nat.le_trans hs (by decide)
theorem cut101_size (s : ByteArray) : (s.extract 0 (min (s.size : Int) 101).toNat).size ≤ 101 := by rw [ByteArray.size_extract]; omega
theorem nil_ba : ((⟨#[]⟩ : ByteArray).toList == (⟨#[]⟩ : ByteArray).toList) = true := by simp
theorem v0_eq : ∀ W, (Op.equalIn 10000 28 (.agg #[.int .i64 0, .int .i64 0, .int .u64 0, .string ⟨#[]⟩]) (.agg #[.int .i64 0, .int .i64 0, .int .u64 0, .string ⟨#[]⟩])).run Tryd.prog W = .ok true W := fun W => by
  have := run_eqVV V0 V0 W
  rw [(eqVV_iff V0 V0).2 rfl] at this
  exact this
theorem vv_eq (v : VV) : ∀ W, (Op.equalIn 10000 28 (.agg #[.int .i64 v.k, .int .i64 v.n, .int .u64 v.u, .string v.s]) (.agg #[.int .i64 v.k, .int .i64 v.n, .int .u64 v.u, .string v.s])).run Tryd.prog W = .ok true W := fun W => by
  rw [run_eqVV v v W, (eqVV_iff v v).2 rfl]
set_option maxRecDepth 100000 in
set_option maxHeartbeats 16000000 in
theorem valueTexts_walk (A : Option Addr) (n c : Nat) (vs : List VV) (A2 : Option Addr) (n2 c2 : Nat) (ss : List ByteArray) (w : World)
    (h : RdV w A n vs) (hn : n ≤ 9223372036854775807) (hr : ∀ v ∈ vs, v.rng) (hs : RdT w A2 n2 ss) (hn2 : n2 ≤ 9223372036854775807) (hT : TabX w) :
    Calls Tryd.prog 3 #[.slice A n c, .slice A2 n2 c2] w fun e w' => e = .returned (.bool true) ∧ Below w.heap.size w w' := by
  have HRG := Lib.hid (few_rng (k := 10) hr)
  have HSS := Lib.hid hs
  have HTT := Lib.hid hT
  have HN2 := Lib.hid hn2
  clear hr hs
  go_enter Tryd.func3, Tryd.ntmps3
  go_wp2_with fail
  refine (wakes2_any w hT.t).mono ?_
  rintro e w1 ⟨rfl, b1⟩
  have h1 := h.below b1
  clear hT
  go_wp2_with fail
  refine (few_any A n c vs w1 h1 hn).mono ?_
  rintro e w2 ⟨A', n', c', rfl, ho, q2⟩
  have HBB := Lib.hid (bl_ca b1 q2)
  have HV := Lib.hid ho.rd
  have hlt := ho.len
  have hn10 : n' ≤ 10 := by
    rw [← hlt]
    simp only [fewV, List.length_map, List.length_take]
    omega
  generalize fewV 10 vs = xs at *
  clear b1 h1 h ho q2 hlt hn
  go_wp2
  go_loopg [20] n' (fun g s wr => ∃ (i : Nat), i + g = n' ∧ s = .int .i64 i ∧ Hid (Below w2.heap.size w2 wr))
  case atStart => exact ⟨0, by omega, rfl, Lib.hid (Below.refl _ _)⟩
  case round =>
    obtain ⟨i, hig, rfl, HQ⟩ := hrel
    by_cases hi : i < n'
    case pos =>
      have hi1 : (i : Int) < (n' : Int) := by omega
      obtain ⟨ad, v, hA, hvi, hal, c0, c1, c2, c3⟩ := (HV.out.below HQ.out).2 i hi
      subst hA
      have HNN := Lib.hid (HRG.out v (List.mem_of_getElem? hvi))
      clear hvi
      have HTW := Lib.hid (HTT.out.below (bl_ca HBB.out HQ.out))
      have HVB := Lib.hid (Blk.new wr 28 #[.int .i64 v.k, .int .i64 v.n, .int .u64 v.u, .string v.s])
      have HQ1 := Lib.hid (bl_al HQ.out (.cells #[.int .i64 v.k, .int .i64 v.n, .int .u64 v.u, .string v.s] 28))
      have HT1 := Lib.hid (HTW.out.below (bl_al (Below.refl wr.heap.size wr) (.cells #[.int .i64 v.k, .int .i64 v.n, .int .u64 v.u, .string v.s] 28)))
      have HPR := Lib.hid (fun w hT => print_any v HNN.out w hT)
      have HRT := Lib.hid (fun w => right_any v.k v.n v.u v.s w)
      have HPL := Lib.hid (fun w => rplain_any v.k v.n v.u v.s w)
      rw [show rightB v.k v.n v.u v.s = v.ok from rfl] at HRT
      rw [show plainB v.k v.n v.u v.s = v.plain from rfl] at HPL
      go_upto_region 6 with fail
      obtain ⟨g1, hg1⟩ : ∃ g, g = wr.heap.size := ⟨_, rfl⟩
      rw [← hg1] at HVB ⊢
      clear hg1 c0 c1 c2 c3 hal
      generalize wr.alloc (.cells #[.int .i64 v.k, .int .i64 v.n, .int .u64 v.u, .string v.s] 28) = w3 at *
      have a0 : w3.cell? ⟨g1, 0, none⟩ = some (.int .i64 v.k) := HVB.out.cell 0
      have a1 : w3.cell? ⟨g1, 1, none⟩ = some (.int .i64 v.n) := HVB.out.cell 1
      have a2 : w3.cell? ⟨g1, 2, none⟩ = some (.int .u64 v.u) := HVB.out.cell 2
      have a3 : w3.cell? ⟨g1, 3, none⟩ = some (.string v.s) := HVB.out.cell 3
      cases hok : v.ok
      · have HPR2 := Lib.hid (prR_bad hok)
        rw [hok] at HRT
        rw [HPR2.out] at HPR
        clear hok
        have hnil := nil_ba
        go_wp2_with fail
        refine (HPR.out w3 HT1.out).mono ?_
        rintro e w4 ⟨rfl, q⟩
        have HVB := Lib.hid (HVB.out.ca q)
        have HQ1 := Lib.hid (bl_ca HQ1.out q)
        clear q a0 a1 a2 a3
        have b0 : w4.cell? ⟨g1, 0, none⟩ = some (.int .i64 v.k) := HVB.out.cell 0
        have b1 : w4.cell? ⟨g1, 1, none⟩ = some (.int .i64 v.n) := HVB.out.cell 1
        have b2 : w4.cell? ⟨g1, 2, none⟩ = some (.int .u64 v.u) := HVB.out.cell 2
        have b3 : w4.cell? ⟨g1, 3, none⟩ = some (.string v.s) := HVB.out.cell 3
        go_wp2_with fail
        refine (HRT.out w4).mono ?_
        rintro e w5 ⟨rfl, q⟩
        have HVB := Lib.hid (HVB.out.ca q)
        have HQ1 := Lib.hid (bl_ca HQ1.out q)
        clear q b0 b1 b2 b3
        have d0 : w5.cell? ⟨g1, 0, none⟩ = some (.int .i64 v.k) := HVB.out.cell 0
        have d1 : w5.cell? ⟨g1, 1, none⟩ = some (.int .i64 v.n) := HVB.out.cell 1
        have d2 : w5.cell? ⟨g1, 2, none⟩ = some (.int .u64 v.u) := HVB.out.cell 2
        have d3 : w5.cell? ⟨g1, 3, none⟩ = some (.string v.s) := HVB.out.cell 3
        go_wp2
        go_roundg (gk - 1)
        · exact ⟨i + 1, by omega, by go_num, HQ1⟩
        · omega
      · rw [hok] at HRT
        cases hpl : v.plain
        · have hk4 : v.k = 4 := Classical.byContradiction fun h4 => by have := plain_ok.2 ⟨hok, h4⟩; rw [hpl] at this; cases this
          have HPR2 := Lib.hid (prR_sum hok hk4)
          rw [HPR2.out] at HPR
          rw [hpl] at HPL
          clear hok hpl hk4
          have hnil := nil_ba
          go_wp2_with fail
          refine (HPR.out w3 HT1.out).mono ?_
          rintro e w4 ⟨rfl, q⟩
          have HVB := Lib.hid (HVB.out.ca q)
          have HQ1 := Lib.hid (bl_ca HQ1.out q)
          clear q a0 a1 a2 a3
          have b0 : w4.cell? ⟨g1, 0, none⟩ = some (.int .i64 v.k) := HVB.out.cell 0
          have b1 : w4.cell? ⟨g1, 1, none⟩ = some (.int .i64 v.n) := HVB.out.cell 1
          have b2 : w4.cell? ⟨g1, 2, none⟩ = some (.int .u64 v.u) := HVB.out.cell 2
          have b3 : w4.cell? ⟨g1, 3, none⟩ = some (.string v.s) := HVB.out.cell 3
          go_wp2_with fail
          refine (HRT.out w4).mono ?_
          rintro e w5 ⟨rfl, q⟩
          have HVB := Lib.hid (HVB.out.ca q)
          have HQ1 := Lib.hid (bl_ca HQ1.out q)
          clear q b0 b1 b2 b3
          have d0 : w5.cell? ⟨g1, 0, none⟩ = some (.int .i64 v.k) := HVB.out.cell 0
          have d1 : w5.cell? ⟨g1, 1, none⟩ = some (.int .i64 v.n) := HVB.out.cell 1
          have d2 : w5.cell? ⟨g1, 2, none⟩ = some (.int .u64 v.u) := HVB.out.cell 2
          have d3 : w5.cell? ⟨g1, 3, none⟩ = some (.string v.s) := HVB.out.cell 3
          go_wp2_with fail
          refine (HPL.out w5).mono ?_
          rintro e w6 ⟨rfl, q⟩
          have HVB := Lib.hid (HVB.out.ca q)
          have HQ1 := Lib.hid (bl_ca HQ1.out q)
          clear q d0 d1 d2 d3
          have f0 : w6.cell? ⟨g1, 0, none⟩ = some (.int .i64 v.k) := HVB.out.cell 0
          have f1 : w6.cell? ⟨g1, 1, none⟩ = some (.int .i64 v.n) := HVB.out.cell 1
          have f2 : w6.cell? ⟨g1, 2, none⟩ = some (.int .u64 v.u) := HVB.out.cell 2
          have f3 : w6.cell? ⟨g1, 3, none⟩ = some (.string v.s) := HVB.out.cell 3
          go_wp2
          go_roundg (gk - 1)
          · exact ⟨i + 1, by omega, by go_num, HQ1⟩
          · omega
        · have HPR2 := Lib.hid (prR_plain hpl)
          rw [HPR2.out] at HPR
          rw [hpl] at HPL
          have HRP := Lib.hid (fun w => rprint_any v.k v.n v.u v.s w HNN.out (plain_size hpl))
          rw [show (⟨v.k, v.n, v.s.data.toList⟩ : LV) = v.lv from rfl] at HRP
          clear hok hpl
          generalize bS v.lv.lit = T at *
          go_wp2_with fail
          refine (HPR.out w3 HT1.out).mono ?_
          rintro e w4 ⟨rfl, q⟩
          have HVB := Lib.hid (HVB.out.ca q)
          have HQ1 := Lib.hid (bl_ca HQ1.out q)
          clear q a0 a1 a2 a3
          have b0 : w4.cell? ⟨g1, 0, none⟩ = some (.int .i64 v.k) := HVB.out.cell 0
          have b1 : w4.cell? ⟨g1, 1, none⟩ = some (.int .i64 v.n) := HVB.out.cell 1
          have b2 : w4.cell? ⟨g1, 2, none⟩ = some (.int .u64 v.u) := HVB.out.cell 2
          have b3 : w4.cell? ⟨g1, 3, none⟩ = some (.string v.s) := HVB.out.cell 3
          go_wp2_with fail
          refine (HRT.out w4).mono ?_
          rintro e w5 ⟨rfl, q⟩
          have HVB := Lib.hid (HVB.out.ca q)
          have HQ1 := Lib.hid (bl_ca HQ1.out q)
          clear q b0 b1 b2 b3
          have d0 : w5.cell? ⟨g1, 0, none⟩ = some (.int .i64 v.k) := HVB.out.cell 0
          have d1 : w5.cell? ⟨g1, 1, none⟩ = some (.int .i64 v.n) := HVB.out.cell 1
          have d2 : w5.cell? ⟨g1, 2, none⟩ = some (.int .u64 v.u) := HVB.out.cell 2
          have d3 : w5.cell? ⟨g1, 3, none⟩ = some (.string v.s) := HVB.out.cell 3
          go_wp2_with fail
          refine (HPL.out w5).mono ?_
          rintro e w6 ⟨rfl, q⟩
          have HVB := Lib.hid (HVB.out.ca q)
          have HQ1 := Lib.hid (bl_ca HQ1.out q)
          clear q d0 d1 d2 d3
          have f0 : w6.cell? ⟨g1, 0, none⟩ = some (.int .i64 v.k) := HVB.out.cell 0
          have f1 : w6.cell? ⟨g1, 1, none⟩ = some (.int .i64 v.n) := HVB.out.cell 1
          have f2 : w6.cell? ⟨g1, 2, none⟩ = some (.int .u64 v.u) := HVB.out.cell 2
          have f3 : w6.cell? ⟨g1, 3, none⟩ = some (.string v.s) := HVB.out.cell 3
          go_wp2_with fail
          refine (HRP.out w6).mono ?_
          rintro e w7 ⟨rfl, q⟩
          have HVB := Lib.hid (HVB.out.ca q)
          have HQ1 := Lib.hid (bl_ca HQ1.out q)
          clear q f0 f1 f2 f3
          have h0 : w7.cell? ⟨g1, 0, none⟩ = some (.int .i64 v.k) := HVB.out.cell 0
          have h1 : w7.cell? ⟨g1, 1, none⟩ = some (.int .i64 v.n) := HVB.out.cell 1
          have h2 : w7.cell? ⟨g1, 2, none⟩ = some (.int .u64 v.u) := HVB.out.cell 2
          have h3 : w7.cell? ⟨g1, 3, none⟩ = some (.string v.s) := HVB.out.cell 3
          have hTT : (T.toList == T.toList) = true := by simp
          go_wp2
          go_roundg (gk - 1)
          · exact ⟨i + 1, by omega, by go_num, HQ1⟩
          · omega
    case neg =>
      have hi1 : (n' : Int) ≤ (i : Int) := by omega
      have hi2 : decide (i < n') = false := decide_eq_false hi
      have HQ0 := Lib.hid (bl_ca HBB.out HQ.out)
      have HS0 := Lib.hid (HSS.out.below HQ0.out)
      have HT0 := Lib.hid (HTT.out.below HQ0.out)
      clear hi hig HRG HV HBB HSS HTT
      generalize wr = u0 at *
      obtain ⟨k0, rfl⟩ : ∃ k0, k0 = gk := ⟨_, rfl⟩
      go_wp2_with fail
      go_loopg [61] n2 (fun g s wr => ∃ (i : Nat), i + g = n2 ∧ s = .int .i64 i ∧ Hid (Below u0.heap.size u0 wr))
      case atStart => exact ⟨0, by omega, rfl, Lib.hid (Below.refl _ _)⟩
      case round =>
        obtain ⟨i, hig, rfl, HQ⟩ := hrel
        by_cases hi : i < n2
        case neg =>
          obtain rfl : i = n2 := by omega
          have hi3 : (i : Int) ≤ (i : Int) := by omega
          go_wp2
          go_ret
          exact ⟨rfl, bl_ca HQ0.out HQ.out⟩
        case pos =>
          have hi3 : (i : Int) < (n2 : Int) := by omega
          obtain ⟨ad, s, hA, _, cz⟩ := (HS0.out.below HQ.out).at_ hi
          subst hA
          by_cases h20 : i = 20
          · have h21 : ((i : Int) == 20) = true := ibeq_t (by omega)
            clear h20
            go_wp2
            go_ret
            exact ⟨rfl, bl_ca HQ0.out HQ.out⟩
          have h21 : ((i : Int) == 20) = false := ibeq_f (by omega)
          have HS1 := Lib.hid (cut101_size s)
          have HTW := Lib.hid (HT0.out.below HQ.out)
          clear h20
          go_wp2_with fail
          clear cz h21
          generalize s.extract 0 (min (s.size : Int) 101).toNat = t at *
          refine (parse_any t (by have := HS1.out; omega) wr HTW.out).mono ?_
          rintro e w3 ⟨rfl, q3⟩
          have HQ3 := Lib.hid (bl_ca HQ.out q3)
          clear q3
          rw [paR_r]
          have HLG := Lib.hid (pa_long (s := t))
          have HPS := Lib.hid (fun l => pa_some (s := t) (l := l))
          have HPN := Lib.hid (pa_none (s := t))
          obtain ⟨v, hv⟩ : ∃ v, v = paV t := ⟨_, rfl⟩
          obtain ⟨E, hE⟩ : ∃ v, v = paE t := ⟨_, rfl⟩
          rw [← hv, ← hE]
          have HVE := Lib.hid (And.intro hv hE)
          clear hv hE
          have HV3 := Lib.hid (Blk.new w3 28 #[.int .i64 v.k, .int .i64 v.n, .int .u64 v.u, .string v.s])
          have HQ4 := Lib.hid (bl_al HQ3.out (.cells #[.int .i64 v.k, .int .i64 v.n, .int .u64 v.u, .string v.s] 28))
          unfold resT
          go_upto_region 22 with fail
          obtain ⟨g3, hg3⟩ : ∃ g, g = w3.heap.size := ⟨_, rfl⟩
          rw [← hg3] at HV3 ⊢
          clear hg3
          generalize w3.alloc (.cells #[.int .i64 v.k, .int .i64 v.n, .int .u64 v.u, .string v.s] 28) = w4 at *
          go_wp2_with fail
          refine (rparse_any t (by have := HS1.out; omega) w4).mono ?_
          rintro e w5 ⟨he, q5⟩
          have HQ5 := Lib.hid (bl_ca HQ4.out q5)
          have HV5 := Lib.hid (HV3.out.ca q5)
          clear q5
          cases hq : parseP t.data.toList with
          | none =>
            have HP := Lib.hid hq
            have HE : e = .returned (.tuple #[.agg #[.int .i64 0, .int .i64 0, .int .u64 0, .string ⟨#[]⟩], .bool false]) := he.trans (rpR_none (by rw [← parse_same]; exact hq))
            subst HE
            clear he hq
            have HV6 := Lib.hid (HV5.out.alloc (.cells #[.int .i64 0, .int .i64 0, .int .u64 0, .string ⟨#[]⟩] 28))
            have HU6 := Lib.hid (Blk.new w5 28 #[.int .i64 0, .int .i64 0, .int .u64 0, .string ⟨#[]⟩])
            have HQ6 := Lib.hid (bl_al HQ5.out (.cells #[.int .i64 0, .int .i64 0, .int .u64 0, .string ⟨#[]⟩] 28))
            go_upto_region 23 with fail
            obtain ⟨g5, hg5⟩ : ∃ g, g = w5.heap.size := ⟨_, rfl⟩
            rw [← hg5] at HU6 ⊢
            clear hg5
            generalize w5.alloc (.cells #[.int .i64 0, .int .i64 0, .int .u64 0, .string ⟨#[]⟩] 28) = w6 at *
            by_cases hl : 100 < t.size
            · have hl1 : (100 : Int) < (t.size : Int) := by omega
              obtain ⟨e1, e2⟩ := HLG.out hl
              obtain rfl : v = V0 := HVE.out.1.trans e2
              obtain rfl : E = 3 := HVE.out.2.trans e1
              clear e1 e2 hl HVE HLG HPS HPN
              have heq := v0_eq
              have a0 : w6.cell? ⟨g3, 0, none⟩ = some (.int .i64 0) := HV6.out.cell 0
              have a1 : w6.cell? ⟨g3, 1, none⟩ = some (.int .i64 0) := HV6.out.cell 1
              have a2 : w6.cell? ⟨g3, 2, none⟩ = some (.int .u64 0) := HV6.out.cell 2
              have a3 : w6.cell? ⟨g3, 3, none⟩ = some (.string ⟨#[]⟩) := HV6.out.cell 3
              go_wp2
              go_roundg (gk - 1)
              · exact ⟨i + 1, by omega, by go_num, HQ6⟩
              · omega
            have hl1 : (t.size : Int) ≤ 100 := by omega
            obtain ⟨e1, e2⟩ := HPN.out hl HP.out
            obtain rfl : v = V0 := HVE.out.1.trans e2
            obtain rfl : E = 2 := HVE.out.2.trans e1
            clear e1 e2 hl HVE HLG HPS HPN
            have heq := v0_eq
            have a0 : w6.cell? ⟨g3, 0, none⟩ = some (.int .i64 0) := HV6.out.cell 0
            have a1 : w6.cell? ⟨g3, 1, none⟩ = some (.int .i64 0) := HV6.out.cell 1
            have a2 : w6.cell? ⟨g3, 2, none⟩ = some (.int .u64 0) := HV6.out.cell 2
            have a3 : w6.cell? ⟨g3, 3, none⟩ = some (.string ⟨#[]⟩) := HV6.out.cell 3
            go_wp2
            go_roundg (gk - 1)
            · exact ⟨i + 1, by omega, by go_num, HQ6⟩
            · omega
          | some l =>
            have HP := Lib.hid hq
            have HE : e = .returned (.tuple #[.agg #[.int .i64 l.vv.k, .int .i64 l.vv.n, .int .u64 l.vv.u, .string l.vv.s], .bool true]) := he.trans (rpR_some (by rw [← parse_same]; exact hq))
            subst HE
            clear he hq
            have HV6 := Lib.hid (HV5.out.alloc (.cells #[.int .i64 l.vv.k, .int .i64 l.vv.n, .int .u64 l.vv.u, .string l.vv.s] 28))
            have HU6 := Lib.hid (Blk.new w5 28 #[.int .i64 l.vv.k, .int .i64 l.vv.n, .int .u64 l.vv.u, .string l.vv.s])
            have HQ6 := Lib.hid (bl_al HQ5.out (.cells #[.int .i64 l.vv.k, .int .i64 l.vv.n, .int .u64 l.vv.u, .string l.vv.s] 28))
            go_upto_region 23 with fail
            obtain ⟨g5, hg5⟩ : ∃ g, g = w5.heap.size := ⟨_, rfl⟩
            rw [← hg5] at HU6 ⊢
            clear hg5
            generalize w5.alloc (.cells #[.int .i64 l.vv.k, .int .i64 l.vv.n, .int .u64 l.vv.u, .string l.vv.s] 28) = w6 at *
            by_cases hl : 100 < t.size
            · have hl1 : (100 : Int) < (t.size : Int) := by omega
              obtain ⟨e1, e2⟩ := HLG.out hl
              obtain rfl : v = V0 := HVE.out.1.trans e2
              obtain rfl : E = 3 := HVE.out.2.trans e1
              clear e1 e2 hl HVE HLG HPS HPN
              have heq := v0_eq
              have a0 : w6.cell? ⟨g3, 0, none⟩ = some (.int .i64 0) := HV6.out.cell 0
              have a1 : w6.cell? ⟨g3, 1, none⟩ = some (.int .i64 0) := HV6.out.cell 1
              have a2 : w6.cell? ⟨g3, 2, none⟩ = some (.int .u64 0) := HV6.out.cell 2
              have a3 : w6.cell? ⟨g3, 3, none⟩ = some (.string ⟨#[]⟩) := HV6.out.cell 3
              go_wp2
              go_roundg (gk - 1)
              · exact ⟨i + 1, by omega, by go_num, HQ6⟩
              · omega
            have hl1 : (t.size : Int) ≤ 100 := by omega
            obtain ⟨e1, e2⟩ := HPS.out _ hl HP.out
            obtain rfl : E = 0 := HVE.out.2.trans e1
            have hvl : v = l.vv := HVE.out.1.trans e2
            rw [← hvl] at HU6
            clear e1 e2 hl HVE HLG HPS HPN hvl
            have heq := vv_eq v
            have a0 : w6.cell? ⟨g3, 0, none⟩ = some (.int .i64 v.k) := HV6.out.cell 0
            have a1 : w6.cell? ⟨g3, 1, none⟩ = some (.int .i64 v.n) := HV6.out.cell 1
            have a2 : w6.cell? ⟨g3, 2, none⟩ = some (.int .u64 v.u) := HV6.out.cell 2
            have a3 : w6.cell? ⟨g3, 3, none⟩ = some (.string v.s) := HV6.out.cell 3
            have b0 : w6.cell? ⟨g5, 0, none⟩ = some (.int .i64 v.k) := HU6.out.cell 0
            have b1 : w6.cell? ⟨g5, 1, none⟩ = some (.int .i64 v.n) := HU6.out.cell 1
            have b2 : w6.cell? ⟨g5, 2, none⟩ = some (.int .u64 v.u) := HU6.out.cell 2
            have b3 : w6.cell? ⟨g5, 3, none⟩ = some (.string v.s) := HU6.out.cell 3
            go_wp2
            go_roundg (gk - 1)
            · exact ⟨i + 1, by omega, by go_num, HQ6⟩
            · omega
end Go.Proofs.YtabbiepafibmmaaDoor
