/- The law ValueBack: values and their literals lead back to one another. Conditions: the slices read as these; the tables. -/
import Derived.Test.YtabbiepafibmmaaDoorFew
import Derived.Test.YtabbiepafibmmaaDoorRdT
import Derived.Test.YtabbiepafibmmaaDoorVmap
import Derived.Deep.DeepCutAuto
import Derived.Deep.CutBlock
namespace Go.Proofs.YtabbiepafibmmaaDoor
open Go.RowKit
theorem paR_r {s : ByteArray} : paR s = .returned (resT (paV s, paE s)) := rfl
theorem short_n (v : VV) : v.short.n = v.n := rfl
theorem few_rng {k : Nat} {vs : List VV} (h : ∀ v ∈ vs, v.rng) : ∀ v ∈ fewV k vs, -9223372036854775808 ≤ v.n ∧ v.n ≤ 9223372036854775807 := by
  intro v hv
  unfold fewV at hv
  obtain ⟨u, hu, rfl⟩ := List.mem_map.1 hv
  have := (h u (List.mem_of_mem_take hu)).1
  unfold I64 at this
  rw [short_n]; omega
theorem cut100_size (s : ByteArray) : (s.extract 0 (min (s.size : Int) 100).toNat).size ≤ 100 := by rw [ByteArray.size_extract]; omega
theorem vv_eq (v : VV) : ∀ W, (Op.equalIn 10000 28 (.agg #[.int .i64 v.k, .int .i64 v.n, .int .u64 v.u, .string v.s]) (.agg #[.int .i64 v.k, .int .i64 v.n, .int .u64 v.u, .string v.s])).run Tryd.prog W = .ok true W := fun W => by
  rw [run_eqVV v v W, (eqVV_iff v v).2 rfl]
set_option maxRecDepth 100000 in
set_option maxHeartbeats 16000000 in
theorem valueBack_walk (A : Option Addr) (n c : Nat) (vs : List VV) (A2 : Option Addr) (n2 c2 : Nat) (ss : List ByteArray) (w : World)
    (h : RdV w A n vs) (hn : n ≤ 9223372036854775807) (hr : ∀ v ∈ vs, v.rng) (hs : RdT w A2 n2 ss) (hn2 : n2 ≤ 9223372036854775807) (hT : TabX w) :
    Calls Tryd.prog 4 #[.slice A n c, .slice A2 n2 c2] w fun e w' => e = .returned (.bool true) ∧ Below w.heap.size w w' := by
  have HRG := Lib.hid (few_rng (k := 10) hr)
  have HSS := Lib.hid hs
  have HTT := Lib.hid hT
  have HN2 := Lib.hid hn2
  clear hr hs
  go_enter Tryd.func4, Tryd.ntmps4
  go_wp2_with fail
  refine (wakes2_any w hT.t).mono ?_
  rintro e w1 ⟨rfl, b1⟩
  have h1 := h.below (bl_al b1 (.map #[] 0))
  have HM1 := Lib.hid (MapV.made w1)
  have HB1 := Lib.hid (bl_al b1 (.map #[] 0))
  have hs1 := b1.size
  have hz1 : (w1.alloc (.map #[] 0)).heap.size = w1.heap.size + 1 := World.size_alloc _ _
  have hmm : (Instr.makeMap 39 none).run Tryd.prog w1 = .ok (.map (some w1.heap.size)) (w1.alloc (.map #[] 0)) := rfl
  clear hT b1
  go_wp2_with fail
  clear hmm
  obtain ⟨gm, hgm⟩ : ∃ g, g = w1.heap.size := ⟨_, rfl⟩
  rw [← hgm] at HM1 hs1 hz1 ⊢
  clear hgm
  generalize w1.alloc (.map #[] 0) = w2 at *
  refine (few_any A n c vs w2 h1 hn).mono ?_
  rintro e w3 ⟨A', n', c', rfl, ho, q2⟩
  have HBB := Lib.hid (bl_ca HB1.out q2)
  have HM3 := Lib.hid (HM1.out.below q2)
  have HOV := Lib.hid ho
  have hlt := ho.len
  have hgB : gm < w2.heap.size := by omega
  have hn10 : n' ≤ 10 := by
    rw [← hlt]
    simp only [fewV, List.length_map, List.length_take]
    omega
  generalize fewV 10 vs = xs at *
  generalize w2.heap.size = B2 at *
  have HGB := Lib.hid (And.intro hgB hs1)
  clear h1 h ho q2 hlt hn hz1 hgB hs1
  go_wp2_with fail
  go_loopg [26] n' (fun g s wr => ∃ (i : Nat), i + g = n' ∧ s = .int .i64 i ∧ Hid (Below w.heap.size w wr) ∧ Hid (OwnV wr B2 A' n' c' xs) ∧ Hid (MapV wr gm i))
  case atStart => exact ⟨0, by omega, rfl, HBB, HOV, HM3⟩
  case round =>
    obtain ⟨i, hig, rfl, HQ, HOV, HM⟩ := hrel
    by_cases hi : i < n'
    case pos =>
      have hi1 : (i : Int) < (n' : Int) := by omega
      obtain ⟨ad, v, hA, hvi, hal, c0, c1, c2, c3⟩ := HOV.out.rd.2 i hi
      subst hA
      have HNN := Lib.hid (HRG.out v (List.mem_of_getElem? hvi))
      clear hvi
      have HTW := Lib.hid (HTT.out.below HQ.out)
      have HVB := Lib.hid (Blk.new wr 28 #[.int .i64 v.k, .int .i64 v.n, .int .u64 v.u, .string v.s])
      have HQ1 := Lib.hid (bl_al (Below.refl wr.heap.size wr) (.cells #[.int .i64 v.k, .int .i64 v.n, .int .u64 v.u, .string v.s] 28))
      have HPR := Lib.hid (fun w hT => print_any v HNN.out w hT)
      go_upto_region 7 with fail
      obtain ⟨g1, hg1⟩ : ∃ g, g = wr.heap.size := ⟨_, rfl⟩
      have HG1 := Lib.hid hg1
      rw [← hg1] at HVB ⊢
      clear hg1 c0 c1 c2 c3 hal
      generalize wr.alloc (.cells #[.int .i64 v.k, .int .i64 v.n, .int .u64 v.u, .string v.s] 28) = w4 at *
      have a0 : w4.cell? ⟨g1, 0, none⟩ = some (.int .i64 v.k) := HVB.out.cell 0
      have a1 : w4.cell? ⟨g1, 1, none⟩ = some (.int .i64 v.n) := HVB.out.cell 1
      have a2 : w4.cell? ⟨g1, 2, none⟩ = some (.int .u64 v.u) := HVB.out.cell 2
      have a3 : w4.cell? ⟨g1, 3, none⟩ = some (.string v.s) := HVB.out.cell 3
      go_wp2_with fail
      refine (HPR.out w4 (HTW.out.below HQ1.out)).mono ?_
      rintro e w5 ⟨rfl, q5⟩
      have HV5 := Lib.hid (HVB.out.ca q5)
      have HQ5 := Lib.hid (bl_ca HQ1.out q5)
      clear q5 a0 a1 a2 a3
      cases hpl : v.plain
      · have hpe : prE v ≠ 0 := fun e => by have := prE_plain.1 e; rw [hpl] at this; cases this
        unfold prR
        generalize prE v = E at *
        generalize prS v = T at *
        have hpe2 : (E != 0) = true := by simpa using hpe
        clear hpe
        go_wp2
        go_roundg (gk - 1)
        · exact ⟨i + 1, by omega, by go_num, Lib.hid (bl_ca HQ.out HQ5.out), Lib.hid (HOV.out.below HQ5.out), by obtain ⟨D, h1, h2⟩ := HM.out.below HQ5.out; exact Lib.hid ⟨D, h1.mono (by omega), h2⟩⟩
        · omega
      rw [prR_plain hpl]
      have HP := Lib.hid hpl
      have HSZ := Lib.hid (lit_len hpl HNN.out)
      have HPA := Lib.hid (fun w hT => parse_any (bS v.lv.lit) (by have := HSZ.out; omega) w hT)
      rw [pa_lit hpl HNN.out] at HPA
      clear hpl HPR
      obtain ⟨T, hT9⟩ : ∃ T, T = bS v.lv.lit := ⟨_, rfl⟩
      rw [← hT9] at HPA ⊢
      have HTL := Lib.hid hT9
      clear hT9
      go_wp2_with fail
      refine (HPA.out w5 (HTW.out.below HQ5.out)).mono ?_
      rintro e w6 ⟨rfl, q6⟩
      have HQ6 := Lib.hid (bl_al (bl_ca HQ5.out q6) (.cells #[.int .i64 v.k, .int .i64 v.n, .int .u64 v.u, .string v.s] 28))
      have HV6 := Lib.hid (HV5.out.ca (bl_al q6 (.cells #[.int .i64 v.k, .int .i64 v.n, .int .u64 v.u, .string v.s] 28)))
      have HW6 := Lib.hid (Blk.new w6 28 #[.int .i64 v.k, .int .i64 v.n, .int .u64 v.u, .string v.s])
      have HM6 := Lib.hid (HM.out.below HQ6.out)
      clear q6
      go_upto_region 10 with fail
      obtain ⟨g2, hg2⟩ : ∃ g, g = w6.heap.size := ⟨_, rfl⟩
      rw [← hg2] at HW6 ⊢
      clear hg2
      generalize w6.alloc (.cells #[.int .i64 v.k, .int .i64 v.n, .int .u64 v.u, .string v.s] 28) = w7 at *
      obtain ⟨u, t, hlk, htv⟩ := MapV.look HM6.out HP.out HNN.out (by have := HSZ.out; omega)
      rw [← HTL.out] at hlk
      have HTV := Lib.hid htv
      clear htv
      have HQ7 := Lib.hid (bl_al HQ6.out (.cells #[.int .i64 u.k, .int .i64 u.n, .int .u64 u.u, .string u.s] 28))
      have HV7 := Lib.hid (HV6.out.alloc (.cells #[.int .i64 u.k, .int .i64 u.n, .int .u64 u.u, .string u.s] 28))
      have HW7 := Lib.hid (HW6.out.alloc (.cells #[.int .i64 u.k, .int .i64 u.n, .int .u64 u.u, .string u.s] 28))
      have HU7 := Lib.hid (Blk.new w7 28 #[.int .i64 u.k, .int .i64 u.n, .int .u64 u.u, .string u.s])
      have HM7 := Lib.hid (HM.out.below HQ7.out)
      go_upto_region 11 with fail
      obtain ⟨g3, hg3⟩ : ∃ g, g = w7.heap.size := ⟨_, rfl⟩
      rw [← hg3] at HU7 ⊢
      clear hg3 hlk
      generalize w7.alloc (.cells #[.int .i64 u.k, .int .i64 u.n, .int .u64 u.u, .string u.s] 28) = w8 at *
      have heq := vv_eq v
      have a0 : w8.cell? ⟨g1, 0, none⟩ = some (.int .i64 v.k) := HV7.out.cell 0
      have a1 : w8.cell? ⟨g1, 1, none⟩ = some (.int .i64 v.n) := HV7.out.cell 1
      have a2 : w8.cell? ⟨g1, 2, none⟩ = some (.int .u64 v.u) := HV7.out.cell 2
      have a3 : w8.cell? ⟨g1, 3, none⟩ = some (.string v.s) := HV7.out.cell 3
      have b0 : w8.cell? ⟨g2, 0, none⟩ = some (.int .i64 v.k) := HW7.out.cell 0
      have b1 : w8.cell? ⟨g2, 1, none⟩ = some (.int .i64 v.n) := HW7.out.cell 1
      have b2 : w8.cell? ⟨g2, 2, none⟩ = some (.int .u64 v.u) := HW7.out.cell 2
      have b3 : w8.cell? ⟨g2, 3, none⟩ = some (.string v.s) := HW7.out.cell 3
      have HI99 := Lib.hid (show i < maxLen from by unfold maxLen; omega)
      cases t
      · skip
        go_wp2_with (at_mapUpdate; refine wpList_putV rfl (.tmp 63) (.tmp 64) (.tmp 65) rfl gm i v rfl (by rw [← HTL.out]; rfl) rfl HM7.out HI99.out HP.out HNN.out (by have := HSZ.out; omega) ?_; intro w9 hm9 hg9; have HM9 := Lib.hid hm9; have HG9 := Lib.hid hg9; clear hm9 hg9)
        go_roundg (gk - 1)
        · exact ⟨i + 1, by omega, by go_num, Lib.hid (bl_gr (bl_ca HQ.out HQ7.out) HG9.out HGB.out.2), Lib.hid ((HOV.out.below HQ7.out).grown HG9.out HGB.out.1), HM9⟩
        · omega
      · have HUV := HTV.out rfl
        subst HUV
        have c0 : w8.cell? ⟨g3, 0, none⟩ = some (.int .i64 u.k) := HU7.out.cell 0
        have c1 : w8.cell? ⟨g3, 1, none⟩ = some (.int .i64 u.n) := HU7.out.cell 1
        have c2 : w8.cell? ⟨g3, 2, none⟩ = some (.int .u64 u.u) := HU7.out.cell 2
        have c3 : w8.cell? ⟨g3, 3, none⟩ = some (.string u.s) := HU7.out.cell 3
        go_wp2_with (at_mapUpdate; refine wpList_putV rfl (.tmp 63) (.tmp 64) (.tmp 65) rfl gm i u rfl (by rw [← HTL.out]; rfl) rfl HM7.out HI99.out HP.out HNN.out (by have := HSZ.out; omega) ?_; intro w9 hm9 hg9; have HM9 := Lib.hid hm9; have HG9 := Lib.hid hg9; clear hm9 hg9)
        go_roundg (gk - 1)
        · exact ⟨i + 1, by omega, by go_num, Lib.hid (bl_gr (bl_ca HQ.out HQ7.out) HG9.out HGB.out.2), Lib.hid ((HOV.out.below HQ7.out).grown HG9.out HGB.out.1), HM9⟩
        · omega
    case neg =>
      have hi1 : (n' : Int) ≤ (i : Int) := by omega
      have hi2 : decide (i < n') = false := decide_eq_false hi
      have HS0 := Lib.hid (HSS.out.below HQ.out)
      have HT0 := Lib.hid (HTT.out.below HQ.out)
      have HQ0 := Lib.hid HQ.out
      clear hi hig HRG HM HOV HBB HSS HTT HQ HM3
      generalize wr = u0 at *
      obtain ⟨k0, rfl⟩ : ∃ k0, k0 = gk := ⟨_, rfl⟩
      go_wp2_with fail
      go_loopg [69] n2 (fun g s wr => ∃ (i : Nat), i + g = n2 ∧ s = .int .i64 i ∧ Hid (Below u0.heap.size u0 wr))
      case atStart => exact ⟨0, by omega, rfl, Lib.hid (Below.refl _ _)⟩
      case round =>
        obtain ⟨i, hig, rfl, HQ⟩ := hrel
        by_cases hi : i < n2
        case neg =>
          obtain rfl : i = n2 := by omega
          have hi3 : (i : Int) ≤ (i : Int) := by omega
          go_wp2
          go_ret
          exact ⟨rfl, bl_ca HQ0.out HQ.out⟩
        case pos =>
          have hi3 : (i : Int) < (n2 : Int) := by omega
          obtain ⟨ad, s, hA, _, cz⟩ := (HS0.out.below HQ.out).at_ hi
          subst hA
          by_cases h20 : i = 20
          · have h21 : ((i : Int) == 20) = true := ibeq_t (by omega)
            clear h20
            go_wp2
            go_ret
            exact ⟨rfl, bl_ca HQ0.out HQ.out⟩
          have h21 : ((i : Int) == 20) = false := ibeq_f (by omega)
          have HS1 := Lib.hid (cut100_size s)
          have HTW := Lib.hid (HT0.out.below HQ.out)
          clear h20
          go_wp2_with fail
          clear cz h21
          generalize s.extract 0 (min (s.size : Int) 100).toNat = t at *
          refine (parse_any t (by have := HS1.out; omega) wr HTW.out).mono ?_
          rintro e w3 ⟨he, q3⟩
          have HQ3 := Lib.hid (bl_ca HQ.out q3)
          have HT3 := Lib.hid (HTW.out.below q3)
          clear q3
          cases hq : parseP t.data.toList with
          | none =>
            have HE : e = .returned (resT (V0, 2)) := he.trans (paR_none (by have := HS1.out; omega) hq)
            subst HE
            clear hq he
            have HQ4 := Lib.hid (bl_al HQ3.out (.cells #[.int .i64 0, .int .i64 0, .int .u64 0, .string ⟨#[]⟩] 28))
            have hr9 : resT (V0, 2) = .tuple #[.agg #[.int .i64 0, .int .i64 0, .int .u64 0, .string ⟨#[]⟩], .int .i64 2] := rfl
            rw [hr9]
            clear hr9
            go_wp2
            go_roundg (gk - 1)
            · exact ⟨i + 1, by omega, by go_num, HQ4⟩
            · omega
          | some l =>
            have HE : e = .returned (resT (l.vv, 0)) := he.trans (paR_some (by have := HS1.out; omega) hq)
            subst HE
            obtain ⟨hl1, hl2⟩ := lit_parse hq
            obtain ⟨hp, hlv, hrg⟩ := vv_plain hl1
            have hTT : bS l.vv.lv.lit = t := by rw [hlv, hl2, ← bS_of rfl]
            unfold resT
            clear hq he hl1 hl2 hlv
            generalize l.vv = v at *
            have HPR := Lib.hid (fun w hT => print_any v hrg w hT)
            rw [prR_plain hp, hTT] at HPR
            have HPL := Lib.hid (fun w => plain_any v.k v.n v.u v.s w)
            rw [show plainB v.k v.n v.u v.s = v.plain from rfl, hp] at HPL
            clear hTT hp hrg
            have HV3 := Lib.hid (Blk.new w3 28 #[.int .i64 v.k, .int .i64 v.n, .int .u64 v.u, .string v.s])
            have HQ4 := Lib.hid (bl_al HQ3.out (.cells #[.int .i64 v.k, .int .i64 v.n, .int .u64 v.u, .string v.s] 28))
            have HT4 := Lib.hid (HT3.out.below (bl_al (Below.refl _ _) (.cells #[.int .i64 v.k, .int .i64 v.n, .int .u64 v.u, .string v.s] 28)))
            go_upto_region 21 with fail
            obtain ⟨g3, hg3⟩ : ∃ g, g = w3.heap.size := ⟨_, rfl⟩
            rw [← hg3] at HV3 ⊢
            clear hg3
            generalize w3.alloc (.cells #[.int .i64 v.k, .int .i64 v.n, .int .u64 v.u, .string v.s] 28) = w4 at *
            have a0 : w4.cell? ⟨g3, 0, none⟩ = some (.int .i64 v.k) := HV3.out.cell 0
            have a1 : w4.cell? ⟨g3, 1, none⟩ = some (.int .i64 v.n) := HV3.out.cell 1
            have a2 : w4.cell? ⟨g3, 2, none⟩ = some (.int .u64 v.u) := HV3.out.cell 2
            have a3 : w4.cell? ⟨g3, 3, none⟩ = some (.string v.s) := HV3.out.cell 3
            go_wp2_with fail
            refine (HPR.out w4 HT4.out).mono ?_
            rintro e w5 ⟨rfl, q5⟩
            have HQ5 := Lib.hid (bl_ca HQ4.out q5)
            have HV5 := Lib.hid (HV3.out.ca q5)
            clear q5 a0 a1 a2 a3
            have b0 : w5.cell? ⟨g3, 0, none⟩ = some (.int .i64 v.k) := HV5.out.cell 0
            have b1 : w5.cell? ⟨g3, 1, none⟩ = some (.int .i64 v.n) := HV5.out.cell 1
            have b2 : w5.cell? ⟨g3, 2, none⟩ = some (.int .u64 v.u) := HV5.out.cell 2
            have b3 : w5.cell? ⟨g3, 3, none⟩ = some (.string v.s) := HV5.out.cell 3
            have hTT : (t.toList == t.toList) = true := by simp
            go_wp2_with fail
            refine (HPL.out w5).mono ?_
            rintro e w6 ⟨rfl, q6⟩
            have HQ6 := Lib.hid (bl_ca HQ5.out q6)
            clear q6 b0 b1 b2 b3
            go_wp2
            go_roundg (gk - 1)
            · exact ⟨i + 1, by omega, by go_num, HQ6⟩
            · omega
end Go.Proofs.YtabbiepafibmmaaDoor
