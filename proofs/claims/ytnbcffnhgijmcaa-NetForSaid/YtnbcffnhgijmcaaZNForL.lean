/- NetFor, walked. Conditions: the net's slice reads as these parcels. -/
import Derived.Test.YtnbcffnhgijmcaaPkA14
namespace Go.Proofs.Ytnbcffnhgijmcaa
open Go.RowKit
set_option maxRecDepth 100000 in
set_option maxHeartbeats 64000000 in
theorem for_law (sent : Int) (A : Option Addr) (m c : Nat) (ps : List PC) (k : Int) (w : World) (h : LP.rd w AllB A m ps) (hm : m ≤ 9223372036854775807) (_hs0 : 0 ≤ sent) (_hk : (Lit.int .i64 k).wf = true) :
    Calls Try.prog 4 #[.agg #[.int .u64 sent, .slice A m c], .int .i64 k] w fun e w' => e = .returned (.bool true) ∧ Below w.heap.size w w' := by
  obtain ⟨qs, hqs⟩ : ∃ qs, qs = shortP ps := ⟨_, rfl⟩
  have HSH := Lib.hid (fun W h => short_any sent A m c ps W h hm)
  rw [← hqs] at HSH
  have hql : qs.length ≤ 20001 := by rw [hqs, shortP_len]; omega
  clear hqs
  have bb := Below.refl w.heap.size w
  have bN := Blk.new w 26 #[.int .u64 sent, .slice A m c]
  replace bb := bl_al bb (.cells #[.int .u64 sent, .slice A m c] 26)
  have hsz : w.heap.size + 1 ≤ (w.alloc (.cells #[.int .u64 sent, .slice A m c] 26)).heap.size := by simp only [World.size_alloc]; omega
  have HR := Lib.hid (Lay.rd_below h bb)
  clear h
  go_enter Try.func4, Try.ntmps4
  go_wp2_with fail
  generalize (w.alloc (.cells #[.int .u64 sent, .slice A m c] 26)) = w1 at *
  refine (wakes_any _).mono ?_
  rintro e w2 ⟨rfl, q2⟩
  replace bN := bN.ca q2
  replace bb := bl_ca bb q2
  replace HR := Lib.hid (Lay.rd_below HR.out q2)
  have hs2 := Nat.le_trans hsz q2.size
  clear hsz q2
  have n0 : w2.cell? ⟨w.heap.size, 0, none⟩ = some (.int .u64 sent) := bN.cell 0
  have n1 : w2.cell? ⟨w.heap.size, 1, none⟩ = some (.slice A m c) := bN.cell 1
  go_wp2_with fail
  refine (HSH.out _ HR.out).mono ?_
  rintro e w3 ⟨A2, m2, c2, rfl, ho, q3⟩
  have hm2 : qs.length = m2 := ho.len.symm
  have HM2 := Lib.hid hm2
  have hm3 : m2 ≤ 20001 := by omega
  have b4 := bl_al (Below.refl w3.heap.size w3) (.cells #[.int .u64 sent, .slice A2 m2 c2] 26)
  have bN2 := Blk.new w3 26 #[.int .u64 sent, .slice A2 m2 c2]
  have HBB := Lib.hid (bl_ca (bl_ca bb q3) b4)
  have HR4 := Lib.hid (Lay.rd_below (ho.rd (F := AllB) (fun _ _ => trivial)) b4)
  clear bN bb HR ho q3 b4 n0 n1 HSH hm2
  go_wp2_with fail
  generalize w3.alloc (.cells #[.int .u64 sent, .slice A2 m2 c2] 26) = w4 at *
  generalize w3.heap.size = g3 at *
  have HN2 := Lib.hid bN2
  clear bN2 hs2
  have HCH := Lib.hid (check_any AllB sent A2 m2 c2 qs w4 HR4.out (by omega))
  cases hc : chkB sent qs
  · rw [hc, show errN false = 340 from rfl] at HCH
    clear hc
    refine HCH.out.mono ?_
    rintro e w5 ⟨rfl, q5⟩
    have HB5 := Lib.hid (bl_ca HBB.out q5)
    clear q5
    go_wp2
    go_ret
    exact ⟨rfl, HB5.out⟩
  · rw [hc, show errN true = 0 from rfl] at HCH
    have HCK := Lib.hid hc
    clear hc
    refine HCH.out.mono ?_
    clear HCH
    rintro e w5 ⟨rfl, q5⟩
    replace HN2 := Lib.hid (HN2.out.ca q5)
    replace HBB := Lib.hid (bl_ca HBB.out q5)
    replace HR4 := Lib.hid (Lay.rd_below HR4.out q5)
    clear q5
    have o1 : w5.cell? ⟨g3, 1, none⟩ = some (.slice A2 m2 c2) := HN2.out.cell 1
    by_cases h100 : 100 < m2
    · have h1001 : (100 : Int) < (m2 : Int) := by omega
      clear h100
      go_wp2
      go_ret
      exact ⟨rfl, HBB.out⟩
    · have h1001 : (m2 : Int) ≤ 100 := by omega
      go_wp2_with fail
      clear o1
      have HFO := Lib.hid (fun W own (h : LP.rd W AllB A2 m2 qs) => by have := for_any sent A2 m2 c2 qs own W h (by omega); rw [show forL sent qs own = takenP (fun q => q.to == own) qs from by unfold forL; rw [HCK.out]; rfl] at this; exact this)
      have HCO := Lib.hid (fun W x (h : LP.rd W AllB A2 m2 qs) => come_any sent A2 m2 c2 qs x W h (by omega))
      have HLO := Lib.hid (fun W x (h : LP.rd W AllB A2 m2 qs) => lose_any sent A2 m2 c2 qs x W h (by omega))
      have HPI := Lib.hid (fun W (h : LP.rd W AllB A2 m2 qs) => pick_any sent A2 m2 c2 qs k W h (by omega))
      go_loopg [6, 31] 10 (fun gz a b wr => ∃ j : Nat, j + gz = 10 ∧ b = .int .i64 j ∧ a = .int .i64 (forCnt qs j : Int) ∧ Below w5.heap.size w5 wr)
      case atStart => exact ⟨0, by omega, rfl, by rw [forCnt_zero]; rfl, Below.refl _ _⟩
      case round =>
        obtain ⟨j, hjg, rfl, rfl, hbw⟩ := hrel
        have hfl := forCnt_le qs j
        have hfl2 : ((forCnt qs j : Nat) : Int) ≤ 100 := by have := HM2.out; omega
        by_cases hlt : j < 10
        · have hj1 : (j : Int) < 10 := by omega
          have r0 : wr.cell? ⟨g3, 0, none⟩ = some (.int .u64 sent) := (HN2.out.ca hbw).cell 0
          have r1 : wr.cell? ⟨g3, 1, none⟩ = some (.slice A2 m2 c2) := (HN2.out.ca hbw).cell 1
          have HRW := Lib.hid (Lay.rd_below HR4.out hbw)
          have HSU := Lib.hid (forCnt_succ qs j)
          have HFC := Lib.hid (fun x (hx : x ∈ takenP (fun q => q.to == (j : Int)) qs) => for_come HCK.out hx)
          obtain ⟨l, hl⟩ : ∃ l, l = takenP (fun q => q.to == (j : Int)) qs := ⟨_, rfl⟩
          have HFJ := Lib.hid (HFO.out wr (j : Int) HRW.out)
          rw [← hl] at HSU HFC HFJ
          clear hl
          have hll : l.length ≤ 100 := by have := HSU.out; have := forCnt_le qs (j + 1); have := HM2.out; omega
          have HBW := Lib.hid hbw
          generalize forCnt qs j = cj at *
          clear hbw
          go_wp2_with fail
          refine HFJ.out.mono ?_
          rintro e w6 ⟨A5, n5, c5, rfl, hu, q6⟩
          have hul : l.length = n5 := hu.len
          have hn5 : n5 ≤ 100 := by omega
          have HUL := Lib.hid hul
          have HU := Lib.hid hu
          have HB6 := Lib.hid (bl_ca HBW.out q6)
          clear hul hu q6 r0 r1 HRW HFJ hfl
          go_wp2_with fail
          obtain ⟨gj, rfl⟩ : ∃ g, g = gk := ⟨_, rfl⟩
          obtain ⟨w60, rfl⟩ : ∃ x, x = wr := ⟨_, rfl⟩
          go_loopg [43] n5 (fun gz a wr => ∃ i : Nat, i + gz = n5 ∧ a = .int .i64 i ∧ Below w6.heap.size w6 wr)
          case atStart => exact ⟨0, by omega, rfl, Below.refl _ _⟩
          case round =>
            obtain ⟨i, hig, rfl, hbi⟩ := hrel
            have HB7 := Lib.hid (bl_ca HB6.out hbi)
            by_cases hil : i < n5
            · have hi1 : (i : Int) < (n5 : Int) := by omega
              obtain ⟨ad, x, cs, rfl, hx, hbl, _, hrep, hcl⟩ := Lay.rd_at (Lay.rd_below HU.out.rd hbi) hil
              have hcs : cs = [.int .u64 x] := hrep
              subst hcs
              have e0 : wr.cell? (ad.add i) = some (.int .u64 x) := by
                have := hcl 0 _ rfl
                simpa [LU, Lay.cell] using this
              have hcx := HFC.out x (List.mem_of_getElem? hx)
              have r0 : wr.cell? ⟨g3, 0, none⟩ = some (.int .u64 sent) := (HN2.out.ca HB7.out).cell 0
              have r1 : wr.cell? ⟨g3, 1, none⟩ = some (.slice A2 m2 c2) := (HN2.out.ca HB7.out).cell 1
              have HCA := Lib.hid (HCO.out wr x (Lay.rd_below HR4.out HB7.out))
              rw [hcx.1] at HCA
              have HTO := Lib.hid hcx.2
              have HBI := Lib.hid hbi
              clear hx hbl hrep hcl hcx hbi
              go_wp2_with fail
              refine HCA.out.mono ?_
              clear HCA e0 r0 r1
              rintro e w8 ⟨A9, m9, c9, pA, pn, pc, es9, rfl, _, _, _, _, q8⟩
              generalize comeP sent qs x = P at *
              obtain ⟨P0, P1, P2, P3, P4⟩ := P
              have hto : P2 = (j : Int) := HTO.out
              subst hto
              go_wp2_with (first | (refine wpList_store_blk rfl 26 (.tmp 11) (.tmp 51) rfl w8.heap.size 26 _ _ rfl rfl ((Blk.new w8 26 #[.int .u64 0, .slice none 0 0]).ca (bl_al (Below.refl _ _) _)) rfl netI (by simp [Value.oneCell']) ?_; intro wd hZd gd) | (refine wpList_store_blk rfl 29 (.tmp 12) (.tmp 52) rfl (w8.heap.size + 1) 29 _ _ rfl rfl (Blk.apart (Blk.mk' (w := w8.alloc (.cells #[.int .u64 0, .slice none 0 0] 26)) (t := 29) (cs := #[.int .u64 0, .int .i64 0, .int .i64 0, .slice none 0 0, .bool false]) (by simp only [World.size_alloc])) gd (by omega)) rfl parcelI (by simp [Value.oneCell']) ?_; intro we hZe ge; have z2 : we.cell? ⟨w8.heap.size + 1, 2, none⟩ = some (.int .i64 (j : Int)) := hZe.cell 2; have HBE := Lib.hid (bl_gr (bl_gr (bl_al (bl_al (Below.refl w8.heap.size w8) (.cells #[.int .u64 0, .slice none 0 0] 26)) (.cells #[.int .u64 0, .int .i64 0, .int .i64 0, .slice none 0 0, .bool false] 29)) gd (Nat.le_refl _)) ge (by omega)); clear hZd gd hZe ge))
              go_roundg (gk - 1)
              · exact ⟨i + 1, by omega, by go_num, bl_ca (bl_ca HBI.out q8) HBE.out⟩
              · omega
            · obtain rfl : i = n5 := by omega
              have hi1 : (i : Int) ≤ (i : Int) := by omega
              clear hbi
              go_wp2
              go_roundg (gj - 1)
              · exact ⟨j + 1, by omega, by go_num, by rw [HSU.out, HUL.out]; go_num, HB7.out⟩
              · omega
        · obtain rfl : j = 10 := by omega
          have hj1 : (10 : Int) ≤ (10 : Int) := by omega
          have r0 : wr.cell? ⟨g3, 0, none⟩ = some (.int .u64 sent) := (HN2.out.ca hbw).cell 0
          have r1 : wr.cell? ⟨g3, 1, none⟩ = some (.slice A2 m2 c2) := (HN2.out.ca hbw).cell 1
          have HPJ := Lib.hid (HPI.out wr (Lay.rd_below HR4.out hbw))
          rw [show forCnt qs 10 = m2 from (forCnt_all HCK.out).trans HM2.out]
          have HB9 := Lib.hid (bl_ca HBB.out hbw)
          have HBW := Lib.hid hbw
          rcases Nat.eq_zero_or_pos m2 with h0 | h0
          · rw [show pickB sent qs = false from by unfold pickB; rw [HM2.out, h0]; simp] at HPJ
            subst h0
            clear hbw hfl hfl2
            go_wp2_with fail
            refine HPJ.out.mono ?_
            clear HPJ
            rintro e w6 ⟨rfl, q6⟩
            have r2 : w6.cell? ⟨g3, 1, none⟩ = some (.slice A2 0 c2) := ((HN2.out.ca HBW.out).ca q6).cell 1
            have HB6 := Lib.hid (bl_ca HB9.out q6)
            clear q6 r0 r1
            go_wp2
            go_ret
            exact ⟨rfl, HB6.out⟩
          · have hpl := pick_lose HCK.out (by rw [HM2.out]; exact h0) k
            rw [show pickB sent qs = true from by unfold pickB; rw [HCK.out, HM2.out]; simpa using h0, if_pos rfl] at HPJ
            generalize pickAt qs k = x at *
            have hm0 : (0 : Int) < (m2 : Int) := by omega
            have HPL := Lib.hid hpl
            clear hbw hfl hfl2 hpl
            go_wp2_with fail
            refine HPJ.out.mono ?_
            clear HPJ
            rintro e w6 ⟨rfl, q6⟩
            have r2 : w6.cell? ⟨g3, 0, none⟩ = some (.int .u64 sent) := ((HN2.out.ca HBW.out).ca q6).cell 0
            have r3 : w6.cell? ⟨g3, 1, none⟩ = some (.slice A2 m2 c2) := ((HN2.out.ca HBW.out).ca q6).cell 1
            have HB6 := Lib.hid (bl_ca HB9.out q6)
            have HLJ := Lib.hid (HLO.out w6 x (Lay.rd_below (Lay.rd_below HR4.out HBW.out) q6))
            rw [HPL.out.1] at HLJ
            clear q6 r0 r1
            go_wp2_with fail
            refine HLJ.out.mono ?_
            clear HLJ
            rintro e w8 ⟨A9, m9, c9, rfl, ho9, q8⟩
            have hm9 : m9 + 1 = m2 := by have h1 := ho9.len; have h2 := HPL.out.2; have h3 := HM2.out; omega
            have hm91 : ((m9 : Int) == (m2 : Int) - 1) = true := by simp; omega
            have HB8 := Lib.hid (bl_al (bl_ca HB6.out q8) (.cells #[.int .u64 (comeR sent qs x).1, .slice A9 m9 c9] 26))
            clear q8 ho9 hm9 r2 r3
            go_wp2
            go_ret
            exact ⟨rfl, HB8.out⟩
end Go.Proofs.Ytnbcffnhgijmcaa
