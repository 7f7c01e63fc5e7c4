/- NetOthers, walked. Conditions: the net's slice reads as these parcels, the op's as these bytes. -/
import Derived.Test.YtnbcffnhgijmcaaPkA14
namespace Go.Proofs.Ytnbcffnhgijmcaa
open Go.RowKit
theorem oth_no {gone own : Bool} {l : List PC} {p : PC} (h : Oth gone own l p) (hg : gone = true) : idxF (fun q => q.num == p.num) l = -1 := h.1 hg
theorem oth_yes {gone own : Bool} {l : List PC} {p : PC} (h : Oth gone own l p) (hg : gone = false) (b : Bool) (hb : own = b) : ∃ (i : Nat) (q : PC), idxF (fun q => q.num == p.num) l = i ∧ l[i]? = some q ∧ As b p q := hb ▸ h.2 hg
theorem OutN.len' {w : World} {B : Nat} {A : Option Addr} {m c : Nat} {ps : List PC} (h : OutN w B A m c ps) : m = ps.length := h.len
set_option maxRecDepth 100000 in
set_option maxHeartbeats 64000000 in
theorem others_any (sent : Int) (A : Option Addr) (m c : Nat) (ps : List PC) (o : OpC) (oA : Option Addr) (on oc : Nat) (w : World) (h : LP.rd w AllB A m ps) (hm : m ≤ 9223372036854775807) (hs0 : 0 ≤ sent) (hb : RdB w oA on o.bs) (hc1 : on ≤ oc) (hc2 : oc ≤ 9223372036854775807) :
    Calls Try.prog 7 #[.agg #[.int .u64 sent, .slice A m c], .agg (o.cells oA on oc)] w fun e w' => e = .returned (.bool true) ∧ Below w.heap.size w w' := by
  obtain ⟨qs, hqs⟩ : ∃ qs, qs = shortP ps := ⟨_, rfl⟩
  have HSH := Lib.hid (fun W h => short_any sent A m c ps W h hm)
  rw [← hqs] at HSH
  have hql : qs.length ≤ 20001 := by rw [hqs, shortP_len]; omega
  clear hqs
  obtain ⟨x, hx⟩ : ∃ x, x = numI o qs := ⟨_, rfl⟩
  obtain ⟨κ, hκ⟩ : ∃ κ, κ = kindI o := ⟨_, rfl⟩
  obtain ⟨T, hT⟩ : ∃ T, T = runT o sent qs := ⟨_, rfl⟩
  have HKI := Lib.hid (fun W => kind_any o oA on oc W)
  rw [← hκ] at HKI
  have HOT := Lib.hid (fun he => oth_run (o := o) (s := sent) (ps := qs) he)
  rw [← hx, ← hT] at HOT
  have HZE := Lib.hid (fun he => run_zero (o := o) (s := sent) (ps := qs) he)
  rw [← hT] at HZE
  have HRU := Lib.hid (fun A2 m2 c2 W h1 h2 h3 => run_any o oA on oc sent A2 m2 c2 qs W h1 h2 hs0 h3 hc1 hc2)
  rw [← hT] at HRU
  have HNU := Lib.hid (fun A2 m2 c2 W h1 h2 => num_any o oA on oc sent A2 m2 c2 qs W h1 h2)
  rw [← hx] at HNU
  have HKAP := Lib.hid hκ
  have HXX := Lib.hid hx
  clear hx hκ hT
  have bb := Below.refl w.heap.size w
  have bN := Blk.new w 26 #[.int .u64 sent, .slice A m c]
  replace bb := bl_al bb (.cells #[.int .u64 sent, .slice A m c] 26)
  replace bN := bN.ca (bl_al (Below.refl _ _) (.cells #[.int .i64 o.kind, .int .i64 o.frm, .int .i64 o.to, .int .i64 o.at_, .int .i64 o.place, .bool o.oth, vb o.by_, .slice oA on oc] 49))
  have bO : Blk ((w.alloc (.cells #[.int .u64 sent, .slice A m c] 26)).alloc (.cells #[.int .i64 o.kind, .int .i64 o.frm, .int .i64 o.to, .int .i64 o.at_, .int .i64 o.place, .bool o.oth, vb o.by_, .slice oA on oc] 49)) (w.heap.size + 1) 49 #[.int .i64 o.kind, .int .i64 o.frm, .int .i64 o.to, .int .i64 o.at_, .int .i64 o.place, .bool o.oth, vb o.by_, .slice oA on oc] := Blk.mk' (by simp only [World.size_alloc])
  replace bb := bl_al bb (.cells #[.int .i64 o.kind, .int .i64 o.frm, .int .i64 o.to, .int .i64 o.at_, .int .i64 o.place, .bool o.oth, vb o.by_, .slice oA on oc] 49)
  have hsz : w.heap.size + 2 ≤ ((w.alloc (.cells #[.int .u64 sent, .slice A m c] 26)).alloc (.cells #[.int .i64 o.kind, .int .i64 o.frm, .int .i64 o.to, .int .i64 o.at_, .int .i64 o.place, .bool o.oth, vb o.by_, .slice oA on oc] 49)).heap.size := by simp only [World.size_alloc]; omega
  have HR := Lib.hid (Lay.rd_below h bb)
  have HB := Lib.hid (hb.below bb)
  clear h hb
  go_enter Try.func7, Try.ntmps7
  go_wp2_with fail
  generalize ((w.alloc (.cells #[.int .u64 sent, .slice A m c] 26)).alloc (.cells #[.int .i64 o.kind, .int .i64 o.frm, .int .i64 o.to, .int .i64 o.at_, .int .i64 o.place, .bool o.oth, vb o.by_, .slice oA on oc] 49)) = w1 at *
  refine (wakes_any _).mono ?_
  rintro e w2 ⟨rfl, q2⟩
  replace bN := bN.ca q2
  replace bO := bO.ca q2
  replace bb := bl_ca bb q2
  replace HR := Lib.hid (Lay.rd_below HR.out q2)
  replace HB := Lib.hid (HB.out.below q2)
  have hs2 := Nat.le_trans hsz q2.size
  clear hsz q2
  have n0 : w2.cell? ⟨w.heap.size, 0, none⟩ = some (.int .u64 sent) := bN.cell 0
  have n1 : w2.cell? ⟨w.heap.size, 1, none⟩ = some (.slice A m c) := bN.cell 1
  go_wp2_with fail
  refine (HSH.out _ HR.out).mono ?_
  rintro e w3 ⟨A2, m2, c2, rfl, ho, q3⟩
  have hm2 := ho.len'
  have hm3 : m2 ≤ 20001 := by omega
  have b4 := bl_al (Below.refl w3.heap.size w3) (.cells #[.int .u64 sent, .slice A2 m2 c2] 26)
  have bN2 := Blk.new w3 26 #[.int .u64 sent, .slice A2 m2 c2]
  have HO := Lib.hid ((bO.ca q3).ca b4)
  have HBB := Lib.hid (bl_ca (bl_ca bb q3) b4)
  have HB4 := Lib.hid ((HB.out.below q3).below b4)
  have HR4 := Lib.hid (Lay.rd_below (ho.rd (F := AllB) (fun _ _ => trivial)) b4)
  have hs3 := Nat.le_trans hs2 q3.size
  have hs4 : w3.heap.size + 1 ≤ (w3.alloc (.cells #[.int .u64 sent, .slice A2 m2 c2] 26)).heap.size := by simp only [World.size_alloc]; omega
  clear bN bO bb HR HB ho q3 b4 n0 n1 HSH
  have hlt3 : w3.heap.size < (w3.alloc (.cells #[.int .u64 sent, .slice A2 m2 c2] 26)).heap.size := by simp only [World.size_alloc]; omega
  clear hm2
  go_wp2_with fail
  generalize w3.alloc (.cells #[.int .u64 sent, .slice A2 m2 c2] 26) = w4 at *
  generalize w3.heap.size = g3 at *
  have HN2 := Lib.hid bN2
  clear bN2 hs2
  have HCH := Lib.hid (check_any AllB sent A2 m2 c2 qs w4 HR4.out (by omega))
  cases hc : chkB sent qs
  · rw [hc, show errN false = 340 from rfl] at HCH
    clear hc
    refine HCH.out.mono ?_
    rintro e w5 ⟨rfl, q5⟩
    have HB5 := Lib.hid (bl_ca HBB.out q5)
    clear q5
    go_wp2
    go_ret
    exact ⟨rfl, HB5.out⟩
  · rw [hc, show errN true = 0 from rfl] at HCH
    clear hc
    refine HCH.out.mono ?_
    clear HCH
    rintro e w5 ⟨rfl, q5⟩
    replace HO := Lib.hid (HO.out.ca q5)
    replace HN2 := Lib.hid (HN2.out.ca q5)
    replace HBB := Lib.hid (bl_ca HBB.out q5)
    replace HB4 := Lib.hid (HB4.out.below q5)
    replace HR4 := Lib.hid (Lay.rd_below HR4.out q5)
    replace hs4 := Nat.le_trans hs4 q5.size
    replace hlt3 := Nat.lt_of_lt_of_le hlt3 q5.size
    clear q5
    have o0 : w5.cell? ⟨w.heap.size + 1, 0, none⟩ = some (.int .i64 o.kind) := HO.out.cell 0
    have o1 : w5.cell? ⟨w.heap.size + 1, 1, none⟩ = some (.int .i64 o.frm) := HO.out.cell 1
    have o2 : w5.cell? ⟨w.heap.size + 1, 2, none⟩ = some (.int .i64 o.to) := HO.out.cell 2
    have o3 : w5.cell? ⟨w.heap.size + 1, 3, none⟩ = some (.int .i64 o.at_) := HO.out.cell 3
    have o4 : w5.cell? ⟨w.heap.size + 1, 4, none⟩ = some (.int .i64 o.place) := HO.out.cell 4
    have o5 : w5.cell? ⟨w.heap.size + 1, 5, none⟩ = some (.bool o.oth) := HO.out.cell 5
    have o6 : w5.cell? ⟨w.heap.size + 1, 6, none⟩ = some (vb o.by_) := HO.out.cell 6
    have o7 : w5.cell? ⟨w.heap.size + 1, 7, none⟩ = some (.slice oA on oc) := HO.out.cell 7
    have m0 : w5.cell? ⟨g3, 0, none⟩ = some (.int .u64 sent) := HN2.out.cell 0
    have m1 : w5.cell? ⟨g3, 1, none⟩ = some (.slice A2 m2 c2) := HN2.out.cell 1
    go_wp2_with fail
    refine (HNU.out A2 m2 c2 _ HR4.out (by omega)).mono ?_
    rintro e w6 ⟨rfl, q6⟩
    replace HO := Lib.hid (HO.out.ca q6)
    replace HN2 := Lib.hid (HN2.out.ca q6)
    replace HBB := Lib.hid (bl_ca HBB.out q6)
    replace HB4 := Lib.hid (HB4.out.below q6)
    replace HR4 := Lib.hid (Lay.rd_below HR4.out q6)
    replace hs4 := Nat.le_trans hs4 q6.size
    replace hlt3 := Nat.lt_of_lt_of_le hlt3 q6.size
    clear q6 o0 o1 o2 o3 o4 o5 o6 o7 m0 m1
    have o0 : w6.cell? ⟨w.heap.size + 1, 0, none⟩ = some (.int .i64 o.kind) := HO.out.cell 0
    have o1 : w6.cell? ⟨w.heap.size + 1, 1, none⟩ = some (.int .i64 o.frm) := HO.out.cell 1
    have o2 : w6.cell? ⟨w.heap.size + 1, 2, none⟩ = some (.int .i64 o.to) := HO.out.cell 2
    have o3 : w6.cell? ⟨w.heap.size + 1, 3, none⟩ = some (.int .i64 o.at_) := HO.out.cell 3
    have o4 : w6.cell? ⟨w.heap.size + 1, 4, none⟩ = some (.int .i64 o.place) := HO.out.cell 4
    have o5 : w6.cell? ⟨w.heap.size + 1, 5, none⟩ = some (.bool o.oth) := HO.out.cell 5
    have o6 : w6.cell? ⟨w.heap.size + 1, 6, none⟩ = some (vb o.by_) := HO.out.cell 6
    have o7 : w6.cell? ⟨w.heap.size + 1, 7, none⟩ = some (.slice oA on oc) := HO.out.cell 7
    have m0 : w6.cell? ⟨g3, 0, none⟩ = some (.int .u64 sent) := HN2.out.cell 0
    have m1 : w6.cell? ⟨g3, 1, none⟩ = some (.slice A2 m2 c2) := HN2.out.cell 1
    go_wp2_with fail
    refine (HRU.out A2 m2 c2 _ HR4.out (by omega) HB4.out).mono ?_
    rintro e w7 ⟨A3, m3, c3, D3, n3, d3, rfl, hsep, q7⟩
    obtain ⟨Ts, Tps, Tn, Tp, Tg, Te⟩ := T
    dsimp only at hsep HOT HZE ⊢
    have b8 := bl_al (Below.refl w7.heap.size w7) (.cells #[.int .u64 Ts, .slice A3 m3 c3, .int .u64 Tn, .int .u64 Tp.num, .int .i64 Tp.frm, .int .i64 Tp.to, .slice D3 n3 d3, .bool Tp.sp, .int .i64 Tg, .int .i64 Te] 51)
    have HT := Lib.hid (Blk.new w7 51 #[.int .u64 Ts, .slice A3 m3 c3, .int .u64 Tn, .int .u64 Tp.num, .int .i64 Tp.frm, .int .i64 Tp.to, .slice D3 n3 d3, .bool Tp.sp, .int .i64 Tg, .int .i64 Te])
    obtain ⟨es, hd, hes, hop, hdis⟩ := hsep
    have hon : OutN w7 w6.heap.size A3 m3 c3 Tps := ⟨es, hd, hes⟩
    have HM3 := Lib.hid hon.len'
    have HRT := Lib.hid (Lay.rd_below (hon.rd (F := AllB) (fun _ _ => trivial)) b8)
    replace HO := Lib.hid ((HO.out.ca q7).ca b8)
    replace HN2 := Lib.hid ((HN2.out.ca q7).ca b8)
    replace HBB := Lib.hid (bl_ca (bl_ca HBB.out q7) b8)
    replace HR4 := Lib.hid (Lay.rd_below (Lay.rd_below HR4.out q7) b8)
    replace hlt3 := Nat.lt_of_lt_of_le hlt3 q7.size
    have hs8 : w7.heap.size < (w7.alloc (.cells #[.int .u64 Ts, .slice A3 m3 c3, .int .u64 Tn, .int .u64 Tp.num, .int .i64 Tp.frm, .int .i64 Tp.to, .slice D3 n3 d3, .bool Tp.sp, .int .i64 Tg, .int .i64 Te] 51)).heap.size := by simp only [World.size_alloc]; omega
    have hs9 := Nat.le_trans hs4 q7.size
    clear q7 o0 o1 o2 o3 o4 o5 o6 o7 m0 m1 hd hes hop hdis hon b8 HB4 HRU HNU es hs4
    by_cases hte : Te = 0
    · subst hte
      have HOT2 := Lib.hid (HOT.out rfl)
      clear HZE HOT
      have o0 : (w7.alloc (.cells #[.int .u64 Ts, .slice A3 m3 c3, .int .u64 Tn, .int .u64 Tp.num, .int .i64 Tp.frm, .int .i64 Tp.to, .slice D3 n3 d3, .bool Tp.sp, .int .i64 Tg, .int .i64 0] 51)).cell? ⟨w.heap.size + 1, 0, none⟩ = some (.int .i64 o.kind) := HO.out.cell 0
      have o1 : (w7.alloc (.cells #[.int .u64 Ts, .slice A3 m3 c3, .int .u64 Tn, .int .u64 Tp.num, .int .i64 Tp.frm, .int .i64 Tp.to, .slice D3 n3 d3, .bool Tp.sp, .int .i64 Tg, .int .i64 0] 51)).cell? ⟨w.heap.size + 1, 1, none⟩ = some (.int .i64 o.frm) := HO.out.cell 1
      have o2 : (w7.alloc (.cells #[.int .u64 Ts, .slice A3 m3 c3, .int .u64 Tn, .int .u64 Tp.num, .int .i64 Tp.frm, .int .i64 Tp.to, .slice D3 n3 d3, .bool Tp.sp, .int .i64 Tg, .int .i64 0] 51)).cell? ⟨w.heap.size + 1, 2, none⟩ = some (.int .i64 o.to) := HO.out.cell 2
      have o3 : (w7.alloc (.cells #[.int .u64 Ts, .slice A3 m3 c3, .int .u64 Tn, .int .u64 Tp.num, .int .i64 Tp.frm, .int .i64 Tp.to, .slice D3 n3 d3, .bool Tp.sp, .int .i64 Tg, .int .i64 0] 51)).cell? ⟨w.heap.size + 1, 3, none⟩ = some (.int .i64 o.at_) := HO.out.cell 3
      have o4 : (w7.alloc (.cells #[.int .u64 Ts, .slice A3 m3 c3, .int .u64 Tn, .int .u64 Tp.num, .int .i64 Tp.frm, .int .i64 Tp.to, .slice D3 n3 d3, .bool Tp.sp, .int .i64 Tg, .int .i64 0] 51)).cell? ⟨w.heap.size + 1, 4, none⟩ = some (.int .i64 o.place) := HO.out.cell 4
      have o5 : (w7.alloc (.cells #[.int .u64 Ts, .slice A3 m3 c3, .int .u64 Tn, .int .u64 Tp.num, .int .i64 Tp.frm, .int .i64 Tp.to, .slice D3 n3 d3, .bool Tp.sp, .int .i64 Tg, .int .i64 0] 51)).cell? ⟨w.heap.size + 1, 5, none⟩ = some (.bool o.oth) := HO.out.cell 5
      have o6 : (w7.alloc (.cells #[.int .u64 Ts, .slice A3 m3 c3, .int .u64 Tn, .int .u64 Tp.num, .int .i64 Tp.frm, .int .i64 Tp.to, .slice D3 n3 d3, .bool Tp.sp, .int .i64 Tg, .int .i64 0] 51)).cell? ⟨w.heap.size + 1, 6, none⟩ = some (vb o.by_) := HO.out.cell 6
      have o7 : (w7.alloc (.cells #[.int .u64 Ts, .slice A3 m3 c3, .int .u64 Tn, .int .u64 Tp.num, .int .i64 Tp.frm, .int .i64 Tp.to, .slice D3 n3 d3, .bool Tp.sp, .int .i64 Tg, .int .i64 0] 51)).cell? ⟨w.heap.size + 1, 7, none⟩ = some (.slice oA on oc) := HO.out.cell 7
      go_wp2_with fail
      generalize w7.alloc (.cells #[.int .u64 Ts, .slice A3 m3 c3, .int .u64 Tn, .int .u64 Tp.num, .int .i64 Tp.frm, .int .i64 Tp.to, .slice D3 n3 d3, .bool Tp.sp, .int .i64 Tg, .int .i64 0] 51) = w8 at *
      generalize w7.heap.size = g7 at *
      refine (HKI.out _).mono ?_
      rintro e w9 ⟨rfl, q9⟩
      clear o0 o1 o2 o3 o4 o5 o6 o7
      replace HO := Lib.hid (HO.out.ca q9)
      replace HN2 := Lib.hid (HN2.out.ca q9)
      replace HT := Lib.hid (HT.out.ca q9)
      replace HRT := Lib.hid (Lay.rd_below HRT.out q9)
      replace HR4 := Lib.hid (Lay.rd_below HR4.out q9)
      replace HBB := Lib.hid (bl_ca HBB.out q9)
      replace hs8 := Nat.lt_of_lt_of_le hs8 q9.size
      clear q9
      have m1 : w9.cell? ⟨g3, 1, none⟩ = some (.slice A2 m2 c2) := HN2.out.cell 1
      go_wp2_with fail
      clear m1
      have hm3b : m3 ≤ 20002 := by have := HOT2.out.2; have := HM3.out; omega
      go_loopg [47] m2 (fun gz b wr => ∃ i : Nat, i + gz = m2 ∧ b = .int .i64 i ∧ Below w9.heap.size w9 wr)
      case atStart => exact ⟨0, by omega, rfl, Below.refl _ _⟩
      case round =>
        obtain ⟨i, hig, rfl, hbw⟩ := hrel
        have HT9 := Lib.hid (HT.out.ca hbw)
        have HRT9 := Lib.hid (Lay.rd_below HRT.out hbw)
        have HO9 := Lib.hid (HO.out.ca hbw)
        have HN9 := Lib.hid (HN2.out.ca hbw)
        have HBW := Lib.hid hbw
        have HBB9 := Lib.hid (bl_ca HBB.out hbw)
        have hs10 := Nat.lt_of_lt_of_le hs8 hbw.size
        by_cases hlt : i < m2
        · have hi1 : (i : Int) < (m2 : Int) := by omega
          obtain ⟨ad, p, B, n', c', rfl, hp, s1⟩ := LP_at (Lay.rd_below HR4.out hbw) hlt
          have e0 := s1.c0
          have e1 := s1.c1
          have e2 := s1.c2
          have e3 := s1.c3
          have e4 := s1.c4
          have HRB := Lib.hid s1.rb
          have HOTH := Lib.hid (HOT2.out.1 p (List.mem_of_getElem? hp))
          have HKC : κ = 0 ∨ κ = 1 ∨ κ = 2 ∨ κ = 3 ∨ κ = 4 ∨ κ = 5 ∨ κ = 6 ∨ κ = 7 := by rw [HKAP.out]; exact kind_cases o
          obtain ⟨pn, pf, pt, pb, psp⟩ := p
          dsimp only at e0 e1 e2 e4 HRB
          clear hp s1 hbw HR4 HT HRT HO HN2 HBB HM3 HOT2 hs8
          rcases HKC with rfl | rfl | rfl | rfl | rfl | rfl | rfl | rfl
          · have hg : goneO o x ⟨pn, pf, pt, pb, psp⟩ = false := by simp [goneO, ← HKAP.out]
            have ho : ownO o x ⟨pn, pf, pt, pb, psp⟩ = false := by simp [ownO, ← HKAP.out]
            obtain ⟨j, q, hj, hq, has⟩ := oth_yes HOTH.out hg false ho
            have HI := Lib.hid hj
            have HQ := Lib.hid hq
            have HAS := Lib.hid has
            clear ho hj hq has
            clear hg
            go_wp2_with (refine wpList_store_blk rfl 29 (.tmp 10) (.tmp 50) rfl wr.heap.size 29 _ _ rfl rfl (Blk.new _ _ _) rfl parcelI (by simp [Value.oneCell']) ?_; intro wz hZ gz; have T1 := bl_gr (bl_al (Below.refl wr.heap.size wr) _) gz (Nat.le_refl _); have t1 : wz.cell? ⟨g7, 1, none⟩ = some (.slice A3 m3 c3) := (HT9.out.ca T1).cell 1)
            have HIX := Lib.hid (indexf_any AllB A3 m3 c3 Tps 31 #[.pointer (some ⟨wr.heap.size, 0, none⟩)] _ wz (Lay.rd_below HRT9.out T1) (by omega) (Go.Proofs.enters_of Try.func31 (by kernel_rfl) rfl) (tst_c ⟨pn, pf, pt, pb, psp⟩ B n' c' wr.heap.size wz hZ))
            rw [HI.out] at HIX
            refine HIX.out.mono ?_
            rintro e w11 ⟨rfl, q11⟩
            have T2 := bl_ca T1 q11
            have hZ2 := hZ.ca q11
            have y0 : w11.cell? ⟨wr.heap.size, 0, none⟩ = some (.int .u64 pn) := hZ2.cell 0
            have y1 : w11.cell? ⟨wr.heap.size, 1, none⟩ = some (.int .i64 pf) := hZ2.cell 1
            have y2 : w11.cell? ⟨wr.heap.size, 2, none⟩ = some (.int .i64 pt) := hZ2.cell 2
            have y3 : w11.cell? ⟨wr.heap.size, 3, none⟩ = some (.slice B n' c') := hZ2.cell 3
            have y4 : w11.cell? ⟨wr.heap.size, 4, none⟩ = some (.bool psp) := hZ2.cell 4
            have z1 : w11.cell? ⟨w.heap.size + 1, 1, none⟩ = some (.int .i64 o.frm) := (HO9.out.ca T2).cell 1
            have z2 : w11.cell? ⟨w.heap.size + 1, 2, none⟩ = some (.int .i64 o.to) := (HO9.out.ca T2).cell 2
            have t2 : w11.cell? ⟨g7, 1, none⟩ = some (.slice A3 m3 c3) := (HT9.out.ca T2).cell 1
            have HZ2 := Lib.hid hZ2
            have HT2 := Lib.hid T2
            have HSZ := Lib.hid hZ2.lt
            clear HIX T1 q11 hZ gz t1 HI hZ2 e0 e1 e2 e3 e4
            have hj1 : j < m3 := by have := (List.getElem?_eq_some_iff.1 HQ.out).1; have := Lay.rd_len HRT9.out; omega
            have hj2 : (j : Int) < (m3 : Int) := by omega
            have hj3 : (0 : Int) ≤ (j : Int) := by omega
            obtain ⟨ad2, q2, B2, n2, c5, rfl, hq2, s2⟩ := LP_at (Lay.rd_below HRT9.out T2) hj1
            obtain rfl : q2 = q := by have h1 := HQ.out; rw [hq2] at h1; injection h1
            have f0 := s2.c0
            have f1 := s2.c1
            have f2 := s2.c2
            have f3 := s2.c3
            have f4 := s2.c4
            rw [HAS.out.frm] at f1
            rw [HAS.out.to] at f2
            rw [HAS.out.sp] at f4
            have HRB2 := Lib.hid s2.rb
            clear hq2 s2 T2
            cases psp
            · replace f4 : w11.cell? ⟨(ad2.add (j * 5)).block, (ad2.add (j * 5)).off + 4, none⟩ = some (.bool false) := f4
              go_wp2_with (refine wpList_store_blk rfl 29 (.tmp 13) (.tmp 97) rfl w11.heap.size 29 _ _ rfl rfl (Blk.new _ _ _) rfl parcelI (by simp [Value.oneCell']) ?_; intro wy hY gy; have T3 := bl_gr (bl_al (Below.refl w11.heap.size w11) _) gy (Nat.le_refl _); have v0 : wy.cell? ⟨w11.heap.size, 0, none⟩ = some (.int .u64 q2.num) := hY.cell 0; have v1 : wy.cell? ⟨w11.heap.size, 1, none⟩ = some (.int .i64 pf) := hY.cell 1; have v2 : wy.cell? ⟨w11.heap.size, 2, none⟩ = some (.int .i64 pt) := hY.cell 2; have v3 : wy.cell? ⟨w11.heap.size, 3, none⟩ = some (.slice B2 n2 c5) := hY.cell 3; have v4 : wy.cell? ⟨w11.heap.size, 4, none⟩ = some (.bool false) := hY.cell 4; have u0 : wy.cell? ⟨wr.heap.size, 0, none⟩ = some (.int .u64 pn) := (HZ2.out.ca T3).cell 0; have u1 : wy.cell? ⟨wr.heap.size, 1, none⟩ = some (.int .i64 pf) := (HZ2.out.ca T3).cell 1; have u2 : wy.cell? ⟨wr.heap.size, 2, none⟩ = some (.int .i64 pt) := (HZ2.out.ca T3).cell 2; have u3 : wy.cell? ⟨wr.heap.size, 3, none⟩ = some (.slice B n' c') := (HZ2.out.ca T3).cell 3; have u4 : wy.cell? ⟨wr.heap.size, 4, none⟩ = some (.bool false) := (HZ2.out.ca T3).cell 4; have HT3 := Lib.hid T3; clear T3 hY gy)
              refine (equal_any B2 B n2 c5 n' c' q2.bs pb _ (HRB2.out.below HT3.out) ((HRB.out.below HT2.out).below HT3.out)).mono ?_
              rintro e wx ⟨rfl, rfl⟩
              rw [HAS.out.bs]
              go_wp2
              go_roundg (gk - 1)
              · exact ⟨i + 1, by omega, by go_num, bl_ca HBW.out (bl_ca HT2.out HT3.out)⟩
              · omega
            · replace f4 : w11.cell? ⟨(ad2.add (j * 5)).block, (ad2.add (j * 5)).off + 4, none⟩ = some (.bool true) := f4
              go_wp2_with (refine wpList_store_blk rfl 29 (.tmp 13) (.tmp 97) rfl w11.heap.size 29 _ _ rfl rfl (Blk.new _ _ _) rfl parcelI (by simp [Value.oneCell']) ?_; intro wy hY gy; have T3 := bl_gr (bl_al (Below.refl w11.heap.size w11) _) gy (Nat.le_refl _); have v0 : wy.cell? ⟨w11.heap.size, 0, none⟩ = some (.int .u64 q2.num) := hY.cell 0; have v1 : wy.cell? ⟨w11.heap.size, 1, none⟩ = some (.int .i64 pf) := hY.cell 1; have v2 : wy.cell? ⟨w11.heap.size, 2, none⟩ = some (.int .i64 pt) := hY.cell 2; have v3 : wy.cell? ⟨w11.heap.size, 3, none⟩ = some (.slice B2 n2 c5) := hY.cell 3; have v4 : wy.cell? ⟨w11.heap.size, 4, none⟩ = some (.bool true) := hY.cell 4; have u0 : wy.cell? ⟨wr.heap.size, 0, none⟩ = some (.int .u64 pn) := (HZ2.out.ca T3).cell 0; have u1 : wy.cell? ⟨wr.heap.size, 1, none⟩ = some (.int .i64 pf) := (HZ2.out.ca T3).cell 1; have u2 : wy.cell? ⟨wr.heap.size, 2, none⟩ = some (.int .i64 pt) := (HZ2.out.ca T3).cell 2; have u3 : wy.cell? ⟨wr.heap.size, 3, none⟩ = some (.slice B n' c') := (HZ2.out.ca T3).cell 3; have u4 : wy.cell? ⟨wr.heap.size, 4, none⟩ = some (.bool true) := (HZ2.out.ca T3).cell 4; have HT3 := Lib.hid T3; clear T3 hY gy)
              refine (equal_any B2 B n2 c5 n' c' q2.bs pb _ (HRB2.out.below HT3.out) ((HRB.out.below HT2.out).below HT3.out)).mono ?_
              rintro e wx ⟨rfl, rfl⟩
              rw [HAS.out.bs]
              go_wp2
              go_roundg (gk - 1)
              · exact ⟨i + 1, by omega, by go_num, bl_ca HBW.out (bl_ca HT2.out HT3.out)⟩
              · omega
          · have hg : goneO o x ⟨pn, pf, pt, pb, psp⟩ = false := by simp [goneO, ← HKAP.out]
            have ho : ownO o x ⟨pn, pf, pt, pb, psp⟩ = false := by simp [ownO, ← HKAP.out]
            obtain ⟨j, q, hj, hq, has⟩ := oth_yes HOTH.out hg false ho
            have HI := Lib.hid hj
            have HQ := Lib.hid hq
            have HAS := Lib.hid has
            clear ho hj hq has
            clear hg
            go_wp2_with (refine wpList_store_blk rfl 29 (.tmp 10) (.tmp 50) rfl wr.heap.size 29 _ _ rfl rfl (Blk.new _ _ _) rfl parcelI (by simp [Value.oneCell']) ?_; intro wz hZ gz; have T1 := bl_gr (bl_al (Below.refl wr.heap.size wr) _) gz (Nat.le_refl _); have t1 : wz.cell? ⟨g7, 1, none⟩ = some (.slice A3 m3 c3) := (HT9.out.ca T1).cell 1)
            have HIX := Lib.hid (indexf_any AllB A3 m3 c3 Tps 31 #[.pointer (some ⟨wr.heap.size, 0, none⟩)] _ wz (Lay.rd_below HRT9.out T1) (by omega) (Go.Proofs.enters_of Try.func31 (by kernel_rfl) rfl) (tst_c ⟨pn, pf, pt, pb, psp⟩ B n' c' wr.heap.size wz hZ))
            rw [HI.out] at HIX
            refine HIX.out.mono ?_
            rintro e w11 ⟨rfl, q11⟩
            have T2 := bl_ca T1 q11
            have hZ2 := hZ.ca q11
            have y0 : w11.cell? ⟨wr.heap.size, 0, none⟩ = some (.int .u64 pn) := hZ2.cell 0
            have y1 : w11.cell? ⟨wr.heap.size, 1, none⟩ = some (.int .i64 pf) := hZ2.cell 1
            have y2 : w11.cell? ⟨wr.heap.size, 2, none⟩ = some (.int .i64 pt) := hZ2.cell 2
            have y3 : w11.cell? ⟨wr.heap.size, 3, none⟩ = some (.slice B n' c') := hZ2.cell 3
            have y4 : w11.cell? ⟨wr.heap.size, 4, none⟩ = some (.bool psp) := hZ2.cell 4
            have z1 : w11.cell? ⟨w.heap.size + 1, 1, none⟩ = some (.int .i64 o.frm) := (HO9.out.ca T2).cell 1
            have z2 : w11.cell? ⟨w.heap.size + 1, 2, none⟩ = some (.int .i64 o.to) := (HO9.out.ca T2).cell 2
            have t2 : w11.cell? ⟨g7, 1, none⟩ = some (.slice A3 m3 c3) := (HT9.out.ca T2).cell 1
            have HZ2 := Lib.hid hZ2
            have HT2 := Lib.hid T2
            have HSZ := Lib.hid hZ2.lt
            clear HIX T1 q11 hZ gz t1 HI hZ2 e0 e1 e2 e3 e4
            have hj1 : j < m3 := by have := (List.getElem?_eq_some_iff.1 HQ.out).1; have := Lay.rd_len HRT9.out; omega
            have hj2 : (j : Int) < (m3 : Int) := by omega
            have hj3 : (0 : Int) ≤ (j : Int) := by omega
            obtain ⟨ad2, q2, B2, n2, c5, rfl, hq2, s2⟩ := LP_at (Lay.rd_below HRT9.out T2) hj1
            obtain rfl : q2 = q := by have h1 := HQ.out; rw [hq2] at h1; injection h1
            have f0 := s2.c0
            have f1 := s2.c1
            have f2 := s2.c2
            have f3 := s2.c3
            have f4 := s2.c4
            rw [HAS.out.frm] at f1
            rw [HAS.out.to] at f2
            rw [HAS.out.sp] at f4
            have HRB2 := Lib.hid s2.rb
            clear hq2 s2 T2
            cases psp
            · replace f4 : w11.cell? ⟨(ad2.add (j * 5)).block, (ad2.add (j * 5)).off + 4, none⟩ = some (.bool false) := f4
              go_wp2_with (refine wpList_store_blk rfl 29 (.tmp 13) (.tmp 97) rfl w11.heap.size 29 _ _ rfl rfl (Blk.new _ _ _) rfl parcelI (by simp [Value.oneCell']) ?_; intro wy hY gy; have T3 := bl_gr (bl_al (Below.refl w11.heap.size w11) _) gy (Nat.le_refl _); have v0 : wy.cell? ⟨w11.heap.size, 0, none⟩ = some (.int .u64 q2.num) := hY.cell 0; have v1 : wy.cell? ⟨w11.heap.size, 1, none⟩ = some (.int .i64 pf) := hY.cell 1; have v2 : wy.cell? ⟨w11.heap.size, 2, none⟩ = some (.int .i64 pt) := hY.cell 2; have v3 : wy.cell? ⟨w11.heap.size, 3, none⟩ = some (.slice B2 n2 c5) := hY.cell 3; have v4 : wy.cell? ⟨w11.heap.size, 4, none⟩ = some (.bool false) := hY.cell 4; have u0 : wy.cell? ⟨wr.heap.size, 0, none⟩ = some (.int .u64 pn) := (HZ2.out.ca T3).cell 0; have u1 : wy.cell? ⟨wr.heap.size, 1, none⟩ = some (.int .i64 pf) := (HZ2.out.ca T3).cell 1; have u2 : wy.cell? ⟨wr.heap.size, 2, none⟩ = some (.int .i64 pt) := (HZ2.out.ca T3).cell 2; have u3 : wy.cell? ⟨wr.heap.size, 3, none⟩ = some (.slice B n' c') := (HZ2.out.ca T3).cell 3; have u4 : wy.cell? ⟨wr.heap.size, 4, none⟩ = some (.bool false) := (HZ2.out.ca T3).cell 4; have HT3 := Lib.hid T3; clear T3 hY gy)
              refine (equal_any B2 B n2 c5 n' c' q2.bs pb _ (HRB2.out.below HT3.out) ((HRB.out.below HT2.out).below HT3.out)).mono ?_
              rintro e wx ⟨rfl, rfl⟩
              rw [HAS.out.bs]
              go_wp2
              go_roundg (gk - 1)
              · exact ⟨i + 1, by omega, by go_num, bl_ca HBW.out (bl_ca HT2.out HT3.out)⟩
              · omega
            · replace f4 : w11.cell? ⟨(ad2.add (j * 5)).block, (ad2.add (j * 5)).off + 4, none⟩ = some (.bool true) := f4
              go_wp2_with (refine wpList_store_blk rfl 29 (.tmp 13) (.tmp 97) rfl w11.heap.size 29 _ _ rfl rfl (Blk.new _ _ _) rfl parcelI (by simp [Value.oneCell']) ?_; intro wy hY gy; have T3 := bl_gr (bl_al (Below.refl w11.heap.size w11) _) gy (Nat.le_refl _); have v0 : wy.cell? ⟨w11.heap.size, 0, none⟩ = some (.int .u64 q2.num) := hY.cell 0; have v1 : wy.cell? ⟨w11.heap.size, 1, none⟩ = some (.int .i64 pf) := hY.cell 1; have v2 : wy.cell? ⟨w11.heap.size, 2, none⟩ = some (.int .i64 pt) := hY.cell 2; have v3 : wy.cell? ⟨w11.heap.size, 3, none⟩ = some (.slice B2 n2 c5) := hY.cell 3; have v4 : wy.cell? ⟨w11.heap.size, 4, none⟩ = some (.bool true) := hY.cell 4; have u0 : wy.cell? ⟨wr.heap.size, 0, none⟩ = some (.int .u64 pn) := (HZ2.out.ca T3).cell 0; have u1 : wy.cell? ⟨wr.heap.size, 1, none⟩ = some (.int .i64 pf) := (HZ2.out.ca T3).cell 1; have u2 : wy.cell? ⟨wr.heap.size, 2, none⟩ = some (.int .i64 pt) := (HZ2.out.ca T3).cell 2; have u3 : wy.cell? ⟨wr.heap.size, 3, none⟩ = some (.slice B n' c') := (HZ2.out.ca T3).cell 3; have u4 : wy.cell? ⟨wr.heap.size, 4, none⟩ = some (.bool true) := (HZ2.out.ca T3).cell 4; have HT3 := Lib.hid T3; clear T3 hY gy)
              refine (equal_any B2 B n2 c5 n' c' q2.bs pb _ (HRB2.out.below HT3.out) ((HRB.out.below HT2.out).below HT3.out)).mono ?_
              rintro e wx ⟨rfl, rfl⟩
              rw [HAS.out.bs]
              go_wp2
              go_roundg (gk - 1)
              · exact ⟨i + 1, by omega, by go_num, bl_ca HBW.out (bl_ca HT2.out HT3.out)⟩
              · omega
          · have hg : goneO o x ⟨pn, pf, pt, pb, psp⟩ = false := by simp [goneO, ← HKAP.out]
            have ho : ownO o x ⟨pn, pf, pt, pb, psp⟩ = false := by simp [ownO, ← HKAP.out]
            obtain ⟨j, q, hj, hq, has⟩ := oth_yes HOTH.out hg false ho
            have HI := Lib.hid hj
            have HQ := Lib.hid hq
            have HAS := Lib.hid has
            clear ho hj hq has
            clear hg
            go_wp2_with (refine wpList_store_blk rfl 29 (.tmp 10) (.tmp 50) rfl wr.heap.size 29 _ _ rfl rfl (Blk.new _ _ _) rfl parcelI (by simp [Value.oneCell']) ?_; intro wz hZ gz; have T1 := bl_gr (bl_al (Below.refl wr.heap.size wr) _) gz (Nat.le_refl _); have t1 : wz.cell? ⟨g7, 1, none⟩ = some (.slice A3 m3 c3) := (HT9.out.ca T1).cell 1)
            have HIX := Lib.hid (indexf_any AllB A3 m3 c3 Tps 31 #[.pointer (some ⟨wr.heap.size, 0, none⟩)] _ wz (Lay.rd_below HRT9.out T1) (by omega) (Go.Proofs.enters_of Try.func31 (by kernel_rfl) rfl) (tst_c ⟨pn, pf, pt, pb, psp⟩ B n' c' wr.heap.size wz hZ))
            rw [HI.out] at HIX
            refine HIX.out.mono ?_
            rintro e w11 ⟨rfl, q11⟩
            have T2 := bl_ca T1 q11
            have hZ2 := hZ.ca q11
            have y0 : w11.cell? ⟨wr.heap.size, 0, none⟩ = some (.int .u64 pn) := hZ2.cell 0
            have y1 : w11.cell? ⟨wr.heap.size, 1, none⟩ = some (.int .i64 pf) := hZ2.cell 1
            have y2 : w11.cell? ⟨wr.heap.size, 2, none⟩ = some (.int .i64 pt) := hZ2.cell 2
            have y3 : w11.cell? ⟨wr.heap.size, 3, none⟩ = some (.slice B n' c') := hZ2.cell 3
            have y4 : w11.cell? ⟨wr.heap.size, 4, none⟩ = some (.bool psp) := hZ2.cell 4
            have z1 : w11.cell? ⟨w.heap.size + 1, 1, none⟩ = some (.int .i64 o.frm) := (HO9.out.ca T2).cell 1
            have z2 : w11.cell? ⟨w.heap.size + 1, 2, none⟩ = some (.int .i64 o.to) := (HO9.out.ca T2).cell 2
            have t2 : w11.cell? ⟨g7, 1, none⟩ = some (.slice A3 m3 c3) := (HT9.out.ca T2).cell 1
            have HZ2 := Lib.hid hZ2
            have HT2 := Lib.hid T2
            have HSZ := Lib.hid hZ2.lt
            clear HIX T1 q11 hZ gz t1 HI hZ2 e0 e1 e2 e3 e4
            have hj1 : j < m3 := by have := (List.getElem?_eq_some_iff.1 HQ.out).1; have := Lay.rd_len HRT9.out; omega
            have hj2 : (j : Int) < (m3 : Int) := by omega
            have hj3 : (0 : Int) ≤ (j : Int) := by omega
            obtain ⟨ad2, q2, B2, n2, c5, rfl, hq2, s2⟩ := LP_at (Lay.rd_below HRT9.out T2) hj1
            obtain rfl : q2 = q := by have h1 := HQ.out; rw [hq2] at h1; injection h1
            have f0 := s2.c0
            have f1 := s2.c1
            have f2 := s2.c2
            have f3 := s2.c3
            have f4 := s2.c4
            rw [HAS.out.frm] at f1
            rw [HAS.out.to] at f2
            rw [HAS.out.sp] at f4
            have HRB2 := Lib.hid s2.rb
            clear hq2 s2 T2
            cases psp
            · replace f4 : w11.cell? ⟨(ad2.add (j * 5)).block, (ad2.add (j * 5)).off + 4, none⟩ = some (.bool false) := f4
              go_wp2_with (refine wpList_store_blk rfl 29 (.tmp 13) (.tmp 97) rfl w11.heap.size 29 _ _ rfl rfl (Blk.new _ _ _) rfl parcelI (by simp [Value.oneCell']) ?_; intro wy hY gy; have T3 := bl_gr (bl_al (Below.refl w11.heap.size w11) _) gy (Nat.le_refl _); have v0 : wy.cell? ⟨w11.heap.size, 0, none⟩ = some (.int .u64 q2.num) := hY.cell 0; have v1 : wy.cell? ⟨w11.heap.size, 1, none⟩ = some (.int .i64 pf) := hY.cell 1; have v2 : wy.cell? ⟨w11.heap.size, 2, none⟩ = some (.int .i64 pt) := hY.cell 2; have v3 : wy.cell? ⟨w11.heap.size, 3, none⟩ = some (.slice B2 n2 c5) := hY.cell 3; have v4 : wy.cell? ⟨w11.heap.size, 4, none⟩ = some (.bool false) := hY.cell 4; have u0 : wy.cell? ⟨wr.heap.size, 0, none⟩ = some (.int .u64 pn) := (HZ2.out.ca T3).cell 0; have u1 : wy.cell? ⟨wr.heap.size, 1, none⟩ = some (.int .i64 pf) := (HZ2.out.ca T3).cell 1; have u2 : wy.cell? ⟨wr.heap.size, 2, none⟩ = some (.int .i64 pt) := (HZ2.out.ca T3).cell 2; have u3 : wy.cell? ⟨wr.heap.size, 3, none⟩ = some (.slice B n' c') := (HZ2.out.ca T3).cell 3; have u4 : wy.cell? ⟨wr.heap.size, 4, none⟩ = some (.bool false) := (HZ2.out.ca T3).cell 4; have HT3 := Lib.hid T3; clear T3 hY gy)
              refine (equal_any B2 B n2 c5 n' c' q2.bs pb _ (HRB2.out.below HT3.out) ((HRB.out.below HT2.out).below HT3.out)).mono ?_
              rintro e wx ⟨rfl, rfl⟩
              rw [HAS.out.bs]
              go_wp2
              go_roundg (gk - 1)
              · exact ⟨i + 1, by omega, by go_num, bl_ca HBW.out (bl_ca HT2.out HT3.out)⟩
              · omega
            · replace f4 : w11.cell? ⟨(ad2.add (j * 5)).block, (ad2.add (j * 5)).off + 4, none⟩ = some (.bool true) := f4
              go_wp2_with (refine wpList_store_blk rfl 29 (.tmp 13) (.tmp 97) rfl w11.heap.size 29 _ _ rfl rfl (Blk.new _ _ _) rfl parcelI (by simp [Value.oneCell']) ?_; intro wy hY gy; have T3 := bl_gr (bl_al (Below.refl w11.heap.size w11) _) gy (Nat.le_refl _); have v0 : wy.cell? ⟨w11.heap.size, 0, none⟩ = some (.int .u64 q2.num) := hY.cell 0; have v1 : wy.cell? ⟨w11.heap.size, 1, none⟩ = some (.int .i64 pf) := hY.cell 1; have v2 : wy.cell? ⟨w11.heap.size, 2, none⟩ = some (.int .i64 pt) := hY.cell 2; have v3 : wy.cell? ⟨w11.heap.size, 3, none⟩ = some (.slice B2 n2 c5) := hY.cell 3; have v4 : wy.cell? ⟨w11.heap.size, 4, none⟩ = some (.bool true) := hY.cell 4; have u0 : wy.cell? ⟨wr.heap.size, 0, none⟩ = some (.int .u64 pn) := (HZ2.out.ca T3).cell 0; have u1 : wy.cell? ⟨wr.heap.size, 1, none⟩ = some (.int .i64 pf) := (HZ2.out.ca T3).cell 1; have u2 : wy.cell? ⟨wr.heap.size, 2, none⟩ = some (.int .i64 pt) := (HZ2.out.ca T3).cell 2; have u3 : wy.cell? ⟨wr.heap.size, 3, none⟩ = some (.slice B n' c') := (HZ2.out.ca T3).cell 3; have u4 : wy.cell? ⟨wr.heap.size, 4, none⟩ = some (.bool true) := (HZ2.out.ca T3).cell 4; have HT3 := Lib.hid T3; clear T3 hY gy)
              refine (equal_any B2 B n2 c5 n' c' q2.bs pb _ (HRB2.out.below HT3.out) ((HRB.out.below HT2.out).below HT3.out)).mono ?_
              rintro e wx ⟨rfl, rfl⟩
              rw [HAS.out.bs]
              go_wp2
              go_roundg (gk - 1)
              · exact ⟨i + 1, by omega, by go_num, bl_ca HBW.out (bl_ca HT2.out HT3.out)⟩
              · omega
          · cases hx : (pn == x)
            · have hg : goneO o x ⟨pn, pf, pt, pb, psp⟩ = false := by simp [goneO, ← HKAP.out, hx]
              have ho : ownO o x ⟨pn, pf, pt, pb, psp⟩ = false := by simp [ownO, ← HKAP.out]
              obtain ⟨j, q, hj, hq, has⟩ := oth_yes HOTH.out hg false ho
              have HI := Lib.hid hj
              have HQ := Lib.hid hq
              have HAS := Lib.hid has
              clear ho hj hq has
              clear hg
              go_wp2_with (refine wpList_store_blk rfl 29 (.tmp 10) (.tmp 50) rfl wr.heap.size 29 _ _ rfl rfl (Blk.new _ _ _) rfl parcelI (by simp [Value.oneCell']) ?_; intro wz hZ gz; have T1 := bl_gr (bl_al (Below.refl wr.heap.size wr) _) gz (Nat.le_refl _); have t1 : wz.cell? ⟨g7, 1, none⟩ = some (.slice A3 m3 c3) := (HT9.out.ca T1).cell 1)
              have HIX := Lib.hid (indexf_any AllB A3 m3 c3 Tps 31 #[.pointer (some ⟨wr.heap.size, 0, none⟩)] _ wz (Lay.rd_below HRT9.out T1) (by omega) (Go.Proofs.enters_of Try.func31 (by kernel_rfl) rfl) (tst_c ⟨pn, pf, pt, pb, psp⟩ B n' c' wr.heap.size wz hZ))
              rw [HI.out] at HIX
              refine HIX.out.mono ?_
              rintro e w11 ⟨rfl, q11⟩
              have T2 := bl_ca T1 q11
              have hZ2 := hZ.ca q11
              have y0 : w11.cell? ⟨wr.heap.size, 0, none⟩ = some (.int .u64 pn) := hZ2.cell 0
              have y1 : w11.cell? ⟨wr.heap.size, 1, none⟩ = some (.int .i64 pf) := hZ2.cell 1
              have y2 : w11.cell? ⟨wr.heap.size, 2, none⟩ = some (.int .i64 pt) := hZ2.cell 2
              have y3 : w11.cell? ⟨wr.heap.size, 3, none⟩ = some (.slice B n' c') := hZ2.cell 3
              have y4 : w11.cell? ⟨wr.heap.size, 4, none⟩ = some (.bool psp) := hZ2.cell 4
              have z1 : w11.cell? ⟨w.heap.size + 1, 1, none⟩ = some (.int .i64 o.frm) := (HO9.out.ca T2).cell 1
              have z2 : w11.cell? ⟨w.heap.size + 1, 2, none⟩ = some (.int .i64 o.to) := (HO9.out.ca T2).cell 2
              have t2 : w11.cell? ⟨g7, 1, none⟩ = some (.slice A3 m3 c3) := (HT9.out.ca T2).cell 1
              have HZ2 := Lib.hid hZ2
              have HT2 := Lib.hid T2
              have HSZ := Lib.hid hZ2.lt
              clear HIX T1 q11 hZ gz t1 HI hZ2 e0 e1 e2 e3 e4
              have hj1 : j < m3 := by have := (List.getElem?_eq_some_iff.1 HQ.out).1; have := Lay.rd_len HRT9.out; omega
              have hj2 : (j : Int) < (m3 : Int) := by omega
              have hj3 : (0 : Int) ≤ (j : Int) := by omega
              obtain ⟨ad2, q2, B2, n2, c5, rfl, hq2, s2⟩ := LP_at (Lay.rd_below HRT9.out T2) hj1
              obtain rfl : q2 = q := by have h1 := HQ.out; rw [hq2] at h1; injection h1
              have f0 := s2.c0
              have f1 := s2.c1
              have f2 := s2.c2
              have f3 := s2.c3
              have f4 := s2.c4
              rw [HAS.out.frm] at f1
              rw [HAS.out.to] at f2
              rw [HAS.out.sp] at f4
              have HRB2 := Lib.hid s2.rb
              clear hq2 s2 T2
              cases psp
              · replace f4 : w11.cell? ⟨(ad2.add (j * 5)).block, (ad2.add (j * 5)).off + 4, none⟩ = some (.bool false) := f4
                go_wp2_with (refine wpList_store_blk rfl 29 (.tmp 13) (.tmp 97) rfl w11.heap.size 29 _ _ rfl rfl (Blk.new _ _ _) rfl parcelI (by simp [Value.oneCell']) ?_; intro wy hY gy; have T3 := bl_gr (bl_al (Below.refl w11.heap.size w11) _) gy (Nat.le_refl _); have v0 : wy.cell? ⟨w11.heap.size, 0, none⟩ = some (.int .u64 q2.num) := hY.cell 0; have v1 : wy.cell? ⟨w11.heap.size, 1, none⟩ = some (.int .i64 pf) := hY.cell 1; have v2 : wy.cell? ⟨w11.heap.size, 2, none⟩ = some (.int .i64 pt) := hY.cell 2; have v3 : wy.cell? ⟨w11.heap.size, 3, none⟩ = some (.slice B2 n2 c5) := hY.cell 3; have v4 : wy.cell? ⟨w11.heap.size, 4, none⟩ = some (.bool false) := hY.cell 4; have u0 : wy.cell? ⟨wr.heap.size, 0, none⟩ = some (.int .u64 pn) := (HZ2.out.ca T3).cell 0; have u1 : wy.cell? ⟨wr.heap.size, 1, none⟩ = some (.int .i64 pf) := (HZ2.out.ca T3).cell 1; have u2 : wy.cell? ⟨wr.heap.size, 2, none⟩ = some (.int .i64 pt) := (HZ2.out.ca T3).cell 2; have u3 : wy.cell? ⟨wr.heap.size, 3, none⟩ = some (.slice B n' c') := (HZ2.out.ca T3).cell 3; have u4 : wy.cell? ⟨wr.heap.size, 4, none⟩ = some (.bool false) := (HZ2.out.ca T3).cell 4; have HT3 := Lib.hid T3; clear T3 hY gy)
                refine (equal_any B2 B n2 c5 n' c' q2.bs pb _ (HRB2.out.below HT3.out) ((HRB.out.below HT2.out).below HT3.out)).mono ?_
                rintro e wx ⟨rfl, rfl⟩
                rw [HAS.out.bs]
                go_wp2
                go_roundg (gk - 1)
                · exact ⟨i + 1, by omega, by go_num, bl_ca HBW.out (bl_ca HT2.out HT3.out)⟩
                · omega
              · replace f4 : w11.cell? ⟨(ad2.add (j * 5)).block, (ad2.add (j * 5)).off + 4, none⟩ = some (.bool true) := f4
                go_wp2_with (refine wpList_store_blk rfl 29 (.tmp 13) (.tmp 97) rfl w11.heap.size 29 _ _ rfl rfl (Blk.new _ _ _) rfl parcelI (by simp [Value.oneCell']) ?_; intro wy hY gy; have T3 := bl_gr (bl_al (Below.refl w11.heap.size w11) _) gy (Nat.le_refl _); have v0 : wy.cell? ⟨w11.heap.size, 0, none⟩ = some (.int .u64 q2.num) := hY.cell 0; have v1 : wy.cell? ⟨w11.heap.size, 1, none⟩ = some (.int .i64 pf) := hY.cell 1; have v2 : wy.cell? ⟨w11.heap.size, 2, none⟩ = some (.int .i64 pt) := hY.cell 2; have v3 : wy.cell? ⟨w11.heap.size, 3, none⟩ = some (.slice B2 n2 c5) := hY.cell 3; have v4 : wy.cell? ⟨w11.heap.size, 4, none⟩ = some (.bool true) := hY.cell 4; have u0 : wy.cell? ⟨wr.heap.size, 0, none⟩ = some (.int .u64 pn) := (HZ2.out.ca T3).cell 0; have u1 : wy.cell? ⟨wr.heap.size, 1, none⟩ = some (.int .i64 pf) := (HZ2.out.ca T3).cell 1; have u2 : wy.cell? ⟨wr.heap.size, 2, none⟩ = some (.int .i64 pt) := (HZ2.out.ca T3).cell 2; have u3 : wy.cell? ⟨wr.heap.size, 3, none⟩ = some (.slice B n' c') := (HZ2.out.ca T3).cell 3; have u4 : wy.cell? ⟨wr.heap.size, 4, none⟩ = some (.bool true) := (HZ2.out.ca T3).cell 4; have HT3 := Lib.hid T3; clear T3 hY gy)
                refine (equal_any B2 B n2 c5 n' c' q2.bs pb _ (HRB2.out.below HT3.out) ((HRB.out.below HT2.out).below HT3.out)).mono ?_
                rintro e wx ⟨rfl, rfl⟩
                rw [HAS.out.bs]
                go_wp2
                go_roundg (gk - 1)
                · exact ⟨i + 1, by omega, by go_num, bl_ca HBW.out (bl_ca HT2.out HT3.out)⟩
                · omega
            · have hg : goneO o x ⟨pn, pf, pt, pb, psp⟩ = true := by simp [goneO, ← HKAP.out, hx]
              have HI := Lib.hid (oth_no HOTH.out hg)
              clear hg
              go_wp2_with (refine wpList_store_blk rfl 29 (.tmp 10) (.tmp 50) rfl wr.heap.size 29 _ _ rfl rfl (Blk.new _ _ _) rfl parcelI (by simp [Value.oneCell']) ?_; intro wz hZ gz; have T1 := bl_gr (bl_al (Below.refl wr.heap.size wr) _) gz (Nat.le_refl _); have t1 : wz.cell? ⟨g7, 1, none⟩ = some (.slice A3 m3 c3) := (HT9.out.ca T1).cell 1)
              have HIX := Lib.hid (indexf_any AllB A3 m3 c3 Tps 31 #[.pointer (some ⟨wr.heap.size, 0, none⟩)] _ wz (Lay.rd_below HRT9.out T1) (by omega) (Go.Proofs.enters_of Try.func31 (by kernel_rfl) rfl) (tst_c ⟨pn, pf, pt, pb, psp⟩ B n' c' wr.heap.size wz hZ))
              rw [HI.out] at HIX
              refine HIX.out.mono ?_
              rintro e w11 ⟨rfl, q11⟩
              have T2 := bl_ca T1 q11
              have hZ2 := hZ.ca q11
              have y0 : w11.cell? ⟨wr.heap.size, 0, none⟩ = some (.int .u64 pn) := hZ2.cell 0
              have y1 : w11.cell? ⟨wr.heap.size, 1, none⟩ = some (.int .i64 pf) := hZ2.cell 1
              have y2 : w11.cell? ⟨wr.heap.size, 2, none⟩ = some (.int .i64 pt) := hZ2.cell 2
              have y3 : w11.cell? ⟨wr.heap.size, 3, none⟩ = some (.slice B n' c') := hZ2.cell 3
              have y4 : w11.cell? ⟨wr.heap.size, 4, none⟩ = some (.bool psp) := hZ2.cell 4
              have z1 : w11.cell? ⟨w.heap.size + 1, 1, none⟩ = some (.int .i64 o.frm) := (HO9.out.ca T2).cell 1
              have z2 : w11.cell? ⟨w.heap.size + 1, 2, none⟩ = some (.int .i64 o.to) := (HO9.out.ca T2).cell 2
              have t2 : w11.cell? ⟨g7, 1, none⟩ = some (.slice A3 m3 c3) := (HT9.out.ca T2).cell 1
              have HZ2 := Lib.hid hZ2
              have HT2 := Lib.hid T2
              have HSZ := Lib.hid hZ2.lt
              clear HIX T1 q11 hZ gz t1 HI hZ2 e0 e1 e2 e3 e4
              clear T2
              go_wp2
              go_roundg (gk - 1)
              · exact ⟨i + 1, by omega, by go_num, bl_ca HBW.out HT2.out⟩
              · omega
          · cases hx : (pn == x)
            · have hg : goneO o x ⟨pn, pf, pt, pb, psp⟩ = false := by simp [goneO, ← HKAP.out, hx]
              have ho : ownO o x ⟨pn, pf, pt, pb, psp⟩ = false := by simp [ownO, ← HKAP.out]
              obtain ⟨j, q, hj, hq, has⟩ := oth_yes HOTH.out hg false ho
              have HI := Lib.hid hj
              have HQ := Lib.hid hq
              have HAS := Lib.hid has
              clear ho hj hq has
              clear hg
              go_wp2_with (refine wpList_store_blk rfl 29 (.tmp 10) (.tmp 50) rfl wr.heap.size 29 _ _ rfl rfl (Blk.new _ _ _) rfl parcelI (by simp [Value.oneCell']) ?_; intro wz hZ gz; have T1 := bl_gr (bl_al (Below.refl wr.heap.size wr) _) gz (Nat.le_refl _); have t1 : wz.cell? ⟨g7, 1, none⟩ = some (.slice A3 m3 c3) := (HT9.out.ca T1).cell 1)
              have HIX := Lib.hid (indexf_any AllB A3 m3 c3 Tps 31 #[.pointer (some ⟨wr.heap.size, 0, none⟩)] _ wz (Lay.rd_below HRT9.out T1) (by omega) (Go.Proofs.enters_of Try.func31 (by kernel_rfl) rfl) (tst_c ⟨pn, pf, pt, pb, psp⟩ B n' c' wr.heap.size wz hZ))
              rw [HI.out] at HIX
              refine HIX.out.mono ?_
              rintro e w11 ⟨rfl, q11⟩
              have T2 := bl_ca T1 q11
              have hZ2 := hZ.ca q11
              have y0 : w11.cell? ⟨wr.heap.size, 0, none⟩ = some (.int .u64 pn) := hZ2.cell 0
              have y1 : w11.cell? ⟨wr.heap.size, 1, none⟩ = some (.int .i64 pf) := hZ2.cell 1
              have y2 : w11.cell? ⟨wr.heap.size, 2, none⟩ = some (.int .i64 pt) := hZ2.cell 2
              have y3 : w11.cell? ⟨wr.heap.size, 3, none⟩ = some (.slice B n' c') := hZ2.cell 3
              have y4 : w11.cell? ⟨wr.heap.size, 4, none⟩ = some (.bool psp) := hZ2.cell 4
              have z1 : w11.cell? ⟨w.heap.size + 1, 1, none⟩ = some (.int .i64 o.frm) := (HO9.out.ca T2).cell 1
              have z2 : w11.cell? ⟨w.heap.size + 1, 2, none⟩ = some (.int .i64 o.to) := (HO9.out.ca T2).cell 2
              have t2 : w11.cell? ⟨g7, 1, none⟩ = some (.slice A3 m3 c3) := (HT9.out.ca T2).cell 1
              have HZ2 := Lib.hid hZ2
              have HT2 := Lib.hid T2
              have HSZ := Lib.hid hZ2.lt
              clear HIX T1 q11 hZ gz t1 HI hZ2 e0 e1 e2 e3 e4
              have hj1 : j < m3 := by have := (List.getElem?_eq_some_iff.1 HQ.out).1; have := Lay.rd_len HRT9.out; omega
              have hj2 : (j : Int) < (m3 : Int) := by omega
              have hj3 : (0 : Int) ≤ (j : Int) := by omega
              obtain ⟨ad2, q2, B2, n2, c5, rfl, hq2, s2⟩ := LP_at (Lay.rd_below HRT9.out T2) hj1
              obtain rfl : q2 = q := by have h1 := HQ.out; rw [hq2] at h1; injection h1
              have f0 := s2.c0
              have f1 := s2.c1
              have f2 := s2.c2
              have f3 := s2.c3
              have f4 := s2.c4
              rw [HAS.out.frm] at f1
              rw [HAS.out.to] at f2
              rw [HAS.out.sp] at f4
              have HRB2 := Lib.hid s2.rb
              clear hq2 s2 T2
              cases psp
              · replace f4 : w11.cell? ⟨(ad2.add (j * 5)).block, (ad2.add (j * 5)).off + 4, none⟩ = some (.bool false) := f4
                go_wp2_with (refine wpList_store_blk rfl 29 (.tmp 13) (.tmp 97) rfl w11.heap.size 29 _ _ rfl rfl (Blk.new _ _ _) rfl parcelI (by simp [Value.oneCell']) ?_; intro wy hY gy; have T3 := bl_gr (bl_al (Below.refl w11.heap.size w11) _) gy (Nat.le_refl _); have v0 : wy.cell? ⟨w11.heap.size, 0, none⟩ = some (.int .u64 q2.num) := hY.cell 0; have v1 : wy.cell? ⟨w11.heap.size, 1, none⟩ = some (.int .i64 pf) := hY.cell 1; have v2 : wy.cell? ⟨w11.heap.size, 2, none⟩ = some (.int .i64 pt) := hY.cell 2; have v3 : wy.cell? ⟨w11.heap.size, 3, none⟩ = some (.slice B2 n2 c5) := hY.cell 3; have v4 : wy.cell? ⟨w11.heap.size, 4, none⟩ = some (.bool false) := hY.cell 4; have u0 : wy.cell? ⟨wr.heap.size, 0, none⟩ = some (.int .u64 pn) := (HZ2.out.ca T3).cell 0; have u1 : wy.cell? ⟨wr.heap.size, 1, none⟩ = some (.int .i64 pf) := (HZ2.out.ca T3).cell 1; have u2 : wy.cell? ⟨wr.heap.size, 2, none⟩ = some (.int .i64 pt) := (HZ2.out.ca T3).cell 2; have u3 : wy.cell? ⟨wr.heap.size, 3, none⟩ = some (.slice B n' c') := (HZ2.out.ca T3).cell 3; have u4 : wy.cell? ⟨wr.heap.size, 4, none⟩ = some (.bool false) := (HZ2.out.ca T3).cell 4; have HT3 := Lib.hid T3; clear T3 hY gy)
                refine (equal_any B2 B n2 c5 n' c' q2.bs pb _ (HRB2.out.below HT3.out) ((HRB.out.below HT2.out).below HT3.out)).mono ?_
                rintro e wx ⟨rfl, rfl⟩
                rw [HAS.out.bs]
                go_wp2
                go_roundg (gk - 1)
                · exact ⟨i + 1, by omega, by go_num, bl_ca HBW.out (bl_ca HT2.out HT3.out)⟩
                · omega
              · replace f4 : w11.cell? ⟨(ad2.add (j * 5)).block, (ad2.add (j * 5)).off + 4, none⟩ = some (.bool true) := f4
                go_wp2_with (refine wpList_store_blk rfl 29 (.tmp 13) (.tmp 97) rfl w11.heap.size 29 _ _ rfl rfl (Blk.new _ _ _) rfl parcelI (by simp [Value.oneCell']) ?_; intro wy hY gy; have T3 := bl_gr (bl_al (Below.refl w11.heap.size w11) _) gy (Nat.le_refl _); have v0 : wy.cell? ⟨w11.heap.size, 0, none⟩ = some (.int .u64 q2.num) := hY.cell 0; have v1 : wy.cell? ⟨w11.heap.size, 1, none⟩ = some (.int .i64 pf) := hY.cell 1; have v2 : wy.cell? ⟨w11.heap.size, 2, none⟩ = some (.int .i64 pt) := hY.cell 2; have v3 : wy.cell? ⟨w11.heap.size, 3, none⟩ = some (.slice B2 n2 c5) := hY.cell 3; have v4 : wy.cell? ⟨w11.heap.size, 4, none⟩ = some (.bool true) := hY.cell 4; have u0 : wy.cell? ⟨wr.heap.size, 0, none⟩ = some (.int .u64 pn) := (HZ2.out.ca T3).cell 0; have u1 : wy.cell? ⟨wr.heap.size, 1, none⟩ = some (.int .i64 pf) := (HZ2.out.ca T3).cell 1; have u2 : wy.cell? ⟨wr.heap.size, 2, none⟩ = some (.int .i64 pt) := (HZ2.out.ca T3).cell 2; have u3 : wy.cell? ⟨wr.heap.size, 3, none⟩ = some (.slice B n' c') := (HZ2.out.ca T3).cell 3; have u4 : wy.cell? ⟨wr.heap.size, 4, none⟩ = some (.bool true) := (HZ2.out.ca T3).cell 4; have HT3 := Lib.hid T3; clear T3 hY gy)
                refine (equal_any B2 B n2 c5 n' c' q2.bs pb _ (HRB2.out.below HT3.out) ((HRB.out.below HT2.out).below HT3.out)).mono ?_
                rintro e wx ⟨rfl, rfl⟩
                rw [HAS.out.bs]
                go_wp2
                go_roundg (gk - 1)
                · exact ⟨i + 1, by omega, by go_num, bl_ca HBW.out (bl_ca HT2.out HT3.out)⟩
                · omega
            · have hg : goneO o x ⟨pn, pf, pt, pb, psp⟩ = true := by simp [goneO, ← HKAP.out, hx]
              have HI := Lib.hid (oth_no HOTH.out hg)
              clear hg
              go_wp2_with (refine wpList_store_blk rfl 29 (.tmp 10) (.tmp 50) rfl wr.heap.size 29 _ _ rfl rfl (Blk.new _ _ _) rfl parcelI (by simp [Value.oneCell']) ?_; intro wz hZ gz; have T1 := bl_gr (bl_al (Below.refl wr.heap.size wr) _) gz (Nat.le_refl _); have t1 : wz.cell? ⟨g7, 1, none⟩ = some (.slice A3 m3 c3) := (HT9.out.ca T1).cell 1)
              have HIX := Lib.hid (indexf_any AllB A3 m3 c3 Tps 31 #[.pointer (some ⟨wr.heap.size, 0, none⟩)] _ wz (Lay.rd_below HRT9.out T1) (by omega) (Go.Proofs.enters_of Try.func31 (by kernel_rfl) rfl) (tst_c ⟨pn, pf, pt, pb, psp⟩ B n' c' wr.heap.size wz hZ))
              rw [HI.out] at HIX
              refine HIX.out.mono ?_
              rintro e w11 ⟨rfl, q11⟩
              have T2 := bl_ca T1 q11
              have hZ2 := hZ.ca q11
              have y0 : w11.cell? ⟨wr.heap.size, 0, none⟩ = some (.int .u64 pn) := hZ2.cell 0
              have y1 : w11.cell? ⟨wr.heap.size, 1, none⟩ = some (.int .i64 pf) := hZ2.cell 1
              have y2 : w11.cell? ⟨wr.heap.size, 2, none⟩ = some (.int .i64 pt) := hZ2.cell 2
              have y3 : w11.cell? ⟨wr.heap.size, 3, none⟩ = some (.slice B n' c') := hZ2.cell 3
              have y4 : w11.cell? ⟨wr.heap.size, 4, none⟩ = some (.bool psp) := hZ2.cell 4
              have z1 : w11.cell? ⟨w.heap.size + 1, 1, none⟩ = some (.int .i64 o.frm) := (HO9.out.ca T2).cell 1
              have z2 : w11.cell? ⟨w.heap.size + 1, 2, none⟩ = some (.int .i64 o.to) := (HO9.out.ca T2).cell 2
              have t2 : w11.cell? ⟨g7, 1, none⟩ = some (.slice A3 m3 c3) := (HT9.out.ca T2).cell 1
              have HZ2 := Lib.hid hZ2
              have HT2 := Lib.hid T2
              have HSZ := Lib.hid hZ2.lt
              clear HIX T1 q11 hZ gz t1 HI hZ2 e0 e1 e2 e3 e4
              clear T2
              go_wp2
              go_roundg (gk - 1)
              · exact ⟨i + 1, by omega, by go_num, bl_ca HBW.out HT2.out⟩
              · omega
          · cases hf : (pf == o.frm)
            · have hg : goneO o x ⟨pn, pf, pt, pb, psp⟩ = false := by simp [goneO, ← HKAP.out, hf]
              have ho : ownO o x ⟨pn, pf, pt, pb, psp⟩ = false := by simp [ownO, ← HKAP.out]
              obtain ⟨j, q, hj, hq, has⟩ := oth_yes HOTH.out hg false ho
              have HI := Lib.hid hj
              have HQ := Lib.hid hq
              have HAS := Lib.hid has
              clear ho hj hq has
              clear hg
              go_wp2_with (refine wpList_store_blk rfl 29 (.tmp 10) (.tmp 50) rfl wr.heap.size 29 _ _ rfl rfl (Blk.new _ _ _) rfl parcelI (by simp [Value.oneCell']) ?_; intro wz hZ gz; have T1 := bl_gr (bl_al (Below.refl wr.heap.size wr) _) gz (Nat.le_refl _); have t1 : wz.cell? ⟨g7, 1, none⟩ = some (.slice A3 m3 c3) := (HT9.out.ca T1).cell 1)
              have HIX := Lib.hid (indexf_any AllB A3 m3 c3 Tps 31 #[.pointer (some ⟨wr.heap.size, 0, none⟩)] _ wz (Lay.rd_below HRT9.out T1) (by omega) (Go.Proofs.enters_of Try.func31 (by kernel_rfl) rfl) (tst_c ⟨pn, pf, pt, pb, psp⟩ B n' c' wr.heap.size wz hZ))
              rw [HI.out] at HIX
              refine HIX.out.mono ?_
              rintro e w11 ⟨rfl, q11⟩
              have T2 := bl_ca T1 q11
              have hZ2 := hZ.ca q11
              have y0 : w11.cell? ⟨wr.heap.size, 0, none⟩ = some (.int .u64 pn) := hZ2.cell 0
              have y1 : w11.cell? ⟨wr.heap.size, 1, none⟩ = some (.int .i64 pf) := hZ2.cell 1
              have y2 : w11.cell? ⟨wr.heap.size, 2, none⟩ = some (.int .i64 pt) := hZ2.cell 2
              have y3 : w11.cell? ⟨wr.heap.size, 3, none⟩ = some (.slice B n' c') := hZ2.cell 3
              have y4 : w11.cell? ⟨wr.heap.size, 4, none⟩ = some (.bool psp) := hZ2.cell 4
              have z1 : w11.cell? ⟨w.heap.size + 1, 1, none⟩ = some (.int .i64 o.frm) := (HO9.out.ca T2).cell 1
              have z2 : w11.cell? ⟨w.heap.size + 1, 2, none⟩ = some (.int .i64 o.to) := (HO9.out.ca T2).cell 2
              have t2 : w11.cell? ⟨g7, 1, none⟩ = some (.slice A3 m3 c3) := (HT9.out.ca T2).cell 1
              have HZ2 := Lib.hid hZ2
              have HT2 := Lib.hid T2
              have HSZ := Lib.hid hZ2.lt
              clear HIX T1 q11 hZ gz t1 HI hZ2 e0 e1 e2 e3 e4
              have hj1 : j < m3 := by have := (List.getElem?_eq_some_iff.1 HQ.out).1; have := Lay.rd_len HRT9.out; omega
              have hj2 : (j : Int) < (m3 : Int) := by omega
              have hj3 : (0 : Int) ≤ (j : Int) := by omega
              obtain ⟨ad2, q2, B2, n2, c5, rfl, hq2, s2⟩ := LP_at (Lay.rd_below HRT9.out T2) hj1
              obtain rfl : q2 = q := by have h1 := HQ.out; rw [hq2] at h1; injection h1
              have f0 := s2.c0
              have f1 := s2.c1
              have f2 := s2.c2
              have f3 := s2.c3
              have f4 := s2.c4
              rw [HAS.out.frm] at f1
              rw [HAS.out.to] at f2
              rw [HAS.out.sp] at f4
              have HRB2 := Lib.hid s2.rb
              clear hq2 s2 T2
              cases psp
              · replace f4 : w11.cell? ⟨(ad2.add (j * 5)).block, (ad2.add (j * 5)).off + 4, none⟩ = some (.bool false) := f4
                go_wp2_with (refine wpList_store_blk rfl 29 (.tmp 13) (.tmp 97) rfl w11.heap.size 29 _ _ rfl rfl (Blk.new _ _ _) rfl parcelI (by simp [Value.oneCell']) ?_; intro wy hY gy; have T3 := bl_gr (bl_al (Below.refl w11.heap.size w11) _) gy (Nat.le_refl _); have v0 : wy.cell? ⟨w11.heap.size, 0, none⟩ = some (.int .u64 q2.num) := hY.cell 0; have v1 : wy.cell? ⟨w11.heap.size, 1, none⟩ = some (.int .i64 pf) := hY.cell 1; have v2 : wy.cell? ⟨w11.heap.size, 2, none⟩ = some (.int .i64 pt) := hY.cell 2; have v3 : wy.cell? ⟨w11.heap.size, 3, none⟩ = some (.slice B2 n2 c5) := hY.cell 3; have v4 : wy.cell? ⟨w11.heap.size, 4, none⟩ = some (.bool false) := hY.cell 4; have u0 : wy.cell? ⟨wr.heap.size, 0, none⟩ = some (.int .u64 pn) := (HZ2.out.ca T3).cell 0; have u1 : wy.cell? ⟨wr.heap.size, 1, none⟩ = some (.int .i64 pf) := (HZ2.out.ca T3).cell 1; have u2 : wy.cell? ⟨wr.heap.size, 2, none⟩ = some (.int .i64 pt) := (HZ2.out.ca T3).cell 2; have u3 : wy.cell? ⟨wr.heap.size, 3, none⟩ = some (.slice B n' c') := (HZ2.out.ca T3).cell 3; have u4 : wy.cell? ⟨wr.heap.size, 4, none⟩ = some (.bool false) := (HZ2.out.ca T3).cell 4; have HT3 := Lib.hid T3; clear T3 hY gy)
                refine (equal_any B2 B n2 c5 n' c' q2.bs pb _ (HRB2.out.below HT3.out) ((HRB.out.below HT2.out).below HT3.out)).mono ?_
                rintro e wx ⟨rfl, rfl⟩
                rw [HAS.out.bs]
                go_wp2
                go_roundg (gk - 1)
                · exact ⟨i + 1, by omega, by go_num, bl_ca HBW.out (bl_ca HT2.out HT3.out)⟩
                · omega
              · replace f4 : w11.cell? ⟨(ad2.add (j * 5)).block, (ad2.add (j * 5)).off + 4, none⟩ = some (.bool true) := f4
                go_wp2_with (refine wpList_store_blk rfl 29 (.tmp 13) (.tmp 97) rfl w11.heap.size 29 _ _ rfl rfl (Blk.new _ _ _) rfl parcelI (by simp [Value.oneCell']) ?_; intro wy hY gy; have T3 := bl_gr (bl_al (Below.refl w11.heap.size w11) _) gy (Nat.le_refl _); have v0 : wy.cell? ⟨w11.heap.size, 0, none⟩ = some (.int .u64 q2.num) := hY.cell 0; have v1 : wy.cell? ⟨w11.heap.size, 1, none⟩ = some (.int .i64 pf) := hY.cell 1; have v2 : wy.cell? ⟨w11.heap.size, 2, none⟩ = some (.int .i64 pt) := hY.cell 2; have v3 : wy.cell? ⟨w11.heap.size, 3, none⟩ = some (.slice B2 n2 c5) := hY.cell 3; have v4 : wy.cell? ⟨w11.heap.size, 4, none⟩ = some (.bool true) := hY.cell 4; have u0 : wy.cell? ⟨wr.heap.size, 0, none⟩ = some (.int .u64 pn) := (HZ2.out.ca T3).cell 0; have u1 : wy.cell? ⟨wr.heap.size, 1, none⟩ = some (.int .i64 pf) := (HZ2.out.ca T3).cell 1; have u2 : wy.cell? ⟨wr.heap.size, 2, none⟩ = some (.int .i64 pt) := (HZ2.out.ca T3).cell 2; have u3 : wy.cell? ⟨wr.heap.size, 3, none⟩ = some (.slice B n' c') := (HZ2.out.ca T3).cell 3; have u4 : wy.cell? ⟨wr.heap.size, 4, none⟩ = some (.bool true) := (HZ2.out.ca T3).cell 4; have HT3 := Lib.hid T3; clear T3 hY gy)
                refine (equal_any B2 B n2 c5 n' c' q2.bs pb _ (HRB2.out.below HT3.out) ((HRB.out.below HT2.out).below HT3.out)).mono ?_
                rintro e wx ⟨rfl, rfl⟩
                rw [HAS.out.bs]
                go_wp2
                go_roundg (gk - 1)
                · exact ⟨i + 1, by omega, by go_num, bl_ca HBW.out (bl_ca HT2.out HT3.out)⟩
                · omega
            · cases ht : (pt == o.to)
              · have hg : goneO o x ⟨pn, pf, pt, pb, psp⟩ = false := by simp [goneO, ← HKAP.out, hf, ht]
                have ho : ownO o x ⟨pn, pf, pt, pb, psp⟩ = false := by simp [ownO, ← HKAP.out]
                obtain ⟨j, q, hj, hq, has⟩ := oth_yes HOTH.out hg false ho
                have HI := Lib.hid hj
                have HQ := Lib.hid hq
                have HAS := Lib.hid has
                clear ho hj hq has
                clear hg
                go_wp2_with (refine wpList_store_blk rfl 29 (.tmp 10) (.tmp 50) rfl wr.heap.size 29 _ _ rfl rfl (Blk.new _ _ _) rfl parcelI (by simp [Value.oneCell']) ?_; intro wz hZ gz; have T1 := bl_gr (bl_al (Below.refl wr.heap.size wr) _) gz (Nat.le_refl _); have t1 : wz.cell? ⟨g7, 1, none⟩ = some (.slice A3 m3 c3) := (HT9.out.ca T1).cell 1)
                have HIX := Lib.hid (indexf_any AllB A3 m3 c3 Tps 31 #[.pointer (some ⟨wr.heap.size, 0, none⟩)] _ wz (Lay.rd_below HRT9.out T1) (by omega) (Go.Proofs.enters_of Try.func31 (by kernel_rfl) rfl) (tst_c ⟨pn, pf, pt, pb, psp⟩ B n' c' wr.heap.size wz hZ))
                rw [HI.out] at HIX
                refine HIX.out.mono ?_
                rintro e w11 ⟨rfl, q11⟩
                have T2 := bl_ca T1 q11
                have hZ2 := hZ.ca q11
                have y0 : w11.cell? ⟨wr.heap.size, 0, none⟩ = some (.int .u64 pn) := hZ2.cell 0
                have y1 : w11.cell? ⟨wr.heap.size, 1, none⟩ = some (.int .i64 pf) := hZ2.cell 1
                have y2 : w11.cell? ⟨wr.heap.size, 2, none⟩ = some (.int .i64 pt) := hZ2.cell 2
                have y3 : w11.cell? ⟨wr.heap.size, 3, none⟩ = some (.slice B n' c') := hZ2.cell 3
                have y4 : w11.cell? ⟨wr.heap.size, 4, none⟩ = some (.bool psp) := hZ2.cell 4
                have z1 : w11.cell? ⟨w.heap.size + 1, 1, none⟩ = some (.int .i64 o.frm) := (HO9.out.ca T2).cell 1
                have z2 : w11.cell? ⟨w.heap.size + 1, 2, none⟩ = some (.int .i64 o.to) := (HO9.out.ca T2).cell 2
                have t2 : w11.cell? ⟨g7, 1, none⟩ = some (.slice A3 m3 c3) := (HT9.out.ca T2).cell 1
                have HZ2 := Lib.hid hZ2
                have HT2 := Lib.hid T2
                have HSZ := Lib.hid hZ2.lt
                clear HIX T1 q11 hZ gz t1 HI hZ2 e0 e1 e2 e3 e4
                have hj1 : j < m3 := by have := (List.getElem?_eq_some_iff.1 HQ.out).1; have := Lay.rd_len HRT9.out; omega
                have hj2 : (j : Int) < (m3 : Int) := by omega
                have hj3 : (0 : Int) ≤ (j : Int) := by omega
                obtain ⟨ad2, q2, B2, n2, c5, rfl, hq2, s2⟩ := LP_at (Lay.rd_below HRT9.out T2) hj1
                obtain rfl : q2 = q := by have h1 := HQ.out; rw [hq2] at h1; injection h1
                have f0 := s2.c0
                have f1 := s2.c1
                have f2 := s2.c2
                have f3 := s2.c3
                have f4 := s2.c4
                rw [HAS.out.frm] at f1
                rw [HAS.out.to] at f2
                rw [HAS.out.sp] at f4
                have HRB2 := Lib.hid s2.rb
                clear hq2 s2 T2
                cases psp
                · replace f4 : w11.cell? ⟨(ad2.add (j * 5)).block, (ad2.add (j * 5)).off + 4, none⟩ = some (.bool false) := f4
                  go_wp2_with (refine wpList_store_blk rfl 29 (.tmp 13) (.tmp 97) rfl w11.heap.size 29 _ _ rfl rfl (Blk.new _ _ _) rfl parcelI (by simp [Value.oneCell']) ?_; intro wy hY gy; have T3 := bl_gr (bl_al (Below.refl w11.heap.size w11) _) gy (Nat.le_refl _); have v0 : wy.cell? ⟨w11.heap.size, 0, none⟩ = some (.int .u64 q2.num) := hY.cell 0; have v1 : wy.cell? ⟨w11.heap.size, 1, none⟩ = some (.int .i64 pf) := hY.cell 1; have v2 : wy.cell? ⟨w11.heap.size, 2, none⟩ = some (.int .i64 pt) := hY.cell 2; have v3 : wy.cell? ⟨w11.heap.size, 3, none⟩ = some (.slice B2 n2 c5) := hY.cell 3; have v4 : wy.cell? ⟨w11.heap.size, 4, none⟩ = some (.bool false) := hY.cell 4; have u0 : wy.cell? ⟨wr.heap.size, 0, none⟩ = some (.int .u64 pn) := (HZ2.out.ca T3).cell 0; have u1 : wy.cell? ⟨wr.heap.size, 1, none⟩ = some (.int .i64 pf) := (HZ2.out.ca T3).cell 1; have u2 : wy.cell? ⟨wr.heap.size, 2, none⟩ = some (.int .i64 pt) := (HZ2.out.ca T3).cell 2; have u3 : wy.cell? ⟨wr.heap.size, 3, none⟩ = some (.slice B n' c') := (HZ2.out.ca T3).cell 3; have u4 : wy.cell? ⟨wr.heap.size, 4, none⟩ = some (.bool false) := (HZ2.out.ca T3).cell 4; have HT3 := Lib.hid T3; clear T3 hY gy)
                  refine (equal_any B2 B n2 c5 n' c' q2.bs pb _ (HRB2.out.below HT3.out) ((HRB.out.below HT2.out).below HT3.out)).mono ?_
                  rintro e wx ⟨rfl, rfl⟩
                  rw [HAS.out.bs]
                  go_wp2
                  go_roundg (gk - 1)
                  · exact ⟨i + 1, by omega, by go_num, bl_ca HBW.out (bl_ca HT2.out HT3.out)⟩
                  · omega
                · replace f4 : w11.cell? ⟨(ad2.add (j * 5)).block, (ad2.add (j * 5)).off + 4, none⟩ = some (.bool true) := f4
                  go_wp2_with (refine wpList_store_blk rfl 29 (.tmp 13) (.tmp 97) rfl w11.heap.size 29 _ _ rfl rfl (Blk.new _ _ _) rfl parcelI (by simp [Value.oneCell']) ?_; intro wy hY gy; have T3 := bl_gr (bl_al (Below.refl w11.heap.size w11) _) gy (Nat.le_refl _); have v0 : wy.cell? ⟨w11.heap.size, 0, none⟩ = some (.int .u64 q2.num) := hY.cell 0; have v1 : wy.cell? ⟨w11.heap.size, 1, none⟩ = some (.int .i64 pf) := hY.cell 1; have v2 : wy.cell? ⟨w11.heap.size, 2, none⟩ = some (.int .i64 pt) := hY.cell 2; have v3 : wy.cell? ⟨w11.heap.size, 3, none⟩ = some (.slice B2 n2 c5) := hY.cell 3; have v4 : wy.cell? ⟨w11.heap.size, 4, none⟩ = some (.bool true) := hY.cell 4; have u0 : wy.cell? ⟨wr.heap.size, 0, none⟩ = some (.int .u64 pn) := (HZ2.out.ca T3).cell 0; have u1 : wy.cell? ⟨wr.heap.size, 1, none⟩ = some (.int .i64 pf) := (HZ2.out.ca T3).cell 1; have u2 : wy.cell? ⟨wr.heap.size, 2, none⟩ = some (.int .i64 pt) := (HZ2.out.ca T3).cell 2; have u3 : wy.cell? ⟨wr.heap.size, 3, none⟩ = some (.slice B n' c') := (HZ2.out.ca T3).cell 3; have u4 : wy.cell? ⟨wr.heap.size, 4, none⟩ = some (.bool true) := (HZ2.out.ca T3).cell 4; have HT3 := Lib.hid T3; clear T3 hY gy)
                  refine (equal_any B2 B n2 c5 n' c' q2.bs pb _ (HRB2.out.below HT3.out) ((HRB.out.below HT2.out).below HT3.out)).mono ?_
                  rintro e wx ⟨rfl, rfl⟩
                  rw [HAS.out.bs]
                  go_wp2
                  go_roundg (gk - 1)
                  · exact ⟨i + 1, by omega, by go_num, bl_ca HBW.out (bl_ca HT2.out HT3.out)⟩
                  · omega
              · have hg : goneO o x ⟨pn, pf, pt, pb, psp⟩ = true := by simp [goneO, ← HKAP.out, hf, ht]
                have HI := Lib.hid (oth_no HOTH.out hg)
                clear hg
                go_wp2_with (refine wpList_store_blk rfl 29 (.tmp 10) (.tmp 50) rfl wr.heap.size 29 _ _ rfl rfl (Blk.new _ _ _) rfl parcelI (by simp [Value.oneCell']) ?_; intro wz hZ gz; have T1 := bl_gr (bl_al (Below.refl wr.heap.size wr) _) gz (Nat.le_refl _); have t1 : wz.cell? ⟨g7, 1, none⟩ = some (.slice A3 m3 c3) := (HT9.out.ca T1).cell 1)
                have HIX := Lib.hid (indexf_any AllB A3 m3 c3 Tps 31 #[.pointer (some ⟨wr.heap.size, 0, none⟩)] _ wz (Lay.rd_below HRT9.out T1) (by omega) (Go.Proofs.enters_of Try.func31 (by kernel_rfl) rfl) (tst_c ⟨pn, pf, pt, pb, psp⟩ B n' c' wr.heap.size wz hZ))
                rw [HI.out] at HIX
                refine HIX.out.mono ?_
                rintro e w11 ⟨rfl, q11⟩
                have T2 := bl_ca T1 q11
                have hZ2 := hZ.ca q11
                have y0 : w11.cell? ⟨wr.heap.size, 0, none⟩ = some (.int .u64 pn) := hZ2.cell 0
                have y1 : w11.cell? ⟨wr.heap.size, 1, none⟩ = some (.int .i64 pf) := hZ2.cell 1
                have y2 : w11.cell? ⟨wr.heap.size, 2, none⟩ = some (.int .i64 pt) := hZ2.cell 2
                have y3 : w11.cell? ⟨wr.heap.size, 3, none⟩ = some (.slice B n' c') := hZ2.cell 3
                have y4 : w11.cell? ⟨wr.heap.size, 4, none⟩ = some (.bool psp) := hZ2.cell 4
                have z1 : w11.cell? ⟨w.heap.size + 1, 1, none⟩ = some (.int .i64 o.frm) := (HO9.out.ca T2).cell 1
                have z2 : w11.cell? ⟨w.heap.size + 1, 2, none⟩ = some (.int .i64 o.to) := (HO9.out.ca T2).cell 2
                have t2 : w11.cell? ⟨g7, 1, none⟩ = some (.slice A3 m3 c3) := (HT9.out.ca T2).cell 1
                have HZ2 := Lib.hid hZ2
                have HT2 := Lib.hid T2
                have HSZ := Lib.hid hZ2.lt
                clear HIX T1 q11 hZ gz t1 HI hZ2 e0 e1 e2 e3 e4
                clear T2
                go_wp2
                go_roundg (gk - 1)
                · exact ⟨i + 1, by omega, by go_num, bl_ca HBW.out HT2.out⟩
                · omega
          · have hg : goneO o x ⟨pn, pf, pt, pb, psp⟩ = false := by simp [goneO, ← HKAP.out]
            have ho : ownO o x ⟨pn, pf, pt, pb, psp⟩ = false := by simp [ownO, ← HKAP.out]
            obtain ⟨j, q, hj, hq, has⟩ := oth_yes HOTH.out hg false ho
            have HI := Lib.hid hj
            have HQ := Lib.hid hq
            have HAS := Lib.hid has
            clear ho hj hq has
            clear hg
            go_wp2_with (refine wpList_store_blk rfl 29 (.tmp 10) (.tmp 50) rfl wr.heap.size 29 _ _ rfl rfl (Blk.new _ _ _) rfl parcelI (by simp [Value.oneCell']) ?_; intro wz hZ gz; have T1 := bl_gr (bl_al (Below.refl wr.heap.size wr) _) gz (Nat.le_refl _); have t1 : wz.cell? ⟨g7, 1, none⟩ = some (.slice A3 m3 c3) := (HT9.out.ca T1).cell 1)
            have HIX := Lib.hid (indexf_any AllB A3 m3 c3 Tps 31 #[.pointer (some ⟨wr.heap.size, 0, none⟩)] _ wz (Lay.rd_below HRT9.out T1) (by omega) (Go.Proofs.enters_of Try.func31 (by kernel_rfl) rfl) (tst_c ⟨pn, pf, pt, pb, psp⟩ B n' c' wr.heap.size wz hZ))
            rw [HI.out] at HIX
            refine HIX.out.mono ?_
            rintro e w11 ⟨rfl, q11⟩
            have T2 := bl_ca T1 q11
            have hZ2 := hZ.ca q11
            have y0 : w11.cell? ⟨wr.heap.size, 0, none⟩ = some (.int .u64 pn) := hZ2.cell 0
            have y1 : w11.cell? ⟨wr.heap.size, 1, none⟩ = some (.int .i64 pf) := hZ2.cell 1
            have y2 : w11.cell? ⟨wr.heap.size, 2, none⟩ = some (.int .i64 pt) := hZ2.cell 2
            have y3 : w11.cell? ⟨wr.heap.size, 3, none⟩ = some (.slice B n' c') := hZ2.cell 3
            have y4 : w11.cell? ⟨wr.heap.size, 4, none⟩ = some (.bool psp) := hZ2.cell 4
            have z1 : w11.cell? ⟨w.heap.size + 1, 1, none⟩ = some (.int .i64 o.frm) := (HO9.out.ca T2).cell 1
            have z2 : w11.cell? ⟨w.heap.size + 1, 2, none⟩ = some (.int .i64 o.to) := (HO9.out.ca T2).cell 2
            have t2 : w11.cell? ⟨g7, 1, none⟩ = some (.slice A3 m3 c3) := (HT9.out.ca T2).cell 1
            have HZ2 := Lib.hid hZ2
            have HT2 := Lib.hid T2
            have HSZ := Lib.hid hZ2.lt
            clear HIX T1 q11 hZ gz t1 HI hZ2 e0 e1 e2 e3 e4
            have hj1 : j < m3 := by have := (List.getElem?_eq_some_iff.1 HQ.out).1; have := Lay.rd_len HRT9.out; omega
            have hj2 : (j : Int) < (m3 : Int) := by omega
            have hj3 : (0 : Int) ≤ (j : Int) := by omega
            obtain ⟨ad2, q2, B2, n2, c5, rfl, hq2, s2⟩ := LP_at (Lay.rd_below HRT9.out T2) hj1
            obtain rfl : q2 = q := by have h1 := HQ.out; rw [hq2] at h1; injection h1
            have f0 := s2.c0
            have f1 := s2.c1
            have f2 := s2.c2
            have f3 := s2.c3
            have f4 := s2.c4
            rw [HAS.out.frm] at f1
            rw [HAS.out.to] at f2
            rw [HAS.out.sp] at f4
            have HRB2 := Lib.hid s2.rb
            clear hq2 s2 T2
            cases psp
            · replace f4 : w11.cell? ⟨(ad2.add (j * 5)).block, (ad2.add (j * 5)).off + 4, none⟩ = some (.bool false) := f4
              go_wp2_with (refine wpList_store_blk rfl 29 (.tmp 13) (.tmp 97) rfl w11.heap.size 29 _ _ rfl rfl (Blk.new _ _ _) rfl parcelI (by simp [Value.oneCell']) ?_; intro wy hY gy; have T3 := bl_gr (bl_al (Below.refl w11.heap.size w11) _) gy (Nat.le_refl _); have v0 : wy.cell? ⟨w11.heap.size, 0, none⟩ = some (.int .u64 q2.num) := hY.cell 0; have v1 : wy.cell? ⟨w11.heap.size, 1, none⟩ = some (.int .i64 pf) := hY.cell 1; have v2 : wy.cell? ⟨w11.heap.size, 2, none⟩ = some (.int .i64 pt) := hY.cell 2; have v3 : wy.cell? ⟨w11.heap.size, 3, none⟩ = some (.slice B2 n2 c5) := hY.cell 3; have v4 : wy.cell? ⟨w11.heap.size, 4, none⟩ = some (.bool false) := hY.cell 4; have u0 : wy.cell? ⟨wr.heap.size, 0, none⟩ = some (.int .u64 pn) := (HZ2.out.ca T3).cell 0; have u1 : wy.cell? ⟨wr.heap.size, 1, none⟩ = some (.int .i64 pf) := (HZ2.out.ca T3).cell 1; have u2 : wy.cell? ⟨wr.heap.size, 2, none⟩ = some (.int .i64 pt) := (HZ2.out.ca T3).cell 2; have u3 : wy.cell? ⟨wr.heap.size, 3, none⟩ = some (.slice B n' c') := (HZ2.out.ca T3).cell 3; have u4 : wy.cell? ⟨wr.heap.size, 4, none⟩ = some (.bool false) := (HZ2.out.ca T3).cell 4; have HT3 := Lib.hid T3; clear T3 hY gy)
              refine (equal_any B2 B n2 c5 n' c' q2.bs pb _ (HRB2.out.below HT3.out) ((HRB.out.below HT2.out).below HT3.out)).mono ?_
              rintro e wx ⟨rfl, rfl⟩
              rw [HAS.out.bs]
              go_wp2
              go_roundg (gk - 1)
              · exact ⟨i + 1, by omega, by go_num, bl_ca HBW.out (bl_ca HT2.out HT3.out)⟩
              · omega
            · replace f4 : w11.cell? ⟨(ad2.add (j * 5)).block, (ad2.add (j * 5)).off + 4, none⟩ = some (.bool true) := f4
              go_wp2_with (refine wpList_store_blk rfl 29 (.tmp 13) (.tmp 97) rfl w11.heap.size 29 _ _ rfl rfl (Blk.new _ _ _) rfl parcelI (by simp [Value.oneCell']) ?_; intro wy hY gy; have T3 := bl_gr (bl_al (Below.refl w11.heap.size w11) _) gy (Nat.le_refl _); have v0 : wy.cell? ⟨w11.heap.size, 0, none⟩ = some (.int .u64 q2.num) := hY.cell 0; have v1 : wy.cell? ⟨w11.heap.size, 1, none⟩ = some (.int .i64 pf) := hY.cell 1; have v2 : wy.cell? ⟨w11.heap.size, 2, none⟩ = some (.int .i64 pt) := hY.cell 2; have v3 : wy.cell? ⟨w11.heap.size, 3, none⟩ = some (.slice B2 n2 c5) := hY.cell 3; have v4 : wy.cell? ⟨w11.heap.size, 4, none⟩ = some (.bool true) := hY.cell 4; have u0 : wy.cell? ⟨wr.heap.size, 0, none⟩ = some (.int .u64 pn) := (HZ2.out.ca T3).cell 0; have u1 : wy.cell? ⟨wr.heap.size, 1, none⟩ = some (.int .i64 pf) := (HZ2.out.ca T3).cell 1; have u2 : wy.cell? ⟨wr.heap.size, 2, none⟩ = some (.int .i64 pt) := (HZ2.out.ca T3).cell 2; have u3 : wy.cell? ⟨wr.heap.size, 3, none⟩ = some (.slice B n' c') := (HZ2.out.ca T3).cell 3; have u4 : wy.cell? ⟨wr.heap.size, 4, none⟩ = some (.bool true) := (HZ2.out.ca T3).cell 4; have HT3 := Lib.hid T3; clear T3 hY gy)
              refine (equal_any B2 B n2 c5 n' c' q2.bs pb _ (HRB2.out.below HT3.out) ((HRB.out.below HT2.out).below HT3.out)).mono ?_
              rintro e wx ⟨rfl, rfl⟩
              rw [HAS.out.bs]
              go_wp2
              go_roundg (gk - 1)
              · exact ⟨i + 1, by omega, by go_num, bl_ca HBW.out (bl_ca HT2.out HT3.out)⟩
              · omega
          · cases hx : (pn == x)
            · have hg : goneO o x ⟨pn, pf, pt, pb, psp⟩ = false := by simp [goneO, ← HKAP.out, hx]
              have ho : ownO o x ⟨pn, pf, pt, pb, psp⟩ = false := by simp [ownO, ← HKAP.out, hx]
              obtain ⟨j, q, hj, hq, has⟩ := oth_yes HOTH.out hg false ho
              have HI := Lib.hid hj
              have HQ := Lib.hid hq
              have HAS := Lib.hid has
              clear ho hj hq has
              clear hg
              go_wp2_with (refine wpList_store_blk rfl 29 (.tmp 10) (.tmp 50) rfl wr.heap.size 29 _ _ rfl rfl (Blk.new _ _ _) rfl parcelI (by simp [Value.oneCell']) ?_; intro wz hZ gz; have T1 := bl_gr (bl_al (Below.refl wr.heap.size wr) _) gz (Nat.le_refl _); have t1 : wz.cell? ⟨g7, 1, none⟩ = some (.slice A3 m3 c3) := (HT9.out.ca T1).cell 1)
              have HIX := Lib.hid (indexf_any AllB A3 m3 c3 Tps 31 #[.pointer (some ⟨wr.heap.size, 0, none⟩)] _ wz (Lay.rd_below HRT9.out T1) (by omega) (Go.Proofs.enters_of Try.func31 (by kernel_rfl) rfl) (tst_c ⟨pn, pf, pt, pb, psp⟩ B n' c' wr.heap.size wz hZ))
              rw [HI.out] at HIX
              refine HIX.out.mono ?_
              rintro e w11 ⟨rfl, q11⟩
              have T2 := bl_ca T1 q11
              have hZ2 := hZ.ca q11
              have y0 : w11.cell? ⟨wr.heap.size, 0, none⟩ = some (.int .u64 pn) := hZ2.cell 0
              have y1 : w11.cell? ⟨wr.heap.size, 1, none⟩ = some (.int .i64 pf) := hZ2.cell 1
              have y2 : w11.cell? ⟨wr.heap.size, 2, none⟩ = some (.int .i64 pt) := hZ2.cell 2
              have y3 : w11.cell? ⟨wr.heap.size, 3, none⟩ = some (.slice B n' c') := hZ2.cell 3
              have y4 : w11.cell? ⟨wr.heap.size, 4, none⟩ = some (.bool psp) := hZ2.cell 4
              have z1 : w11.cell? ⟨w.heap.size + 1, 1, none⟩ = some (.int .i64 o.frm) := (HO9.out.ca T2).cell 1
              have z2 : w11.cell? ⟨w.heap.size + 1, 2, none⟩ = some (.int .i64 o.to) := (HO9.out.ca T2).cell 2
              have t2 : w11.cell? ⟨g7, 1, none⟩ = some (.slice A3 m3 c3) := (HT9.out.ca T2).cell 1
              have HZ2 := Lib.hid hZ2
              have HT2 := Lib.hid T2
              have HSZ := Lib.hid hZ2.lt
              clear HIX T1 q11 hZ gz t1 HI hZ2 e0 e1 e2 e3 e4
              have hj1 : j < m3 := by have := (List.getElem?_eq_some_iff.1 HQ.out).1; have := Lay.rd_len HRT9.out; omega
              have hj2 : (j : Int) < (m3 : Int) := by omega
              have hj3 : (0 : Int) ≤ (j : Int) := by omega
              obtain ⟨ad2, q2, B2, n2, c5, rfl, hq2, s2⟩ := LP_at (Lay.rd_below HRT9.out T2) hj1
              obtain rfl : q2 = q := by have h1 := HQ.out; rw [hq2] at h1; injection h1
              have f0 := s2.c0
              have f1 := s2.c1
              have f2 := s2.c2
              have f3 := s2.c3
              have f4 := s2.c4
              rw [HAS.out.frm] at f1
              rw [HAS.out.to] at f2
              rw [HAS.out.sp] at f4
              have HRB2 := Lib.hid s2.rb
              clear hq2 s2 T2
              cases psp
              · replace f4 : w11.cell? ⟨(ad2.add (j * 5)).block, (ad2.add (j * 5)).off + 4, none⟩ = some (.bool false) := f4
                go_wp2_with (refine wpList_store_blk rfl 29 (.tmp 13) (.tmp 97) rfl w11.heap.size 29 _ _ rfl rfl (Blk.new _ _ _) rfl parcelI (by simp [Value.oneCell']) ?_; intro wy hY gy; have T3 := bl_gr (bl_al (Below.refl w11.heap.size w11) _) gy (Nat.le_refl _); have v0 : wy.cell? ⟨w11.heap.size, 0, none⟩ = some (.int .u64 q2.num) := hY.cell 0; have v1 : wy.cell? ⟨w11.heap.size, 1, none⟩ = some (.int .i64 pf) := hY.cell 1; have v2 : wy.cell? ⟨w11.heap.size, 2, none⟩ = some (.int .i64 pt) := hY.cell 2; have v3 : wy.cell? ⟨w11.heap.size, 3, none⟩ = some (.slice B2 n2 c5) := hY.cell 3; have v4 : wy.cell? ⟨w11.heap.size, 4, none⟩ = some (.bool false) := hY.cell 4; have u0 : wy.cell? ⟨wr.heap.size, 0, none⟩ = some (.int .u64 pn) := (HZ2.out.ca T3).cell 0; have u1 : wy.cell? ⟨wr.heap.size, 1, none⟩ = some (.int .i64 pf) := (HZ2.out.ca T3).cell 1; have u2 : wy.cell? ⟨wr.heap.size, 2, none⟩ = some (.int .i64 pt) := (HZ2.out.ca T3).cell 2; have u3 : wy.cell? ⟨wr.heap.size, 3, none⟩ = some (.slice B n' c') := (HZ2.out.ca T3).cell 3; have u4 : wy.cell? ⟨wr.heap.size, 4, none⟩ = some (.bool false) := (HZ2.out.ca T3).cell 4; have HT3 := Lib.hid T3; clear T3 hY gy)
                refine (equal_any B2 B n2 c5 n' c' q2.bs pb _ (HRB2.out.below HT3.out) ((HRB.out.below HT2.out).below HT3.out)).mono ?_
                rintro e wx ⟨rfl, rfl⟩
                rw [HAS.out.bs]
                go_wp2
                go_roundg (gk - 1)
                · exact ⟨i + 1, by omega, by go_num, bl_ca HBW.out (bl_ca HT2.out HT3.out)⟩
                · omega
              · replace f4 : w11.cell? ⟨(ad2.add (j * 5)).block, (ad2.add (j * 5)).off + 4, none⟩ = some (.bool true) := f4
                go_wp2_with (refine wpList_store_blk rfl 29 (.tmp 13) (.tmp 97) rfl w11.heap.size 29 _ _ rfl rfl (Blk.new _ _ _) rfl parcelI (by simp [Value.oneCell']) ?_; intro wy hY gy; have T3 := bl_gr (bl_al (Below.refl w11.heap.size w11) _) gy (Nat.le_refl _); have v0 : wy.cell? ⟨w11.heap.size, 0, none⟩ = some (.int .u64 q2.num) := hY.cell 0; have v1 : wy.cell? ⟨w11.heap.size, 1, none⟩ = some (.int .i64 pf) := hY.cell 1; have v2 : wy.cell? ⟨w11.heap.size, 2, none⟩ = some (.int .i64 pt) := hY.cell 2; have v3 : wy.cell? ⟨w11.heap.size, 3, none⟩ = some (.slice B2 n2 c5) := hY.cell 3; have v4 : wy.cell? ⟨w11.heap.size, 4, none⟩ = some (.bool true) := hY.cell 4; have u0 : wy.cell? ⟨wr.heap.size, 0, none⟩ = some (.int .u64 pn) := (HZ2.out.ca T3).cell 0; have u1 : wy.cell? ⟨wr.heap.size, 1, none⟩ = some (.int .i64 pf) := (HZ2.out.ca T3).cell 1; have u2 : wy.cell? ⟨wr.heap.size, 2, none⟩ = some (.int .i64 pt) := (HZ2.out.ca T3).cell 2; have u3 : wy.cell? ⟨wr.heap.size, 3, none⟩ = some (.slice B n' c') := (HZ2.out.ca T3).cell 3; have u4 : wy.cell? ⟨wr.heap.size, 4, none⟩ = some (.bool true) := (HZ2.out.ca T3).cell 4; have HT3 := Lib.hid T3; clear T3 hY gy)
                refine (equal_any B2 B n2 c5 n' c' q2.bs pb _ (HRB2.out.below HT3.out) ((HRB.out.below HT2.out).below HT3.out)).mono ?_
                rintro e wx ⟨rfl, rfl⟩
                rw [HAS.out.bs]
                go_wp2
                go_roundg (gk - 1)
                · exact ⟨i + 1, by omega, by go_num, bl_ca HBW.out (bl_ca HT2.out HT3.out)⟩
                · omega
            · have hg : goneO o x ⟨pn, pf, pt, pb, psp⟩ = false := by simp [goneO, ← HKAP.out, hx]
              have ho : ownO o x ⟨pn, pf, pt, pb, psp⟩ = true := by simp [ownO, ← HKAP.out, hx]
              obtain ⟨j, q, hj, hq, has⟩ := oth_yes HOTH.out hg true ho
              have HI := Lib.hid hj
              have HQ := Lib.hid hq
              have HAS := Lib.hid has
              clear ho hj hq has
              clear hg
              go_wp2_with (refine wpList_store_blk rfl 29 (.tmp 10) (.tmp 50) rfl wr.heap.size 29 _ _ rfl rfl (Blk.new _ _ _) rfl parcelI (by simp [Value.oneCell']) ?_; intro wz hZ gz; have T1 := bl_gr (bl_al (Below.refl wr.heap.size wr) _) gz (Nat.le_refl _); have t1 : wz.cell? ⟨g7, 1, none⟩ = some (.slice A3 m3 c3) := (HT9.out.ca T1).cell 1)
              have HIX := Lib.hid (indexf_any AllB A3 m3 c3 Tps 31 #[.pointer (some ⟨wr.heap.size, 0, none⟩)] _ wz (Lay.rd_below HRT9.out T1) (by omega) (Go.Proofs.enters_of Try.func31 (by kernel_rfl) rfl) (tst_c ⟨pn, pf, pt, pb, psp⟩ B n' c' wr.heap.size wz hZ))
              rw [HI.out] at HIX
              refine HIX.out.mono ?_
              rintro e w11 ⟨rfl, q11⟩
              have T2 := bl_ca T1 q11
              have hZ2 := hZ.ca q11
              have y0 : w11.cell? ⟨wr.heap.size, 0, none⟩ = some (.int .u64 pn) := hZ2.cell 0
              have y1 : w11.cell? ⟨wr.heap.size, 1, none⟩ = some (.int .i64 pf) := hZ2.cell 1
              have y2 : w11.cell? ⟨wr.heap.size, 2, none⟩ = some (.int .i64 pt) := hZ2.cell 2
              have y3 : w11.cell? ⟨wr.heap.size, 3, none⟩ = some (.slice B n' c') := hZ2.cell 3
              have y4 : w11.cell? ⟨wr.heap.size, 4, none⟩ = some (.bool psp) := hZ2.cell 4
              have z1 : w11.cell? ⟨w.heap.size + 1, 1, none⟩ = some (.int .i64 o.frm) := (HO9.out.ca T2).cell 1
              have z2 : w11.cell? ⟨w.heap.size + 1, 2, none⟩ = some (.int .i64 o.to) := (HO9.out.ca T2).cell 2
              have t2 : w11.cell? ⟨g7, 1, none⟩ = some (.slice A3 m3 c3) := (HT9.out.ca T2).cell 1
              have HZ2 := Lib.hid hZ2
              have HT2 := Lib.hid T2
              have HSZ := Lib.hid hZ2.lt
              clear HIX T1 q11 hZ gz t1 HI hZ2 e0 e1 e2 e3 e4
              have hj1 : j < m3 := by have := (List.getElem?_eq_some_iff.1 HQ.out).1; have := Lay.rd_len HRT9.out; omega
              have hj2 : (j : Int) < (m3 : Int) := by omega
              have hj3 : (0 : Int) ≤ (j : Int) := by omega
              obtain ⟨ad2, q2, B2, n2, c5, rfl, hq2, s2⟩ := LP_at (Lay.rd_below HRT9.out T2) hj1
              obtain rfl : q2 = q := by have h1 := HQ.out; rw [hq2] at h1; injection h1
              have f0 := s2.c0
              have f1 := s2.c1
              have f2 := s2.c2
              have f3 := s2.c3
              have f4 := s2.c4
              rw [HAS.out.frm] at f1
              rw [HAS.out.to] at f2
              rw [HAS.out.sp] at f4
              have HRB2 := Lib.hid s2.rb
              clear hq2 s2 T2
              cases psp
              · replace f4 : w11.cell? ⟨(ad2.add (j * 5)).block, (ad2.add (j * 5)).off + 4, none⟩ = some (.bool true) := f4
                go_wp2_with (refine wpList_store_blk rfl 29 (.tmp 13) (.tmp 97) rfl w11.heap.size 29 _ _ rfl rfl (Blk.new _ _ _) rfl parcelI (by simp [Value.oneCell']) ?_; intro wy hY gy; have T3 := bl_gr (bl_al (Below.refl w11.heap.size w11) _) gy (Nat.le_refl _); have v0 : wy.cell? ⟨w11.heap.size, 0, none⟩ = some (.int .u64 q2.num) := hY.cell 0; have v1 : wy.cell? ⟨w11.heap.size, 1, none⟩ = some (.int .i64 pf) := hY.cell 1; have v2 : wy.cell? ⟨w11.heap.size, 2, none⟩ = some (.int .i64 pt) := hY.cell 2; have v3 : wy.cell? ⟨w11.heap.size, 3, none⟩ = some (.slice B2 n2 c5) := hY.cell 3; have v4 : wy.cell? ⟨w11.heap.size, 4, none⟩ = some (.bool true) := hY.cell 4; have u0 : wy.cell? ⟨wr.heap.size, 0, none⟩ = some (.int .u64 pn) := (HZ2.out.ca T3).cell 0; have u1 : wy.cell? ⟨wr.heap.size, 1, none⟩ = some (.int .i64 pf) := (HZ2.out.ca T3).cell 1; have u2 : wy.cell? ⟨wr.heap.size, 2, none⟩ = some (.int .i64 pt) := (HZ2.out.ca T3).cell 2; have u3 : wy.cell? ⟨wr.heap.size, 3, none⟩ = some (.slice B n' c') := (HZ2.out.ca T3).cell 3; have u4 : wy.cell? ⟨wr.heap.size, 4, none⟩ = some (.bool false) := (HZ2.out.ca T3).cell 4; have HT3 := Lib.hid T3; clear T3 hY gy)
                refine (equal_any B2 B n2 c5 n' c' q2.bs pb _ (HRB2.out.below HT3.out) ((HRB.out.below HT2.out).below HT3.out)).mono ?_
                rintro e wx ⟨rfl, rfl⟩
                rw [HAS.out.bs]
                go_wp2
                go_roundg (gk - 1)
                · exact ⟨i + 1, by omega, by go_num, bl_ca HBW.out (bl_ca HT2.out HT3.out)⟩
                · omega
              · replace f4 : w11.cell? ⟨(ad2.add (j * 5)).block, (ad2.add (j * 5)).off + 4, none⟩ = some (.bool true) := f4
                go_wp2_with (refine wpList_store_blk rfl 29 (.tmp 13) (.tmp 97) rfl w11.heap.size 29 _ _ rfl rfl (Blk.new _ _ _) rfl parcelI (by simp [Value.oneCell']) ?_; intro wy hY gy; have T3 := bl_gr (bl_al (Below.refl w11.heap.size w11) _) gy (Nat.le_refl _); have v0 : wy.cell? ⟨w11.heap.size, 0, none⟩ = some (.int .u64 q2.num) := hY.cell 0; have v1 : wy.cell? ⟨w11.heap.size, 1, none⟩ = some (.int .i64 pf) := hY.cell 1; have v2 : wy.cell? ⟨w11.heap.size, 2, none⟩ = some (.int .i64 pt) := hY.cell 2; have v3 : wy.cell? ⟨w11.heap.size, 3, none⟩ = some (.slice B2 n2 c5) := hY.cell 3; have v4 : wy.cell? ⟨w11.heap.size, 4, none⟩ = some (.bool true) := hY.cell 4; have u0 : wy.cell? ⟨wr.heap.size, 0, none⟩ = some (.int .u64 pn) := (HZ2.out.ca T3).cell 0; have u1 : wy.cell? ⟨wr.heap.size, 1, none⟩ = some (.int .i64 pf) := (HZ2.out.ca T3).cell 1; have u2 : wy.cell? ⟨wr.heap.size, 2, none⟩ = some (.int .i64 pt) := (HZ2.out.ca T3).cell 2; have u3 : wy.cell? ⟨wr.heap.size, 3, none⟩ = some (.slice B n' c') := (HZ2.out.ca T3).cell 3; have u4 : wy.cell? ⟨wr.heap.size, 4, none⟩ = some (.bool true) := (HZ2.out.ca T3).cell 4; have HT3 := Lib.hid T3; clear T3 hY gy)
                refine (equal_any B2 B n2 c5 n' c' q2.bs pb _ (HRB2.out.below HT3.out) ((HRB.out.below HT2.out).below HT3.out)).mono ?_
                rintro e wx ⟨rfl, rfl⟩
                rw [HAS.out.bs]
                go_wp2
                go_roundg (gk - 1)
                · exact ⟨i + 1, by omega, by go_num, bl_ca HBW.out (bl_ca HT2.out HT3.out)⟩
                · omega
        · obtain rfl : i = m2 := by omega
          have hi1 : (i : Int) ≤ (i : Int) := by omega
          have hle : (m3 : Int) ≤ (i : Int) + 1 := by
            have := HOT2.out.2
            have := HM3.out
            have := Lay.rd_len HR4.out
            omega
          have t1 : wr.cell? ⟨g7, 1, none⟩ = some (.slice A3 m3 c3) := HT9.out.cell 1
          have t2 : wr.cell? ⟨g3, 1, none⟩ = some (.slice A2 i c2) := HN9.out.cell 1
          clear hbw
          go_wp2
          go_ret
          exact ⟨rfl, HBB9.out⟩
    · obtain ⟨rfl, hps⟩ := HZE.out hte
      have hm0 : m3 = 0 := by rw [HM3.out, hps]; rfl
      subst hm0
      have hte2 : (Te != 0) = true := by simpa using hte
      have hte3 : (Te == 0) = false := by simpa using hte
      clear hte HOT HZE hps HRT
      go_wp2
      go_ret
      exact ⟨rfl, HBB.out⟩
end Go.Proofs.Ytnbcffnhgijmcaa
