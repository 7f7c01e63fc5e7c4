/- bowspritref24.Right. Conditions: the slice reads as these parcels. -/
import Derived.Test.YtnbcffnhgijmcaaPkB14
import Derived.Deep.QuietTactic
import Derived.BigQuiet
import Derived.IntWalk
namespace Go.Proofs.Ytnbcffnhgijmcaa
open Go.RowKit
def lastN (ps : List PC) (i : Nat) : Int := if i = 0 then 0 else ((ps[i - 1]?).getD ⟨0, 0, 0, [], false⟩).num
theorem lastN_succ {ps : List PC} {i : Nat} {p : PC} (h : ps[i]? = some p) : lastN ps (i + 1) = p.num := by
  unfold lastN
  rw [if_neg (by omega), Nat.add_sub_cancel, h]; rfl
theorem go_false {sent : Int} {ps : List PC} {i : Nat} {p : PC} (h : ps[i]? = some p) (hp : parB sent (lastN ps i) p = false) : goB sent (lastN ps i) (ps.drop i) = false := by
  rw [drop_at h]
  unfold goB
  rw [hp]; rfl
theorem go_true {sent : Int} {ps : List PC} {i : Nat} {p : PC} (h : ps[i]? = some p) (hp : parB sent (lastN ps i) p = true) : goB sent (lastN ps i) (ps.drop i) = goB sent (lastN ps (i + 1)) (ps.drop (i + 1)) := by
  rw [drop_at h, lastN_succ h]
  show (parB sent (lastN ps i) p && goB sent p.num (ps.drop (i + 1))) = _
  rw [hp]; rfl
theorem go_end (sent last : Int) {ps : List PC} {i : Nat} (h : ps.length ≤ i) : goB sent last (ps.drop i) = true := by rw [List.drop_of_length_le h]; rfl
theorem rpair_v {f t : Int} {b : Bool} (h : pairB f t = b) (w : World) : Calls Try.prog 45 #[.int .i64 f, .int .i64 t] w fun e w' => e = .returned (.bool b) ∧ w' = w := by
  have := rpair_any f t w
  rw [h] at this
  exact this.mono fun _ _ h => ⟨h.1, h.2.symm⟩
set_option maxRecDepth 100000 in
set_option maxHeartbeats 32000000 in
theorem right_any (sent : Int) (A : Option Addr) (m c : Nat) (ps : List PC) (w : World) (h : LP.rd w AllB A m ps) (hm : m ≤ 9223372036854775807) :
    Calls Try.prog 33 #[.agg #[.int .u64 sent, .slice A m c]] w fun e w' => e = .returned (.bool (chkB sent ps)) ∧ Below w.heap.size w w' := by
  obtain ⟨r, hr⟩ : ∃ r, r = chkB sent ps := ⟨_, rfl⟩
  rw [← hr]
  have HL := Lib.hid h.1
  have HR := Lib.hid hr
  clear hr
  have bb := bl_al (Below.refl w.heap.size w) (.cells #[.int .u64 sent, .slice A m c] 26)
  have bN := Blk.new w 26 #[.int .u64 sent, .slice A m c]
  by_cases h1 : sent ≤ 1099511627776
  case neg =>
    have d1 : decide (1099511627776 < sent) = true := by simp; omega
    have HF := Lib.hid (show r = false from by rw [HR.out]; unfold chkB; rw [decide_eq_false h1]; rfl)
    clear h1 h
    go_enter Try.func33, Try.ntmps33
    go_wp2
    go_ret
    exact ⟨ret_bool HF.out.symm, bb⟩
  have d1 : decide (1099511627776 < sent) = false := by simp; omega
  by_cases h2 : m ≤ 20000
  case neg =>
    have d2 : (20000 : Int) < (m : Int) := by omega
    have HF := Lib.hid (show r = false from by rw [HR.out]; unfold chkB; rw [show decide ((ps.length : Int) ≤ 20000) = false from decide_eq_false (by have := HL.out; omega)]; simp)
    clear h1 h2 h
    go_enter Try.func33, Try.ntmps33
    go_wp2
    go_ret
    exact ⟨ret_bool HF.out.symm, bb⟩
  have d2 : (m : Int) ≤ 20000 := by omega
  have HG := Lib.hid (show r = goB sent (lastN ps 0) (ps.drop 0) from by rw [HR.out]; unfold chkB; rw [decide_eq_true h1, decide_eq_true (show (ps.length : Int) ≤ 20000 by have := HL.out; omega)]; rfl)
  clear h1
  go_enter Try.func33, Try.ntmps33
  go_wp2_with fail
  generalize w.alloc (.cells #[.int .u64 sent, .slice A m c] 26) = w1 at *
  clear d1
  go_loopg [17] m (fun g a wr => ∃ i : Nat, i + g = m ∧ a = .int .i64 i ∧ Hid (r = goB sent (lastN ps i) (ps.drop i)) ∧ (0 < i → 1 ≤ lastN ps i) ∧ Below w1.heap.size w1 wr)
  case atStart => exact ⟨0, by omega, rfl, HG, fun h => by omega, Below.refl _ _⟩
  case round =>
    obtain ⟨i, hig, rfl, HB, hpos, b0⟩ := hrel
    have HPOS := Lib.hid hpos
    clear hpos
    have HN := Lib.hid (bN.ca b0)
    have HBB := Lib.hid (bl_ca bb b0)
    have HB0 := Lib.hid b0
    by_cases hlt : i < m
    · have hi1 : (i : Int) < (m : Int) := by omega
      have hi2 : (i : Int) ≤ 20000 := by omega
      obtain ⟨ad, p, B, n', c', rfl, hx, s1⟩ := LP_at (Lay.rd_below (Lay.rd_below h bb) b0) hlt
      have e0 := s1.c0
      have e1 := s1.c1
      have e2 := s1.c2
      have e3 := s1.c3
      have e4 := s1.c4
      have hbl := s1.len
      have HX := Lib.hid hx
      have HBL := Lib.hid hbl
      obtain ⟨i1, hi1e⟩ : ∃ i1, i1 = i - 1 := ⟨_, rfl⟩
      have HI1 := Lib.hid hi1e
      have hi1m : i1 < m := by omega
      clear hi1e
      have HPV := Lib.hid (fun (wz : World) (q : Below wr.heap.size wr wz) => LP_at (Lay.rd_below (Lay.rd_below (Lay.rd_below h bb) b0) q) hi1m)
      clear hx s1 b0 hbl
      obtain ⟨pn, pf, pt, pb, psp⟩ := p
      dsimp only at e0 e1 e2 e3 e4 HBL
      have HST := Lib.hid (fun wz (hZ : Blk wz wr.heap.size 29 #[.int .u64 pn, .int .i64 pf, .int .i64 pt, .slice B n' c', .bool psp]) (q : Below wr.heap.size wr wz) => show wz.cell? ⟨w.heap.size, 0, none⟩ = some (.int .u64 sent) ∧ wz.cell? ⟨w.heap.size, 1, none⟩ = some (.slice (some ad) m c) ∧ wz.cell? ⟨wr.heap.size, 0, none⟩ = some (.int .u64 pn) ∧ wz.cell? ⟨wr.heap.size, 1, none⟩ = some (.int .i64 pf) ∧ wz.cell? ⟨wr.heap.size, 2, none⟩ = some (.int .i64 pt) ∧ wz.cell? ⟨wr.heap.size, 3, none⟩ = some (.slice B n' c') ∧ wz.cell? ⟨wr.heap.size, 4, none⟩ = some (.bool psp) from ⟨(HN.out.ca q).cell 0, (HN.out.ca q).cell 1, hZ.cell 0, hZ.cell 1, hZ.cell 2, hZ.cell 3, hZ.cell 4⟩)
      by_cases t1 : pn < 1
      case pos =>
        have d1 : decide (pn < 1) = true := decide_eq_true t1
        have HPR := Lib.hid (rpair_v (f := pf) (t := pt) rfl)
        have hlow : ¬ lastN ps i < pn := by exact (Nat.eq_zero_or_pos i).elim (fun h0 => by rw [h0]; unfold lastN; simp; omega) (fun h0 => by have := HPOS.out h0; omega)
        have HLO := Lib.hid hlow
        clear hlow t1
        have HF := Lib.hid (show r = false from by rw [HB.out]; exact go_false HX.out (by unfold parB; simp [HLO.out]))
        go_wp2_with (refine wpList_store_blk rfl 29 (.tmp 4) (.tmp 21) rfl wr.heap.size 29 _ _ rfl rfl (Blk.new _ _ _) rfl parcelI (by simp [Value.oneCell']) ?_; intro wz hZ gz; have T1 := bl_gr (bl_al (Below.refl wr.heap.size wr) _) gz (Nat.le_refl _); obtain ⟨s0, s1, x0, x1, x2, x3, x4⟩ := HST.out wz hZ T1; have HT1 := Lib.hid T1; clear hZ gz T1)
        try simp only [Act.put]
        go_quiet ((go_at_call 45; exact Calls.quiet_of_same (HPR.out _)))
        go_wp2
        go_ret
        exact ⟨ret_bool HF.out.symm, bl_dr (bl_ca HBB.out HT1.out) _⟩
      have d1 : decide (pn < 1) = false := decide_eq_false t1
      by_cases t2 : sent < pn
      case pos =>
        have d2 : decide (sent < pn) = true := decide_eq_true t2
        have HPR := Lib.hid (rpair_v (f := pf) (t := pt) rfl)
        have HLO := Lib.hid (show ¬ pn ≤ sent by omega)
        clear t1 t2
        have HF := Lib.hid (show r = false from by rw [HB.out]; exact go_false HX.out (by unfold parB; simp [HLO.out]))
        go_wp2_with (refine wpList_store_blk rfl 29 (.tmp 4) (.tmp 21) rfl wr.heap.size 29 _ _ rfl rfl (Blk.new _ _ _) rfl parcelI (by simp [Value.oneCell']) ?_; intro wz hZ gz; have T1 := bl_gr (bl_al (Below.refl wr.heap.size wr) _) gz (Nat.le_refl _); obtain ⟨s0, s1, x0, x1, x2, x3, x4⟩ := HST.out wz hZ T1; have HT1 := Lib.hid T1; clear hZ gz T1)
        try simp only [Act.put]
        go_quiet ((go_at_call 45; exact Calls.quiet_of_same (HPR.out _)))
        go_wp2
        go_ret
        exact ⟨ret_bool HF.out.symm, bl_dr (bl_ca HBB.out HT1.out) _⟩
      have d2 : decide (sent < pn) = false := decide_eq_false t2
      have h1n : 1 ≤ pn := by omega
      have hns : pn ≤ sent := by omega
      rcases Nat.eq_zero_or_pos i with hi0 | hi0
      · have d3c : decide (0 < i) = false := by subst hi0; rfl
        have HI0 := Lib.hid hi0
        clear hi0
        have HLOW := Lib.hid (show lastN ps i < pn from by rw [HI0.out]; unfold lastN; simp; omega)
        cases hp : pairB pf pt
        case false =>
          have HPR := Lib.hid (rpair_v hp)
          have HPP := Lib.hid hp
          clear hp t1 t2 h1n hns
          have HF := Lib.hid (show r = false from by rw [HB.out]; exact go_false HX.out (by unfold parB; simp [HPP.out]))
          go_wp2_with (refine wpList_store_blk rfl 29 (.tmp 4) (.tmp 21) rfl wr.heap.size 29 _ _ rfl rfl (Blk.new _ _ _) rfl parcelI (by simp [Value.oneCell']) ?_; intro wz hZ gz; have T1 := bl_gr (bl_al (Below.refl wr.heap.size wr) _) gz (Nat.le_refl _); obtain ⟨s0, s1, x0, x1, x2, x3, x4⟩ := HST.out wz hZ T1; have HT1 := Lib.hid T1; clear hZ gz T1)
          try simp only [Act.put]
          go_quiet ((go_at_call 45; exact Calls.quiet_of_same (HPR.out _)))
          go_wp2
          go_ret
          exact ⟨ret_bool HF.out.symm, bl_dr (bl_ca HBB.out HT1.out) _⟩
        have HPR := Lib.hid (rpair_v hp)
        have HPP := Lib.hid hp
        clear hp
        by_cases t5 : 60000 < n'
        case pos =>
          have d5 : (60000 : Int) < (n' : Int) := by omega
          have HNB := Lib.hid (show decide ((pb.length : Int) ≤ 60000) = false from decide_eq_false (by have := HBL.out; omega))
          clear t1 t2 h1n hns
          have HF := Lib.hid (show r = false from by rw [HB.out]; exact go_false HX.out (by unfold parB; simp only [HNB.out]; simp))
          go_wp2_with (refine wpList_store_blk rfl 29 (.tmp 4) (.tmp 21) rfl wr.heap.size 29 _ _ rfl rfl (Blk.new _ _ _) rfl parcelI (by simp [Value.oneCell']) ?_; intro wz hZ gz; have T1 := bl_gr (bl_al (Below.refl wr.heap.size wr) _) gz (Nat.le_refl _); obtain ⟨s0, s1, x0, x1, x2, x3, x4⟩ := HST.out wz hZ T1; have HT1 := Lib.hid T1; clear hZ gz T1)
          try simp only [Act.put]
          go_quiet ((go_at_call 45; exact Calls.quiet_of_same (HPR.out _)))
          go_wp2
          go_ret
          exact ⟨ret_bool HF.out.symm, bl_dr (bl_ca HBB.out HT1.out) _⟩
        have d5 : decide ((60000 : Int) < (n' : Int)) = false := by simp; omega
        have HNB := Lib.hid (show decide ((pb.length : Int) ≤ 60000) = true from decide_eq_true (by have := HBL.out; omega))
        have HNS := Lib.hid hns
        have H1N := Lib.hid h1n
        cases psp
        case false =>
          clear t1 t2 hns
          have HF := Lib.hid (show r = goB sent (lastN ps (i + 1)) (ps.drop (i + 1)) from by rw [HB.out]; exact go_true HX.out (by unfold parB; simp only [decide_eq_true HLOW.out, decide_eq_true HNS.out, HPP.out, HNB.out]; simp))
          have HLN := Lib.hid (show 1 ≤ lastN ps (i + 1) from by rw [lastN_succ HX.out]; dsimp only; omega)
          go_wp2_with (refine wpList_store_blk rfl 29 (.tmp 4) (.tmp 21) rfl wr.heap.size 29 _ _ rfl rfl (Blk.new _ _ _) rfl parcelI (by simp [Value.oneCell']) ?_; intro wz hZ gz; have T1 := bl_gr (bl_al (Below.refl wr.heap.size wr) _) gz (Nat.le_refl _); obtain ⟨s0, s1, x0, x1, x2, x3, x4⟩ := HST.out wz hZ T1; have HT1 := Lib.hid T1; clear hZ gz T1)
          try simp only [Act.put]
          go_quiet ((go_at_call 45; exact Calls.quiet_of_same (HPR.out _)))
          go_wp2
          go_roundg (gk - 1)
          · exact ⟨i + 1, by omega, by go_num, HF, fun _ => HLN.out, bl_dr (bl_ca HB0.out HT1.out) _⟩
          · omega
        rcases Nat.eq_zero_or_pos n' with hn0 | hn0
        · have HZ := Lib.hid (show ¬ (0 : Int) < (pb.length : Int) from by have := HBL.out; omega)
          subst hn0
          clear t1 t2 hns h1n
          have HF := Lib.hid (show r = false from by rw [HB.out]; exact go_false HX.out (by unfold parB; simp only [decide_eq_false HZ.out]; simp))
          go_wp2_with (refine wpList_store_blk rfl 29 (.tmp 4) (.tmp 21) rfl wr.heap.size 29 _ _ rfl rfl (Blk.new _ _ _) rfl parcelI (by simp [Value.oneCell']) ?_; intro wz hZ gz; have T1 := bl_gr (bl_al (Below.refl wr.heap.size wr) _) gz (Nat.le_refl _); obtain ⟨s0, s1, x0, x1, x2, x3, x4⟩ := HST.out wz hZ T1; have HT1 := Lib.hid T1; clear hZ gz T1)
          try simp only [Act.put]
          go_quiet ((go_at_call 45; exact Calls.quiet_of_same (HPR.out _)))
          go_wp2
          go_ret
          exact ⟨ret_bool HF.out.symm, bl_dr (bl_ca HBB.out HT1.out) _⟩
        · have HZ := Lib.hid (show (0 : Int) < (pb.length : Int) from by have := HBL.out; omega)
          have hn1 : ((n' : Int) == 0) = false := by simp; omega
          clear t1 t2 hns
          have HF := Lib.hid (show r = goB sent (lastN ps (i + 1)) (ps.drop (i + 1)) from by rw [HB.out]; exact go_true HX.out (by unfold parB; simp only [decide_eq_true HLOW.out, decide_eq_true HNS.out, HPP.out, HNB.out, decide_eq_true HZ.out]; simp))
          have HLN := Lib.hid (show 1 ≤ lastN ps (i + 1) from by rw [lastN_succ HX.out]; dsimp only; omega)
          go_wp2_with (refine wpList_store_blk rfl 29 (.tmp 4) (.tmp 21) rfl wr.heap.size 29 _ _ rfl rfl (Blk.new _ _ _) rfl parcelI (by simp [Value.oneCell']) ?_; intro wz hZ gz; have T1 := bl_gr (bl_al (Below.refl wr.heap.size wr) _) gz (Nat.le_refl _); obtain ⟨s0, s1, x0, x1, x2, x3, x4⟩ := HST.out wz hZ T1; have HT1 := Lib.hid T1; clear hZ gz T1)
          try simp only [Act.put]
          go_quiet ((go_at_call 45; exact Calls.quiet_of_same (HPR.out _)))
          go_wp2
          go_roundg (gk - 1)
          · exact ⟨i + 1, by omega, by go_num, HF, fun _ => HLN.out, bl_dr (bl_ca HB0.out HT1.out) _⟩
          · omega
      · have d3 : (0 : Int) < (i : Int) := by omega
        obtain ⟨pv0, hpv0⟩ : ∃ pv0, ps[i1]? = some pv0 := ⟨_, List.getElem?_eq_getElem (by have := HL.out; omega)⟩
        have HPV0 := Lib.hid hpv0
        have HLV := Lib.hid (show lastN ps i = pv0.num from by unfold lastN; rw [if_neg (by omega), ← HI1.out, hpv0]; rfl)
        clear hpv0
        by_cases t3 : pn ≤ pv0.num
        case pos =>
          have d4 : decide (pn ≤ pv0.num) = true := decide_eq_true t3
          have HPR := Lib.hid (rpair_v (f := pf) (t := pt) rfl)
          have HLO := Lib.hid (show ¬ lastN ps i < pn from by rw [HLV.out]; omega)
          clear t1 t2 t3 h1n hns
          have HF := Lib.hid (show r = false from by rw [HB.out]; exact go_false HX.out (by unfold parB; simp [HLO.out]))
          go_wp2_with (refine wpList_store_blk rfl 29 (.tmp 4) (.tmp 21) rfl wr.heap.size 29 _ _ rfl rfl (Blk.new _ _ _) rfl parcelI (by simp [Value.oneCell']) ?_; intro wz hZ gz; have T1 := bl_gr (bl_al (Below.refl wr.heap.size wr) _) gz (Nat.le_refl _); obtain ⟨s0, s1, x0, x1, x2, x3, x4⟩ := HST.out wz hZ T1; have HT1 := Lib.hid T1; clear hZ gz T1)
          try simp only [Act.put]
          obtain ⟨_, pv, Bv, nv, cv, hadv, hxv, sv⟩ := HPV.out wz HT1.out
          injection hadv with hadv
          subst hadv
          have v0 := sv.c0
          obtain rfl : pv = pv0 := by have h9 := HPV0.out; rw [hxv] at h9; injection h9
          have hw : IntKind.i64.wrap ((i : Int) - 1) = (i1 : Int) := by have h9 := HI1.out; rw [IntWalk.i64_in _ (by omega)]; omega
          have hi1n : (i1 : Int) < (m : Int) := by omega
          clear hxv sv
          go_quiet ((go_at_call 45; exact Calls.quiet_of_same (HPR.out _)))
          go_wp2
          go_ret
          exact ⟨ret_bool HF.out.symm, bl_dr (bl_ca HBB.out HT1.out) _⟩
        have d4 : decide (pn ≤ pv0.num) = false := decide_eq_false t3
        have HLOW := Lib.hid (show lastN ps i < pn from by rw [HLV.out]; omega)
        cases hp : pairB pf pt
        case false =>
          have HPR := Lib.hid (rpair_v hp)
          have HPP := Lib.hid hp
          clear hp t1 t2 h1n hns
          have HF := Lib.hid (show r = false from by rw [HB.out]; exact go_false HX.out (by unfold parB; simp [HPP.out]))
          go_wp2_with (refine wpList_store_blk rfl 29 (.tmp 4) (.tmp 21) rfl wr.heap.size 29 _ _ rfl rfl (Blk.new _ _ _) rfl parcelI (by simp [Value.oneCell']) ?_; intro wz hZ gz; have T1 := bl_gr (bl_al (Below.refl wr.heap.size wr) _) gz (Nat.le_refl _); obtain ⟨s0, s1, x0, x1, x2, x3, x4⟩ := HST.out wz hZ T1; have HT1 := Lib.hid T1; clear hZ gz T1)
          try simp only [Act.put]
          obtain ⟨_, pv, Bv, nv, cv, hadv, hxv, sv⟩ := HPV.out wz HT1.out
          injection hadv with hadv
          subst hadv
          have v0 := sv.c0
          obtain rfl : pv = pv0 := by have h9 := HPV0.out; rw [hxv] at h9; injection h9
          have hw : IntKind.i64.wrap ((i : Int) - 1) = (i1 : Int) := by have h9 := HI1.out; rw [IntWalk.i64_in _ (by omega)]; omega
          have hi1n : (i1 : Int) < (m : Int) := by omega
          clear hxv sv
          go_quiet ((go_at_call 45; exact Calls.quiet_of_same (HPR.out _)))
          go_wp2
          go_ret
          exact ⟨ret_bool HF.out.symm, bl_dr (bl_ca HBB.out HT1.out) _⟩
        have HPR := Lib.hid (rpair_v hp)
        have HPP := Lib.hid hp
        clear hp
        by_cases t5 : 60000 < n'
        case pos =>
          have d5 : (60000 : Int) < (n' : Int) := by omega
          have HNB := Lib.hid (show decide ((pb.length : Int) ≤ 60000) = false from decide_eq_false (by have := HBL.out; omega))
          clear t1 t2 h1n hns
          have HF := Lib.hid (show r = false from by rw [HB.out]; exact go_false HX.out (by unfold parB; simp only [HNB.out]; simp))
          go_wp2_with (refine wpList_store_blk rfl 29 (.tmp 4) (.tmp 21) rfl wr.heap.size 29 _ _ rfl rfl (Blk.new _ _ _) rfl parcelI (by simp [Value.oneCell']) ?_; intro wz hZ gz; have T1 := bl_gr (bl_al (Below.refl wr.heap.size wr) _) gz (Nat.le_refl _); obtain ⟨s0, s1, x0, x1, x2, x3, x4⟩ := HST.out wz hZ T1; have HT1 := Lib.hid T1; clear hZ gz T1)
          try simp only [Act.put]
          obtain ⟨_, pv, Bv, nv, cv, hadv, hxv, sv⟩ := HPV.out wz HT1.out
          injection hadv with hadv
          subst hadv
          have v0 := sv.c0
          obtain rfl : pv = pv0 := by have h9 := HPV0.out; rw [hxv] at h9; injection h9
          have hw : IntKind.i64.wrap ((i : Int) - 1) = (i1 : Int) := by have h9 := HI1.out; rw [IntWalk.i64_in _ (by omega)]; omega
          have hi1n : (i1 : Int) < (m : Int) := by omega
          clear hxv sv
          go_quiet ((go_at_call 45; exact Calls.quiet_of_same (HPR.out _)))
          go_wp2
          go_ret
          exact ⟨ret_bool HF.out.symm, bl_dr (bl_ca HBB.out HT1.out) _⟩
        have d5 : decide ((60000 : Int) < (n' : Int)) = false := by simp; omega
        have HNB := Lib.hid (show decide ((pb.length : Int) ≤ 60000) = true from decide_eq_true (by have := HBL.out; omega))
        have HNS := Lib.hid hns
        have H1N := Lib.hid h1n
        cases psp
        case false =>
          clear t1 t2 hns
          have HF := Lib.hid (show r = goB sent (lastN ps (i + 1)) (ps.drop (i + 1)) from by rw [HB.out]; exact go_true HX.out (by unfold parB; simp only [decide_eq_true HLOW.out, decide_eq_true HNS.out, HPP.out, HNB.out]; simp))
          have HLN := Lib.hid (show 1 ≤ lastN ps (i + 1) from by rw [lastN_succ HX.out]; dsimp only; omega)
          go_wp2_with (refine wpList_store_blk rfl 29 (.tmp 4) (.tmp 21) rfl wr.heap.size 29 _ _ rfl rfl (Blk.new _ _ _) rfl parcelI (by simp [Value.oneCell']) ?_; intro wz hZ gz; have T1 := bl_gr (bl_al (Below.refl wr.heap.size wr) _) gz (Nat.le_refl _); obtain ⟨s0, s1, x0, x1, x2, x3, x4⟩ := HST.out wz hZ T1; have HT1 := Lib.hid T1; clear hZ gz T1)
          try simp only [Act.put]
          obtain ⟨_, pv, Bv, nv, cv, hadv, hxv, sv⟩ := HPV.out wz HT1.out
          injection hadv with hadv
          subst hadv
          have v0 := sv.c0
          obtain rfl : pv = pv0 := by have h9 := HPV0.out; rw [hxv] at h9; injection h9
          have hw : IntKind.i64.wrap ((i : Int) - 1) = (i1 : Int) := by have h9 := HI1.out; rw [IntWalk.i64_in _ (by omega)]; omega
          have hi1n : (i1 : Int) < (m : Int) := by omega
          clear hxv sv
          go_quiet ((go_at_call 45; exact Calls.quiet_of_same (HPR.out _)))
          go_wp2
          go_roundg (gk - 1)
          · exact ⟨i + 1, by omega, by go_num, HF, fun _ => HLN.out, bl_dr (bl_ca HB0.out HT1.out) _⟩
          · omega
        rcases Nat.eq_zero_or_pos n' with hn0 | hn0
        · have HZ := Lib.hid (show ¬ (0 : Int) < (pb.length : Int) from by have := HBL.out; omega)
          subst hn0
          clear t1 t2 hns h1n
          have HF := Lib.hid (show r = false from by rw [HB.out]; exact go_false HX.out (by unfold parB; simp only [decide_eq_false HZ.out]; simp))
          go_wp2_with (refine wpList_store_blk rfl 29 (.tmp 4) (.tmp 21) rfl wr.heap.size 29 _ _ rfl rfl (Blk.new _ _ _) rfl parcelI (by simp [Value.oneCell']) ?_; intro wz hZ gz; have T1 := bl_gr (bl_al (Below.refl wr.heap.size wr) _) gz (Nat.le_refl _); obtain ⟨s0, s1, x0, x1, x2, x3, x4⟩ := HST.out wz hZ T1; have HT1 := Lib.hid T1; clear hZ gz T1)
          try simp only [Act.put]
          obtain ⟨_, pv, Bv, nv, cv, hadv, hxv, sv⟩ := HPV.out wz HT1.out
          injection hadv with hadv
          subst hadv
          have v0 := sv.c0
          obtain rfl : pv = pv0 := by have h9 := HPV0.out; rw [hxv] at h9; injection h9
          have hw : IntKind.i64.wrap ((i : Int) - 1) = (i1 : Int) := by have h9 := HI1.out; rw [IntWalk.i64_in _ (by omega)]; omega
          have hi1n : (i1 : Int) < (m : Int) := by omega
          clear hxv sv
          go_quiet ((go_at_call 45; exact Calls.quiet_of_same (HPR.out _)))
          go_wp2
          go_ret
          exact ⟨ret_bool HF.out.symm, bl_dr (bl_ca HBB.out HT1.out) _⟩
        · have HZ := Lib.hid (show (0 : Int) < (pb.length : Int) from by have := HBL.out; omega)
          have hn1 : ((n' : Int) == 0) = false := by simp; omega
          clear t1 t2 hns
          have HF := Lib.hid (show r = goB sent (lastN ps (i + 1)) (ps.drop (i + 1)) from by rw [HB.out]; exact go_true HX.out (by unfold parB; simp only [decide_eq_true HLOW.out, decide_eq_true HNS.out, HPP.out, HNB.out, decide_eq_true HZ.out]; simp))
          have HLN := Lib.hid (show 1 ≤ lastN ps (i + 1) from by rw [lastN_succ HX.out]; dsimp only; omega)
          go_wp2_with (refine wpList_store_blk rfl 29 (.tmp 4) (.tmp 21) rfl wr.heap.size 29 _ _ rfl rfl (Blk.new _ _ _) rfl parcelI (by simp [Value.oneCell']) ?_; intro wz hZ gz; have T1 := bl_gr (bl_al (Below.refl wr.heap.size wr) _) gz (Nat.le_refl _); obtain ⟨s0, s1, x0, x1, x2, x3, x4⟩ := HST.out wz hZ T1; have HT1 := Lib.hid T1; clear hZ gz T1)
          try simp only [Act.put]
          obtain ⟨_, pv, Bv, nv, cv, hadv, hxv, sv⟩ := HPV.out wz HT1.out
          injection hadv with hadv
          subst hadv
          have v0 := sv.c0
          obtain rfl : pv = pv0 := by have h9 := HPV0.out; rw [hxv] at h9; injection h9
          have hw : IntKind.i64.wrap ((i : Int) - 1) = (i1 : Int) := by have h9 := HI1.out; rw [IntWalk.i64_in _ (by omega)]; omega
          have hi1n : (i1 : Int) < (m : Int) := by omega
          clear hxv sv
          go_quiet ((go_at_call 45; exact Calls.quiet_of_same (HPR.out _)))
          go_wp2
          go_roundg (gk - 1)
          · exact ⟨i + 1, by omega, by go_num, HF, fun _ => HLN.out, bl_dr (bl_ca HB0.out HT1.out) _⟩
          · omega
    · obtain rfl : i = m := by omega
      have hi1 : (i : Int) ≤ (i : Int) := by omega
      have HF := Lib.hid (show r = true from by rw [HB.out]; exact go_end _ _ (by have := HL.out; omega))
      clear b0
      go_wp2
      go_ret
      exact ⟨ret_bool HF.out.symm, HBB.out⟩
end Go.Proofs.Ytnbcffnhgijmcaa
/- bowspritref24.For, SameNums, Pick. Conditions: the slices read as these. -/
namespace Go.Proofs.Ytnbcffnhgijmcaa
open Go.RowKit
theorem LU_at {w : World} {F : Nat → Prop} {A : Option Addr} {n i : Nat} {xs : List Int} (h : LU.rd w F A n xs) (hi : i < n) : ∃ ad x, A = some ad ∧ xs[i]? = some x ∧ w.cell? (ad.add i) = some (.int .u64 x) := by
  obtain ⟨ad, x, cs, rfl, hx, _, _, hrep, hcl⟩ := Lay.rd_at h hi
  have hcs : cs = [.int .u64 x] := hrep
  subst hcs
  refine ⟨ad, x, rfl, hx, ?_⟩
  have := hcl 0 _ rfl
  simpa [LU, Lay.cell] using this
set_option maxRecDepth 100000 in
set_option maxHeartbeats 8000000 in
theorem rfor_any (sent : Int) (A : Option Addr) (m c : Nat) (ps : List PC) (own : Int) (w : World) (h : LP.rd w AllB A m ps) (hm : m ≤ 30000) :
    Calls Try.prog 35 #[.agg #[.int .u64 sent, .slice A m c], .int .i64 own] w fun e w' => ∃ A2 k c2, e = .returned (.slice A2 k c2) ∧ OwnU w' w.heap.size A2 k c2 (takenP (fun q => q.to == own) ps) ∧ Below w.heap.size w w' := by
  replace h := Lay.rd_weak (G := Old w) (fun b _ hb => hb) h
  have HL := Lib.hid h.1
  have b1 := bl_al (Below.refl w.heap.size w) (.cells #[.int .u64 sent, .slice A m c] 26)
  go_enter Try.func35, Try.ntmps35
  go_wp2_with fail
  generalize w.alloc (.cells #[.int .u64 sent, .slice A m c] 26) = w1 at *
  go_loopg [5, 11] m (fun g a b wr => ∃ i j A2 c2, i + g = m ∧ j ≤ i ∧ a = .slice A2 j c2 ∧ b = .int .i64 i ∧ OwnU wr w.heap.size A2 j c2 (takenP (fun q => q.to == own) (ps.take i)) ∧ Below w.heap.size w wr)
  case atStart => exact ⟨0, 0, none, 0, by omega, by omega, rfl, rfl, OwnU.nil _ _, b1⟩
  case round =>
    obtain ⟨i, j, A2, c2, hig, hji, rfl, rfl, hu, bb⟩ := hrel
    have HU := Lib.hid hu
    have HBB := Lib.hid bb
    clear hu b1
    by_cases hlt : i < m
    · have hi1 : (i : Int) < (m : Int) := by omega
      obtain ⟨ad, p, B, n', c', rfl, hx, s1⟩ := LP_at (Lay.rd_keep (fun b hb _ => bb.block b hb) h) hlt
      have e0 := s1.c0
      have e1 := s1.c1
      have e2 := s1.c2
      have e3 := s1.c3
      have e4 := s1.c4
      have HX := Lib.hid hx
      clear hx s1 bb h
      cases hq : (p.to == own)
      · have HN := Lib.hid (takenP_no (f := fun q => q.to == own) HX.out hq)
        go_wp2_with (refine wpList_store_blk rfl 29 (.tmp 7) (.tmp 14) rfl wr.heap.size 29 _ _ rfl rfl (Blk.new _ _ _) rfl parcelI (by simp [Value.oneCell']) ?_; intro wz hZ gz; have y2 : wz.cell? ⟨wr.heap.size, 2, none⟩ = some (.int .i64 p.to) := hZ.cell 2; have HT := Lib.hid (bl_gr (bl_al (Below.refl wr.heap.size wr) _) gz (Nat.le_refl _)); clear hZ gz)
        go_roundg (gk - 1)
        · exact ⟨i + 1, j, A2, c2, by omega, by omega, rfl, by go_num, by rw [HN.out]; exact Lay.own_below HU.out HT.out, bl_ca HBB.out HT.out⟩
        · omega
      · have HN := Lib.hid (takenP_yes (f := fun q => q.to == own) HX.out hq)
        have hsz := HBB.out.size
        go_wp2_with (first | (refine wpList_store_blk rfl 29 (.tmp 7) (.tmp 14) rfl wr.heap.size 29 _ _ rfl rfl (Blk.new _ _ _) rfl parcelI (by simp [Value.oneCell']) ?_; intro wz hZ gz; have y0 : wz.cell? ⟨wr.heap.size, 0, none⟩ = some (.int .u64 p.num) := hZ.cell 0; have y2 : wz.cell? ⟨wr.heap.size, 2, none⟩ = some (.int .i64 p.to) := hZ.cell 2; have HT := Lib.hid (bl_gr (bl_al (Below.refl wr.heap.size wr) _) gz (Nat.le_refl _)); have hs2 := HT.out.size; clear hZ gz) | (refine wpList_appL rfl _ _ 38 rfl (.int .u64 0) 1 8 Try.underlying38 Try.u64Info rfl rfl (by omega) w.heap.size (fun _ => False) A2 j c2 (takenP (fun q => q.to == own) (ps.take i)) wz.heap.size 1 23 #[.int .u64 p.num] p.num rfl rfl (Lay.own_alloc (Lay.own_below HU.out HT.out) _) (Blk.new _ _ _) rfl (fun _ h => h.elim) (by omega) (by unfold maxLen; omega) (by simp only [World.size_alloc]; omega) ?_; intro A3 c3 w3 hO hB3))
        have HO3 := Lib.hid hO
        have HB3 := Lib.hid ((bl_al (bl_ca HBB.out HT.out) _).trans hB3)
        clear hO hB3
        go_wp2
        go_roundg (gk - 1)
        · exact ⟨i + 1, j + 1, A3, c3, by omega, by omega, rfl, by go_num, by rw [HN.out]; exact HO3.out, HB3.out⟩
        · omega
    · obtain rfl : i = m := by omega
      have hi1 : (i : Int) ≤ (i : Int) := by omega
      have HF := Lib.hid (show takenP (fun q => q.to == own) (ps.take i) = takenP (fun q => q.to == own) ps from by rw [List.take_of_length_le (by rw [HL.out]; exact Nat.le_refl _)])
      clear bb
      go_wp2
      go_ret
      exact ⟨A2, j, c2, rfl, by rw [← HF.out]; exact HU.out, HBB.out⟩
set_option maxRecDepth 100000 in
set_option maxHeartbeats 4000000 in
theorem rnums_any (A : Option Addr) (n c : Nat) (xs : List Int) (B : Option Addr) (m d : Nat) (ys : List Int) (w : World) (h : LU.rd w AllB A n xs) (k : LU.rd w AllB B m ys) (hn : n ≤ 9223372036854775807) :
    Calls Try.prog 36 #[.slice A n c, .slice B m d] w fun e w' => e = .returned (.bool (decide (xs = ys))) ∧ Below w.heap.size w w' := by
  have HL := Lib.hid h.1
  have HK := Lib.hid k.1
  obtain ⟨r, hr⟩ : ∃ r, r = decide (xs = ys) := ⟨_, rfl⟩
  rw [← hr]
  have HR := Lib.hid hr
  clear hr
  by_cases hml : n = m
  case neg =>
    have d2 : ((n : Int) != (m : Int)) = true := by simp; omega
    have HML := Lib.hid hml
    clear hml h k
    go_enter Try.func36, Try.ntmps36
    go_wp2
    go_ret
    exact ⟨ret_bool (by rw [HR.out, decide_eq_false (fun e => HML.out (by rw [← HL.out, ← HK.out, e]))]), Below.refl _ _⟩
  subst hml
  have d2 : ((n : Int) != (n : Int)) = false := by simp
  go_enter Try.func36, Try.ntmps36
  go_wp2_with fail
  clear d2
  go_loopg [13] n (fun g a wr => ∃ i : Nat, i + g = n ∧ a = .int .i64 i ∧ xs.take i = ys.take i ∧ Below w.heap.size w wr)
  case atStart => exact ⟨0, by omega, rfl, rfl, Below.refl _ _⟩
  case round =>
    obtain ⟨i, hig, rfl, heq, bb⟩ := hrel
    have HE := Lib.hid heq
    have HBB := Lib.hid bb
    clear heq
    by_cases hlt : i < n
    · have hi0 : (0 : Int) ≤ (i : Int) := by omega
      have hi1 : (i : Int) < (n : Int) := by omega
      obtain ⟨ad, x, rfl, hx, e0⟩ := LU_at (Lay.rd_below h bb) hlt
      obtain ⟨ad2, y, rfl, hy, f0⟩ := LU_at (Lay.rd_below k bb) hlt
      have HX := Lib.hid hx
      have HY := Lib.hid hy
      clear hx hy bb
      by_cases hxy : x = y
      · have HF := Lib.hid (show xs.take (i + 1) = ys.take (i + 1) from by rw [List.take_add_one, List.take_add_one, HE.out, HX.out, HY.out, hxy])
        subst hxy
        have d3 : (x != x) = false := by simp
        go_wp2_with fail
        go_quiet (fail)
        go_wp2
        go_roundg (gk - 1)
        · exact ⟨i + 1, by omega, by go_num, HF.out, bl_dr HBB.out _⟩
        · omega
      · have d3 : (x != y) = true := by simpa using hxy
        have HF := Lib.hid (show decide (xs = ys) = false from decide_eq_false (fun e => hxy (by have h1 := HX.out; rw [e, HY.out] at h1; injection h1 with h1; exact h1.symm)))
        clear hxy
        go_wp2_with fail
        go_quiet (fail)
        go_wp2
        go_ret
        exact ⟨ret_bool (by rw [HR.out, HF.out]), bl_dr HBB.out _⟩
    · obtain rfl : i = n := by omega
      have hi1 : (i : Int) ≤ (i : Int) := by omega
      clear bb
      go_wp2
      go_ret
      exact ⟨ret_bool (by rw [HR.out, decide_eq_true (by have h1 := HE.out; rwa [List.take_of_length_le (by rw [HL.out]; exact Nat.le_refl _), List.take_of_length_le (by rw [HK.out]; exact Nat.le_refl _)] at h1)]), HBB.out⟩
set_option maxRecDepth 100000 in
set_option maxHeartbeats 4000000 in
theorem rpick_any (sent : Int) (A : Option Addr) (m c : Nat) (ps : List PC) (k : Int) (w : World) (h : LP.rd w AllB A m ps) (hm : m ≤ 9223372036854775807) :
    Calls Try.prog 37 #[.agg #[.int .u64 sent, .slice A m c], .int .i64 k] w fun e w' => e = .returned (.tuple #[.int .u64 (if decide (0 < ps.length) then pickAt ps k else 0), .bool (decide (0 < ps.length))]) ∧ Below w.heap.size w w' := by
  have b1 := bl_al (Below.refl w.heap.size w) (.cells #[.int .u64 sent, .slice A m c] 26)
  have bN := Blk.new w 26 #[.int .u64 sent, .slice A m c]
  have hrd := Lib.hid (Lay.rd_below h b1)
  have hlen := h.1
  clear h
  rcases Nat.eq_zero_or_pos m with h0 | h0
  · subst h0
    rw [show decide (0 < ps.length) = false from by rw [hlen]; rfl]
    clear hlen
    go_enter Try.func37, Try.ntmps37
    go_wp2
    go_ret2
    exact ⟨rfl, b1⟩
  · rw [show decide (0 < ps.length) = true from by rw [hlen]; simpa using h0]
    have hi0 := Int.emod_nonneg (max k 0) (show (m : Int) ≠ 0 by omega)
    have hi1 := Int.emod_lt_of_pos (max k 0) (show (0 : Int) < (m : Int) by omega)
    obtain ⟨i, hi⟩ : ∃ i : Nat, max k 0 % (m : Int) = i := ⟨_, (Int.toNat_of_nonneg hi0).symm⟩
    rw [hi] at hi0 hi1
    have him : i < m := by omega
    have hmx : 0 ≤ max k 0 := by omega
    have HT : (max k 0).tmod (m : Int) = (i : Int) := by rw [Int.tmod_eq_emod_of_nonneg hmx, hi]
    have hps := hlen
    rw [if_pos rfl]
    obtain ⟨v, hv⟩ : ∃ v, v = pickAt ps k := ⟨_, rfl⟩
    rw [← hv]
    have HV := Lib.hid (show v = ((ps[i]?).getD zeroPC').num from by rw [hv]; unfold pickAt; rw [hps, hi, Int.toNat_natCast])
    clear hv hi hps hlen
    obtain ⟨q, x, C, n', c', rfl, hx, s1⟩ := LP_at hrd.out him
    have e0 := s1.c0
    have HQ := Lib.hid (show v = x.num from by rw [HV.out, hx]; rfl)
    have hm1 : (0 : Int) < (m : Int) := by omega
    have hm0 : (m : Int) ≠ 0 := by omega
    have hmz : ((m : Int) == 0) = false := by simp; omega
    clear bN hx s1 hrd HV
    go_enter Try.func37, Try.ntmps37
    go_wp2_with fail
    go_quiet (fail)
    go_wp2
    go_ret2
    exact ⟨by rw [HQ.out]; rfl, bl_dr b1 _⟩
end Go.Proofs.Ytnbcffnhgijmcaa
/- A region whose order Go leaves open, with several operations of unknown yield side by side; what follows is said once. Conditions: none. -/
namespace Go.Proofs.Ytnbcffnhgijmcaa
open Go.RowKit
section
variable {P : Program} {ops : Array Oper} {Q Q' : Exit → Act → World → Prop} {md : Region.Mode} {S : Array Bool → (Nat → Value) → World → Prop}
theorem Ps.weak (h : ∀ a w, Q' .normal a w → Q .normal a w) : ∀ (f : Nat) (m : Nat → Value) (L : Array Bool) (a : Act), Ps P md ops Q' S f m L a → Ps P md ops Q S f m L a
  | 0, _, _, _, k => ⟨k.1, fun w hS => h _ _ (k.2 w hS)⟩
  | f + 1, m, L, a, k => ⟨fun e w hS => h _ _ (k.1 e w hS), fun i hi => by
    obtain ⟨o, ho, ⟨u, hs, hg⟩ | ⟨V, hs, hg⟩⟩ := k.2 i hi
    · exact ⟨o, ho, .inl ⟨u, hs, Ps.weak h f _ _ _ hg⟩⟩
    · exact ⟨o, ho, .inr ⟨V, hs, fun v hV => Ps.weak h f _ _ _ (hg v hV)⟩⟩⟩
/-- one of several that come next -/
def Turns (P : Program) (md : Region.Mode) (ops : Array Oper) (Q : Exit → Act → World → Prop) (S : Array Bool → (Nat → Value) → World → Prop) (f : Nat) (m : Nat → Value) (L : Array Bool) (a : Act) (i : Nat) : Prop :=
  ∃ o, ops[i]? = some o ∧ ∃ V, TurnS P md ops S m i o V a ∧ ∀ v, V v → Ps P md ops Q S f (upd m i v) (L.setIfInBounds i true) (a.put o.dst v)
theorem Turns.mk {f : Nat} {m : Nat → Value} {L : Array Bool} {a : Act} {i : Nat} {o : Oper} {d : Option Tmp} (ho : ops[i]? = some o) (hd : o.dst = d) {V : Value → Prop} (ht : TurnS P md ops S m i o V a)
    (h : ∀ v, V v → Ps P md ops Q S f (upd m i v) (L.setIfInBounds i true) (a.put d v)) : Turns P md ops Q S f m L a i := by subst hd; exact ⟨o, ho, V, ht, h⟩
theorem Ps.some1 {f : Nat} {m : Nat → Value} {L : Array Bool} {a : Act} {i : Nat} (hr : Region.ready md ops L = [i]) (h1 : Turns P md ops Q S f m L a i) : Ps P md ops Q S (f + 1) m L a := by
  refine ⟨fun e => (by rw [hr] at e; cases e), fun x hx => ?_⟩
  rw [hr] at hx
  rcases List.mem_cons.1 hx with rfl | hx
  · obtain ⟨o, ho, V, ht, h⟩ := h1; exact ⟨o, ho, .inr ⟨V, ht, h⟩⟩
  · cases hx
theorem Ps.some2 {f : Nat} {m : Nat → Value} {L : Array Bool} {a : Act} {i j : Nat} (hr : Region.ready md ops L = [i, j]) (h1 : Turns P md ops Q S f m L a i) (h2 : Turns P md ops Q S f m L a j) : Ps P md ops Q S (f + 1) m L a := by
  refine ⟨fun e => (by rw [hr] at e; cases e), fun x hx => ?_⟩
  rw [hr] at hx
  rcases List.mem_cons.1 hx with rfl | hx
  · obtain ⟨o, ho, V, ht, h⟩ := h1; exact ⟨o, ho, .inr ⟨V, ht, h⟩⟩
  rcases List.mem_cons.1 hx with rfl | hx
  · obtain ⟨o, ho, V, ht, h⟩ := h2; exact ⟨o, ho, .inr ⟨V, ht, h⟩⟩
  · cases hx
theorem Ps.some3 {f : Nat} {m : Nat → Value} {L : Array Bool} {a : Act} {i j k : Nat} (hr : Region.ready md ops L = [i, j, k]) (h1 : Turns P md ops Q S f m L a i) (h2 : Turns P md ops Q S f m L a j) (h3 : Turns P md ops Q S f m L a k) : Ps P md ops Q S (f + 1) m L a := by
  refine ⟨fun e => (by rw [hr] at e; cases e), fun x hx => ?_⟩
  rw [hr] at hx
  rcases List.mem_cons.1 hx with rfl | hx
  · obtain ⟨o, ho, V, ht, h⟩ := h1; exact ⟨o, ho, .inr ⟨V, ht, h⟩⟩
  rcases List.mem_cons.1 hx with rfl | hx
  · obtain ⟨o, ho, V, ht, h⟩ := h2; exact ⟨o, ho, .inr ⟨V, ht, h⟩⟩
  rcases List.mem_cons.1 hx with rfl | hx
  · obtain ⟨o, ho, V, ht, h⟩ := h3; exact ⟨o, ho, .inr ⟨V, ht, h⟩⟩
  · cases hx
/-- what follows is said once: F tells how the region ends, of the act at its start -/
theorem wp_region_psF {id : Nat} {a : Act} {w : World} (F : Act → Act → World → Prop) (S : Array Bool → (Nat → Value) → World → Prop) (hm : P.follows .mixedOrders = true) (hS : S (Array.replicate ops.size false) (fun _ => undef) w.drew)
    (h : Ps P .any ops (fun _ a' w' => F a a' w') S ops.size (fun _ => undef) (Array.replicate ops.size false) a) (hk : ∀ a' w', F a a' w' → Q .normal a' w') : (Code.region id ops true).wp P Q a w :=
  wp_region_ps S hm hS (Ps.weak hk _ _ _ _ h)
end
end Go.Proofs.Ytnbcffnhgijmcaa
/- Two variables made and filled by calls in one statement whose order Go leaves open. Conditions: none. -/
namespace Go.Proofs.Ytnbcffnhgijmcaa
open Go.RowKit
def pt (g : Nat) : Value := .pointer (some ⟨g, 0, none⟩)
theorem pt_inj {a b : Nat} (h : pt a = pt b) : a = b := by
  unfold pt at h
  injection h with h
  injection h with h
  injection h
theorem undef_pt (b : Nat) : undef ≠ pt b := by unfold pt undef; simp
/-- the blocks that are none of the two variables -/
def Av (a1 a2 : Nat) (m : Nat → Value) (b : Nat) : Prop := m a1 ≠ pt b ∧ m a2 ≠ pt b
/-- what a call's answer is: it stays so as long as the blocks that it leads to do -/
structure Res (R : Value → (Nat → Prop) → World → Prop) : Prop where
  keep : ∀ {v F w w'}, (∀ b, F b → b < w.heap.size → w'.heap[b]? = w.heap[b]?) → R v F w → R v F w'
  weak : ∀ {v F G w}, (∀ b, F b → b < w.heap.size → G b) → R v F w → R v G w
def LRes {α : Type} (Ly : Lay α) (P : α → Prop) (v : Value) (F : Nat → Prop) (w : World) : Prop := ∃ a cs, v = .agg cs ∧ Ly.rep w F a cs.toList ∧ P a
theorem LRes.res {α : Type} (Ly : Lay α) (P : α → Prop) : Res (LRes Ly P) :=
  ⟨fun hk ⟨a, cs, e, h, p⟩ => ⟨a, cs, e, Ly.keep hk h, p⟩, fun hk ⟨a, cs, e, h, p⟩ => ⟨a, cs, e, Ly.weak hk h, p⟩⟩
def NoRes (_ : Value) (_ : Nat → Prop) (_ : World) : Prop := True
theorem NoRes.res : Res NoRes := ⟨fun _ h => h, fun _ h => h⟩
section
variable (W : World) (k0 k1 k2 a1 a2 : Nat) (t1 t2 : TypeId) (Z1 Z2 : Array Value) (R0 R1 R2 : Value → (Nat → Prop) → World → Prop)
structure TwoA (L : Array Bool) (m : Nat → Value) (w : World) : Prop where
  bel : Below W.heap.size W w
  v1 : Dn L a1 = true → ∃ g, m a1 = pt g ∧ W.heap.size ≤ g ∧ Blk w g t1 Z1
  n1 : Dn L a1 = false → m a1 = undef
  v2 : Dn L a2 = true → ∃ g, m a2 = pt g ∧ W.heap.size ≤ g ∧ Blk w g t2 Z2
  n2 : Dn L a2 = false → m a2 = undef
  ne : Dn L a1 = true → Dn L a2 = true → m a1 ≠ m a2
  r0 : Dn L k0 = true → R0 (m k0) (Av a1 a2 m) w
  r1 : Dn L k1 = true → R1 (m k1) (Av a1 a2 m) w
  r2 : Dn L k2 = true → R2 (m k2) (Av a1 a2 m) w
structure TwoB (c1 c2 : Array Value) (g1 g2 : Nat) (m : Nat → Value) (w : World) : Prop where
  e1 : m a1 = pt g1
  e2 : m a2 = pt g2
  ne : g1 ≠ g2
  l1 : W.heap.size ≤ g1
  l2 : W.heap.size ≤ g2
  b1 : Blk w g1 t1 c1
  b2 : Blk w g2 t2 c2
  bel : Below W.heap.size W w
  r1 : R1 (m k1) (Av a1 a2 m) w
  r2 : R2 (m k2) (Av a1 a2 m) w
/-- s1, s2: the two stores -/
def TwoS (s1 s2 : Nat) (L : Array Bool) (m : Nat → Value) (w : World) : Prop :=
  (Dn L s1 = false → TwoA W k0 k1 k2 a1 a2 t1 t2 Z1 Z2 R0 R1 R2 L m w) ∧
  (Dn L s1 = true → Dn L s2 = false → ∃ g1 g2 c1, m k1 = .agg c1 ∧ TwoB W k1 k2 a1 a2 t1 t2 R1 R2 c1 Z2 g1 g2 m w) ∧
  (Dn L s2 = true → ∃ g1 g2 c1 c2, m k1 = .agg c1 ∧ m k2 = .agg c2 ∧ TwoB W k1 k2 a1 a2 t1 t2 R1 R2 c1 c2 g1 g2 m w)
end
section
variable {W : World} {k0 k1 k2 a1 a2 s1 s2 : Nat} {t1 t2 : TypeId} {Z1 Z2 : Array Value} {R0 R1 R2 : Value → (Nat → Prop) → World → Prop} {L : Array Bool} {m : Nat → Value} {w w' : World}
theorem TwoA.mono (h : TwoA W k0 k1 k2 a1 a2 t1 t2 Z1 Z2 R0 R1 R2 L m w) (H0 : Res R0) (H1 : Res R1) (H2 : Res R2) (q : Below w.heap.size w w') : TwoA W k0 k1 k2 a1 a2 t1 t2 Z1 Z2 R0 R1 R2 L m w' :=
  ⟨bl_ca h.bel q, fun e => by obtain ⟨g, x, y, z⟩ := h.v1 e; exact ⟨g, x, y, z.ca q⟩, h.n1, fun e => by obtain ⟨g, x, y, z⟩ := h.v2 e; exact ⟨g, x, y, z.ca q⟩, h.n2, h.ne,
    fun e => H0.keep (fun b _ hb => q.block b hb) (h.r0 e), fun e => H1.keep (fun b _ hb => q.block b hb) (h.r1 e), fun e => H2.keep (fun b _ hb => q.block b hb) (h.r2 e)⟩
theorem TwoA.set (h : TwoA W k0 k1 k2 a1 a2 t1 t2 Z1 Z2 R0 R1 R2 L m w) {i : Nat} (hi : i ≠ k0 ∧ i ≠ k1 ∧ i ≠ k2 ∧ i ≠ a1 ∧ i ≠ a2) : TwoA W k0 k1 k2 a1 a2 t1 t2 Z1 Z2 R0 R1 R2 (L.setIfInBounds i true) m w := by
  obtain ⟨x0, x1, x2, y1, y2⟩ := hi
  have d : ∀ j, i ≠ j → Dn (L.setIfInBounds i true) j = Dn L j := fun j hj => dn_ne (Ne.symm hj)
  exact ⟨h.bel, fun e => h.v1 (d _ y1 ▸ e), fun e => h.n1 (d _ y1 ▸ e), fun e => h.v2 (d _ y2 ▸ e), fun e => h.n2 (d _ y2 ▸ e), fun e f => h.ne (d _ y1 ▸ e) (d _ y2 ▸ f), fun e => h.r0 (d _ x0 ▸ e), fun e => h.r1 (d _ x1 ▸ e), fun e => h.r2 (d _ x2 ▸ e)⟩
theorem TwoS.start {n : Nat} (hl : (decide (k1 < n) && decide (k2 < n) && decide (a1 < n) && decide (a2 < n) && decide (s1 < n) && decide (s2 < n)) = true) (h0 : k0 < n ∨ R0 = NoRes) : TwoS W k0 k1 k2 a1 a2 t1 t2 Z1 Z2 R0 R1 R2 s1 s2 (Array.replicate n false) (fun _ => undef) W.drew := by
  simp only [Bool.and_eq_true, decide_eq_true_eq] at hl
  obtain ⟨⟨⟨⟨⟨l1, l2⟩, l3⟩, l4⟩, l5⟩, l6⟩ := hl
  have d : ∀ j, j < n → Dn (Array.replicate n false) j = false := fun j hj => by unfold Dn; simp [hj]
  refine ⟨fun _ => ⟨(Below.refl _ _).drew, fun e => ?_, fun _ => rfl, fun e => ?_, fun _ => rfl, fun e => ?_, fun e => ?_, fun e => ?_, fun e => ?_⟩, fun e => ?_, fun e => ?_⟩
  · rw [d _ l3] at e; cases e
  · rw [d _ l4] at e; cases e
  · rw [d _ l3] at e; cases e
  · rcases h0 with h0 | h0
    · rw [d _ h0] at e; cases e
    · rw [h0]; trivial
  · rw [d _ l1] at e; cases e
  · rw [d _ l2] at e; cases e
  · rw [d _ l5] at e; cases e
  · rw [d _ l6] at e; cases e
theorem TwoS.pass {i : Nat} (h : (i != k0 && i != k1 && i != k2 && i != a1 && i != a2 && i != s1 && i != s2) = true) : Pass (TwoS W k0 k1 k2 a1 a2 t1 t2 Z1 Z2 R0 R1 R2 s1 s2) i := fun L m w hS => by
  simp only [Bool.and_eq_true, bne_iff_ne] at h
  obtain ⟨⟨⟨⟨⟨⟨x0, x1⟩, x2⟩, y1⟩, y2⟩, z1⟩, z2⟩ := h
  unfold TwoS at *
  rw [dn_ne (Ne.symm z1), dn_ne (Ne.symm z2)]
  exact ⟨fun e => (hS.1 e).set ⟨x0, x1, x2, y1, y2⟩, hS.2⟩
theorem TwoS.any (hS : TwoS W k0 k1 k2 a1 a2 t1 t2 Z1 Z2 R0 R1 R2 s1 s2 L m w) : Below W.heap.size W w := by
  cases h1 : Dn L s1
  · exact (hS.1 h1).bel
  · cases h2 : Dn L s2
    · obtain ⟨_, _, _, _, h⟩ := hS.2.1 h1 h2; exact h.bel
    · obtain ⟨_, _, _, _, _, _, h⟩ := hS.2.2 h2; exact h.bel
theorem TwoS.at0 (hS : TwoS W k0 k1 k2 a1 a2 t1 t2 Z1 Z2 R0 R1 R2 s1 s2 L m w) (h1 : Dn L s1 = false) : TwoA W k0 k1 k2 a1 a2 t1 t2 Z1 Z2 R0 R1 R2 L m w := hS.1 h1
/-- a variable is made: the first -/
theorem TwoS.make1 (hS : TwoS W k0 k1 k2 a1 a2 t1 t2 Z1 Z2 R0 R1 R2 s1 s2 L m w) (H0 : Res R0) (H1 : Res R1) (H2 : Res R2) (hs : Dn L s1 = false) (hs2 : Dn L s2 = false) (hn : (a1 != k0 && a1 != k1 && a1 != k2 && a1 != a2 && a1 != s1 && a1 != s2) = true) :
    TwoS W k0 k1 k2 a1 a2 t1 t2 Z1 Z2 R0 R1 R2 s1 s2 (L.setIfInBounds a1 true) (upd m a1 (pt w.heap.size)) (w.alloc (.cells Z1 t1)) := by
  simp only [Bool.and_eq_true, bne_iff_ne] at hn
  obtain ⟨⟨⟨⟨⟨x0, x1⟩, x2⟩, y2⟩, z1⟩, z2⟩ := hn
  have h := hS.1 hs
  have q := bl_al (Below.refl w.heap.size w) (.cells Z1 t1)
  have hav : ∀ b, Av a1 a2 m b → b < w.heap.size → Av a1 a2 (upd m a1 (pt w.heap.size)) b := fun b hb hl => ⟨by rw [upd_same]; intro e; have := pt_inj e; omega, by rw [upd_ne (Ne.symm y2)]; exact hb.2⟩
  refine ⟨fun _ => ⟨bl_ca h.bel q, fun _ => ⟨_, upd_same _ _ _, h.bel.size, Blk.new _ _ _⟩, fun e => ?_, fun e => ?_, fun e => ?_, fun _ e => ?_, fun e => ?_, fun e => ?_, fun e => ?_⟩, fun e => ?_, fun e => ?_⟩
  · rw [dn_eq] at e; cases e
  · rw [dn_ne (Ne.symm y2)] at e
    obtain ⟨g, x, y, z⟩ := h.v2 e
    exact ⟨g, by rw [upd_ne (Ne.symm y2)]; exact x, y, z.ca q⟩
  · rw [dn_ne (Ne.symm y2)] at e; rw [upd_ne (Ne.symm y2)]; exact h.n2 e
  · rw [dn_ne (Ne.symm y2)] at e
    obtain ⟨g, x, _, z⟩ := h.v2 e
    rw [upd_same, upd_ne (Ne.symm y2), x]
    intro e'
    have := pt_inj e'
    have := z.lt
    omega
  · rw [dn_ne (Ne.symm x0)] at e; rw [upd_ne (Ne.symm x0)]; exact H0.keep (fun b _ hb => q.block b hb) (H0.weak hav (h.r0 e))
  · rw [dn_ne (Ne.symm x1)] at e; rw [upd_ne (Ne.symm x1)]; exact H1.keep (fun b _ hb => q.block b hb) (H1.weak hav (h.r1 e))
  · rw [dn_ne (Ne.symm x2)] at e; rw [upd_ne (Ne.symm x2)]; exact H2.keep (fun b _ hb => q.block b hb) (H2.weak hav (h.r2 e))
  · rw [dn_ne (Ne.symm z1), hs] at e; cases e
  · rw [dn_ne (Ne.symm z2), hs2] at e; cases e
/-- a variable is made: the second -/
theorem TwoS.make2 (hS : TwoS W k0 k1 k2 a1 a2 t1 t2 Z1 Z2 R0 R1 R2 s1 s2 L m w) (H0 : Res R0) (H1 : Res R1) (H2 : Res R2) (hs : Dn L s1 = false) (hs2 : Dn L s2 = false) (hn : (a2 != k0 && a2 != k1 && a2 != k2 && a2 != a1 && a2 != s1 && a2 != s2) = true) :
    TwoS W k0 k1 k2 a1 a2 t1 t2 Z1 Z2 R0 R1 R2 s1 s2 (L.setIfInBounds a2 true) (upd m a2 (pt w.heap.size)) (w.alloc (.cells Z2 t2)) := by
  simp only [Bool.and_eq_true, bne_iff_ne] at hn
  obtain ⟨⟨⟨⟨⟨x0, x1⟩, x2⟩, y2⟩, z1⟩, z2⟩ := hn
  have h := hS.1 hs
  have q := bl_al (Below.refl w.heap.size w) (.cells Z2 t2)
  have hav : ∀ b, Av a1 a2 m b → b < w.heap.size → Av a1 a2 (upd m a2 (pt w.heap.size)) b := fun b hb hl => ⟨by rw [upd_ne (Ne.symm y2)]; exact hb.1, by rw [upd_same]; intro e; have := pt_inj e; omega⟩
  refine ⟨fun _ => ⟨bl_ca h.bel q, fun e => ?_, fun e => ?_, fun _ => ⟨_, upd_same _ _ _, h.bel.size, Blk.new _ _ _⟩, fun e => ?_, fun e _ => ?_, fun e => ?_, fun e => ?_, fun e => ?_⟩, fun e => ?_, fun e => ?_⟩
  · rw [dn_ne (Ne.symm y2)] at e
    obtain ⟨g, x, y, z⟩ := h.v1 e
    exact ⟨g, by rw [upd_ne (Ne.symm y2)]; exact x, y, z.ca q⟩
  · rw [dn_ne (Ne.symm y2)] at e; rw [upd_ne (Ne.symm y2)]; exact h.n1 e
  · rw [dn_eq] at e; cases e
  · rw [dn_ne (Ne.symm y2)] at e
    obtain ⟨g, x, _, z⟩ := h.v1 e
    rw [upd_same, upd_ne (Ne.symm y2), x]
    intro e'
    have := pt_inj e'
    have := z.lt
    omega
  · rw [dn_ne (Ne.symm x0)] at e; rw [upd_ne (Ne.symm x0)]; exact H0.keep (fun b _ hb => q.block b hb) (H0.weak hav (h.r0 e))
  · rw [dn_ne (Ne.symm x1)] at e; rw [upd_ne (Ne.symm x1)]; exact H1.keep (fun b _ hb => q.block b hb) (H1.weak hav (h.r1 e))
  · rw [dn_ne (Ne.symm x2)] at e; rw [upd_ne (Ne.symm x2)]; exact H2.keep (fun b _ hb => q.block b hb) (H2.weak hav (h.r2 e))
  · rw [dn_ne (Ne.symm z1), hs] at e; cases e
  · rw [dn_ne (Ne.symm z2), hs2] at e; cases e
/-- what a call answers leads to no variable that was made before it: an answer in new memory, or in memory that was there -/
theorem TwoA.avoid (h : TwoA W k0 k1 k2 a1 a2 t1 t2 Z1 Z2 R0 R1 R2 L m w) {b : Nat} (hb : b < W.heap.size ∨ w.heap.size ≤ b) : Av a1 a2 m b := by
  constructor
  · cases e : Dn L a1
    · rw [h.n1 e]; exact undef_pt b
    · obtain ⟨g, x, y, z⟩ := h.v1 e
      rw [x]
      intro e'
      have := pt_inj e'
      have := z.lt
      omega
  · cases e : Dn L a2
    · rw [h.n2 e]; exact undef_pt b
    · obtain ⟨g, x, y, z⟩ := h.v2 e
      rw [x]
      intro e'
      have := pt_inj e'
      have := z.lt
      omega
/-- a call has answered -/
theorem TwoS.call {v : Value} {i : Nat} (hS : TwoS W k0 k1 k2 a1 a2 t1 t2 Z1 Z2 R0 R1 R2 s1 s2 L m w) (H0 : Res R0) (H1 : Res R1) (H2 : Res R2) (hs : Dn L s1 = false) (hs2 : Dn L s2 = false) (hn : (i != a1 && i != a2 && i != s1 && i != s2) = true) (q : Below w.heap.size w w')
    (c0 : i = k0 → R0 v (Av a1 a2 m) w') (c1 : i = k1 → R1 v (Av a1 a2 m) w') (c2 : i = k2 → R2 v (Av a1 a2 m) w') : TwoS W k0 k1 k2 a1 a2 t1 t2 Z1 Z2 R0 R1 R2 s1 s2 (L.setIfInBounds i true) (upd m i v) w' := by
  simp only [Bool.and_eq_true, bne_iff_ne] at hn
  obtain ⟨⟨⟨y1, y2⟩, z1⟩, z2⟩ := hn
  have h := (hS.1 hs).mono H0 H1 H2 q
  have hav : ∀ b, Av a1 a2 m b → Av a1 a2 (upd m i v) b := fun b hb => ⟨by rw [upd_ne (Ne.symm y1)]; exact hb.1, by rw [upd_ne (Ne.symm y2)]; exact hb.2⟩
  have key : ∀ {R : Value → (Nat → Prop) → World → Prop} {k : Nat}, Res R → (Dn L k = true → R (m k) (Av a1 a2 m) w') → (i = k → R v (Av a1 a2 m) w') → Dn (L.setIfInBounds i true) k = true → R (upd m i v k) (Av a1 a2 (upd m i v)) w' := fun {R k} hR h1 h2 e => by
    by_cases ik : i = k
    · subst ik; rw [upd_same]; exact hR.weak (fun b hb _ => hav b hb) (h2 rfl)
    · rw [dn_ne (Ne.symm ik)] at e; rw [upd_ne (Ne.symm ik)]; exact hR.weak (fun b hb _ => hav b hb) (h1 e)
  refine ⟨fun _ => ⟨h.bel, fun e => ?_, fun e => ?_, fun e => ?_, fun e => ?_, fun e f => ?_, key H0 h.r0 c0, key H1 h.r1 c1, key H2 h.r2 c2⟩, fun e => ?_, fun e => ?_⟩
  · rw [dn_ne (Ne.symm y1)] at e; rw [upd_ne (Ne.symm y1)]; exact h.v1 e
  · rw [dn_ne (Ne.symm y1)] at e; rw [upd_ne (Ne.symm y1)]; exact h.n1 e
  · rw [dn_ne (Ne.symm y2)] at e; rw [upd_ne (Ne.symm y2)]; exact h.v2 e
  · rw [dn_ne (Ne.symm y2)] at e; rw [upd_ne (Ne.symm y2)]; exact h.n2 e
  · rw [dn_ne (Ne.symm y1)] at e; rw [dn_ne (Ne.symm y2)] at f; rw [upd_ne (Ne.symm y1), upd_ne (Ne.symm y2)]; exact h.ne e f
  · rw [dn_ne (Ne.symm z1), hs] at e; cases e
  · rw [dn_ne (Ne.symm z2), hs2] at e; cases e
/-- all is ready for the first store -/
theorem TwoS.ready1 (hS : TwoS W k0 k1 k2 a1 a2 t1 t2 Z1 Z2 R0 R1 R2 s1 s2 L m w) (hs : Dn L s1 = false) (d1 : Dn L a1 = true) (d2 : Dn L a2 = true) (e1 : Dn L k1 = true) (e2 : Dn L k2 = true) : ∃ g1 g2, TwoB W k1 k2 a1 a2 t1 t2 R1 R2 Z1 Z2 g1 g2 m w := by
  have h := hS.1 hs
  obtain ⟨g1, x1, y1, b1⟩ := h.v1 d1
  obtain ⟨g2, x2, y2, b2⟩ := h.v2 d2
  exact ⟨g1, g2, x1, x2, fun e => h.ne d1 d2 (by rw [x1, x2, e]), y1, y2, b1, b2, h.bel, h.r1 e1, h.r2 e2⟩
theorem TwoB.store1 {z1 z2 c : Array Value} {g1 g2 : Nat} (h : TwoB W k1 k2 a1 a2 t1 t2 R1 R2 z1 z2 g1 g2 m w) (H1 : Res R1) (H2 : Res R2) (hb : Blk w' g1 t1 c) (hg : w.grownBy w' (some g1)) : TwoB W k1 k2 a1 a2 t1 t2 R1 R2 c z2 g1 g2 m w' :=
  ⟨h.e1, h.e2, h.ne, h.l1, h.l2, hb, h.b2.apart hg (fun e => h.ne e.symm), bl_gr h.bel hg h.l1,
    H1.keep (fun b hb hl => hg.block b hl (fun e => hb.1 (by rw [h.e1]; injection e with e; rw [e]))) h.r1, H2.keep (fun b hb hl => hg.block b hl (fun e => hb.1 (by rw [h.e1]; injection e with e; rw [e]))) h.r2⟩
theorem TwoB.store2 {z1 z2 c : Array Value} {g1 g2 : Nat} (h : TwoB W k1 k2 a1 a2 t1 t2 R1 R2 z1 z2 g1 g2 m w) (H1 : Res R1) (H2 : Res R2) (hb : Blk w' g2 t2 c) (hg : w.grownBy w' (some g2)) : TwoB W k1 k2 a1 a2 t1 t2 R1 R2 z1 c g1 g2 m w' :=
  ⟨h.e1, h.e2, h.ne, h.l1, h.l2, h.b1.apart hg h.ne, hb, bl_gr h.bel hg h.l2,
    H1.keep (fun b hb hl => hg.block b hl (fun e => hb.2 (by rw [h.e2]; injection e with e; rw [e]))) h.r1, H2.keep (fun b hb hl => hg.block b hl (fun e => hb.2 (by rw [h.e2]; injection e with e; rw [e]))) h.r2⟩
theorem TwoS.set1 {c1 : Array Value} {g1 g2 : Nat} (hs2 : Dn L s2 = false) (hne : s2 ≠ s1) (hk : m k1 = .agg c1) (h : TwoB W k1 k2 a1 a2 t1 t2 R1 R2 c1 Z2 g1 g2 m w) : TwoS W k0 k1 k2 a1 a2 t1 t2 Z1 Z2 R0 R1 R2 s1 s2 (L.setIfInBounds s1 true) m w :=
  ⟨fun e => (by rw [dn_eq] at e; cases e), fun _ _ => ⟨g1, g2, c1, hk, h⟩, fun e => (by rw [dn_ne hne, hs2] at e; cases e)⟩
theorem TwoS.at1 (hS : TwoS W k0 k1 k2 a1 a2 t1 t2 Z1 Z2 R0 R1 R2 s1 s2 L m w) (h1 : Dn L s1 = true) (h2 : Dn L s2 = false) : ∃ g1 g2 c1, m k1 = .agg c1 ∧ TwoB W k1 k2 a1 a2 t1 t2 R1 R2 c1 Z2 g1 g2 m w := hS.2.1 h1 h2
theorem TwoS.set2 {c1 c2 : Array Value} {g1 g2 : Nat} (hne : s1 ≠ s2) (h1 : Dn L s1 = true) (hk : m k1 = .agg c1) (hk2 : m k2 = .agg c2) (h : TwoB W k1 k2 a1 a2 t1 t2 R1 R2 c1 c2 g1 g2 m w) : TwoS W k0 k1 k2 a1 a2 t1 t2 Z1 Z2 R0 R1 R2 s1 s2 (L.setIfInBounds s2 true) m w :=
  ⟨fun e => (by rw [dn_ne hne, h1] at e; cases e), fun _ e => (by rw [dn_eq] at e; cases e), fun _ => ⟨g1, g2, c1, c2, hk, hk2, h⟩⟩
theorem TwoS.fin (hS : TwoS W k0 k1 k2 a1 a2 t1 t2 Z1 Z2 R0 R1 R2 s1 s2 L m w) (h2 : Dn L s2 = true) : ∃ g1 g2 c1 c2, m k1 = .agg c1 ∧ m k2 = .agg c2 ∧ TwoB W k1 k2 a1 a2 t1 t2 R1 R2 c1 c2 g1 g2 m w := hS.2.2 h2
end
end Go.Proofs.Ytnbcffnhgijmcaa
/- Arguments that are nets and ops. Conditions: none. -/
namespace Go.Proofs.Ytnbcffnhgijmcaa
open Go.ChangeShapes Go.WideShapes Go.ChangeAt Go.RowKit Go.Deep
theorem Try.own : ownKnob Try.prog.godebug = none := by kernel_rfl
theorem Try.laidOut : laidOutB Try.prog = true := by kernel_rfl
/-- an argument that is a struct -/
theorem open_agg {P : Program} {t : TypeId} {fs : Array Field} (ht : P.underlying t = some (.struct fs)) {α : Type} {L : Lay α} {G : α → Prop} (ho : Opens P t L G) {H : Type} {enc : TypeId × Value → H} {W : World} {r : Reach} {base : Nat} {v : Value} {d : DataW H} {p : List MemPlace}
    (hv : Value.okWide P W r base t v) (h : DataW.Trod enc P W 0 (fun _ => true) true t v d p) : ∃ a cs, v = .agg cs ∧ L.rep W AllB a cs.toList ∧ G a := by
  obtain ⟨cs, rfl, _⟩ := okWide_struct ht hv
  obtain ⟨fuel, hf⟩ := h
  obtain ⟨a, ha, g⟩ := ho.2 enc W fuel _ _ hf
  exact ⟨a, cs, rfl, by simpa [Value.cells] using ha, g⟩
def LNt : Lay (Int × List PC) where
  size := 2
  rep := fun w F a cs => ∃ A n c, cs = [.int .u64 a.1, .slice A n c] ∧ n ≤ c ∧ c ≤ 9223372036854775807 ∧ LP.rd w F A n a.2
  len := fun h => by obtain ⟨A, n, c, rfl, _⟩ := h; rfl
  one := fun h u hu => by obtain ⟨A, n, c, rfl, _⟩ := h; simp at hu; rcases hu with rfl | rfl <;> rfl
  keep := fun hk h => by obtain ⟨A, n, c, e, h1, h2, hr⟩ := h; exact ⟨A, n, c, e, h1, h2, Lay.rd_keep hk hr⟩
  weak := fun hk h => by obtain ⟨A, n, c, e, h1, h2, hr⟩ := h; exact ⟨A, n, c, e, h1, h2, Lay.rd_weak hk hr⟩
theorem opens_net : Opens Try.prog 26 LNt (fun a => U64r a.1 ∧ ∀ p ∈ a.2, p.rng) :=
  opens_as (opens_struct Try.underlying26 (by kernel_rfl)
    (opensAt_cons 0 23 (by kernel_rfl) (opens_int Try.underlying23 (by kernel_rfl))
      (opensAt_last 1 24 (by kernel_rfl) opens_parcels))) rfl
    (fun w a cs h g => by
      obtain ⟨s, ps⟩ := a
      obtain ⟨_, _, rfl, rfl, A, n, c, rfl, h1, h2, hr⟩ := h
      exact ⟨(s, ps), ⟨A, n, c, rfl, h1, h2, hr⟩, wf_u64 g.1, g.2⟩)
def LO : Lay OpC where
  size := 8
  rep := fun w F o cs => ∃ A n c, cs = [.int .i64 o.kind, .int .i64 o.frm, .int .i64 o.to, .int .i64 o.at_, .int .i64 o.place, .bool o.oth, vb o.by_, .slice A n c] ∧ n ≤ c ∧ c ≤ 9223372036854775807 ∧ LB.rd w F A n o.bs
  len := fun h => by obtain ⟨A, n, c, rfl, _⟩ := h; rfl
  one := fun h u hu => by obtain ⟨A, n, c, rfl, _⟩ := h; simp at hu; rcases hu with rfl | rfl | rfl | rfl | rfl | rfl | rfl | rfl <;> rfl
  keep := fun hk h => by obtain ⟨A, n, c, e, h1, h2, hr⟩ := h; exact ⟨A, n, c, e, h1, h2, Lay.rd_keep hk hr⟩
  weak := fun hk h => by obtain ⟨A, n, c, e, h1, h2, hr⟩ := h; exact ⟨A, n, c, e, h1, h2, Lay.rd_weak hk hr⟩
set_option maxRecDepth 100000 in
theorem opens_op : Opens Try.prog 49 LO (fun _ => True) :=
  opens_as (opens_struct Try.underlying49 (by kernel_rfl)
    (opensAt_cons 0 3 (by kernel_rfl) (opens_int Try.underlying3 (by kernel_rfl))
    (opensAt_cons 1 3 (by kernel_rfl) (opens_int Try.underlying3 (by kernel_rfl))
    (opensAt_cons 2 3 (by kernel_rfl) (opens_int Try.underlying3 (by kernel_rfl))
    (opensAt_cons 3 3 (by kernel_rfl) (opens_int Try.underlying3 (by kernel_rfl))
    (opensAt_cons 4 3 (by kernel_rfl) (opens_int Try.underlying3 (by kernel_rfl))
    (opensAt_cons 5 4 (by kernel_rfl) (opens_bool Try.underlying4 (by kernel_rfl))
    (opensAt_cons 6 5 (by kernel_rfl) opens_byte
      (opensAt_last 7 27 (by kernel_rfl) opens_bytes))))))))) rfl
    (fun w a cs h g => by
      obtain ⟨k, f, t, a, p, ot, y, bs⟩ := a
      obtain ⟨_, _, rfl, rfl, _, _, rfl, rfl, _, _, rfl, rfl, _, _, rfl, rfl, _, _, rfl, rfl, _, _, rfl, rfl, _, _, rfl, hy, A, n, c, rfl, h1, h2, hr⟩ := h
      have hy' : _ = [vb y] := hy
      subst hy'
      exact ⟨⟨k, f, t, a, p, ot, y, bs⟩, ⟨A, n, c, rfl, h1, h2, hr⟩, trivial⟩)
set_option maxRecDepth 100000 in
theorem open_net {H : Type} {enc : TypeId × Value → H} {W : World} {r : Reach} {base : Nat} {v : Value} {d : DataW H} {p : List MemPlace} (hv : Value.okWide Try.prog W r base 26 v) (h : DataW.Trod enc Try.prog W 0 (fun _ => true) true 26 v d p) :
    ∃ sent A m c ps, v = .agg #[.int .u64 sent, .slice A m c] ∧ LP.rd W AllB A m ps ∧ m ≤ 9223372036854775807 ∧ 0 ≤ sent := by
  obtain ⟨⟨s, ps⟩, cs, rfl, ⟨A, n, c, e, h1, h2, hr⟩, g, _⟩ := open_agg Try.underlying26 opens_net hv h
  exact ⟨s, A, n, c, ps, by rw [show cs = #[.int .u64 s, .slice A n c] from by apply Array.ext'; exact e], hr, Nat.le_trans h1 h2, g.1⟩
set_option maxRecDepth 100000 in
theorem open_op {H : Type} {enc : TypeId × Value → H} {W : World} {r : Reach} {base : Nat} {v : Value} {d : DataW H} {p : List MemPlace} (hv : Value.okWide Try.prog W r base 49 v) (h : DataW.Trod enc Try.prog W 0 (fun _ => true) true 49 v d p) :
    ∃ (o : OpC) (A : Option Addr) (n c : Nat), v = .agg (o.cells A n c) ∧ RdB W A n o.bs ∧ n ≤ c ∧ c ≤ 9223372036854775807 := by
  obtain ⟨o, cs, rfl, ⟨A, n, c, e, h1, h2, hr⟩, _⟩ := open_agg Try.underlying49 opens_op hv h
  exact ⟨o, A, n, c, by rw [show cs = o.cells A n c from by apply Array.ext'; exact e], LB_rd hr, h1, h2⟩
end Go.Proofs.Ytnbcffnhgijmcaa
