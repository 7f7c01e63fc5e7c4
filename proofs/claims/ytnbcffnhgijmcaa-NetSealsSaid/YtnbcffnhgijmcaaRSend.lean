/- bowspritref24.Send, bowspritref24.Twin. Conditions: the slice reads as these parcels, not too many. -/
import Derived.Test.YtnbcffnhgijmcaaRWith
namespace Go.Proofs.Ytnbcffnhgijmcaa
open Go.RowKit
def rsendE (sent : Int) (ps : List PC) (f t : Int) (bs : List UInt8) : Int := if pairB f t then (if 60000 < bs.length then 3 else addE sent ps) else 2
def rsendR (sent : Int) (ps : List PC) (f t : Int) (bs : List UInt8) : Int × List PC := if pairB f t then (if 60000 < bs.length then (0, []) else withR sent ps (newP f t bs)) else (0, [])
set_option maxRecDepth 100000 in
set_option maxHeartbeats 8000000 in
theorem rsend_any (sent : Int) (A : Option Addr) (m c : Nat) (ps : List PC) (f t : Int) (bA : Option Addr) (bn bc : Nat) (bs : List UInt8) (w : World) (h : LP.rd w AllB A m ps) (hm : m ≤ 20000) (hb : ∀ p ∈ ps, p.bs.length ≤ 100000) (hp : RdB w bA bn bs) (hs0 : 0 ≤ sent) (hs : sent ≤ 1099511627776) :
    Calls Try.prog 12 #[.agg #[.int .u64 sent, .slice A m c], .int .i64 f, .int .i64 t, .slice bA bn bc] w (WithC w (rsendR sent ps f t bs) (rsendE sent ps f t bs)) := by
  have bb := Below.refl w.heap.size w
  have bN := Blk.new w 26 #[.int .u64 sent, .slice A m c]
  replace bb := bl_al bb (.cells #[.int .u64 sent, .slice A m c] 26)
  replace bN := bN.ca (bl_al (Below.refl _ _) (.cells #[.int .u64 0, .slice none 0 0] 26))
  have bR : Blk ((w.alloc (.cells #[.int .u64 sent, .slice A m c] 26)).alloc (.cells #[.int .u64 0, .slice none 0 0] 26)) (w.heap.size + 1) 26 #[.int .u64 0, .slice none 0 0] := Blk.mk' (by simp only [World.size_alloc])
  replace bb := bl_al bb (.cells #[.int .u64 0, .slice none 0 0] 26)
  have hsz : w.heap.size + 2 ≤ ((w.alloc (.cells #[.int .u64 sent, .slice A m c] 26)).alloc (.cells #[.int .u64 0, .slice none 0 0] 26)).heap.size := by simp only [World.size_alloc]; omega
  have n0 : ((w.alloc (.cells #[.int .u64 sent, .slice A m c] 26)).alloc (.cells #[.int .u64 0, .slice none 0 0] 26)).cell? ⟨w.heap.size, 0, none⟩ = some (.int .u64 sent) := bN.cell 0
  have n1 : ((w.alloc (.cells #[.int .u64 sent, .slice A m c] 26)).alloc (.cells #[.int .u64 0, .slice none 0 0] 26)).cell? ⟨w.heap.size, 1, none⟩ = some (.slice A m c) := bN.cell 1
  have hlen := hp.len
  have HW := Lib.hid (fun (hpn : bn ≤ 100000) => rwith_any sent A m c ps (newP f t bs) bA bn bc _ (Lay.rd_below h bb) hm hb (hp.below bb) hpn hs0 hs)
  have HR := Lib.hid bR
  have HB := Lib.hid bb
  have HPA := Lib.hid (fun w => rpair_any f t w)
  clear bN bR bb h hb hp
  unfold rsendR rsendE
  cases hpb : pairB f t
  · rw [hpb] at HPA
    clear hpb
    go_enter Try.func12, Try.ntmps12
    go_wp2_with fail
    refine (HPA.out _).mono ?_
    rintro e w1 ⟨rfl, rfl⟩
    go_wp2_with (refine wpList_store_blk rfl 26 (.tmp 8) (.tmp 16) rfl (w.heap.size + 1) 26 _ _ rfl rfl HR.out rfl netI (by simp [Value.oneCell']) ?_; intro wz hZ gz)
    exact bodyPost_ret (res3 Try.results12 rfl rfl rfl hZ Try.underlying26 rfl netI) rfl ⟨none, 0, 0, rfl, OutN.nil _ _, bl_gr HB.out gz (by omega)⟩
  · rw [hpb] at HPA
    clear hpb
    by_cases hl : 60000 < bs.length
    · have hl1 : (60000 : Int) < (bn : Int) := by omega
      simp only [hl, if_true]
      go_enter Try.func12, Try.ntmps12
      go_wp2_with fail
      refine (HPA.out _).mono ?_
      rintro e w1 ⟨rfl, rfl⟩
      go_wp2_with (refine wpList_store_blk rfl 26 (.tmp 8) (.tmp 21) rfl (w.heap.size + 1) 26 _ _ rfl rfl HR.out rfl netI (by simp [Value.oneCell']) ?_; intro wz hZ gz)
      exact bodyPost_ret (res3 Try.results12 rfl rfl rfl hZ Try.underlying26 rfl netI) rfl ⟨none, 0, 0, rfl, OutN.nil _ _, bl_gr HB.out gz (by omega)⟩
    · have hl1 : (bn : Int) ≤ 60000 := by omega
      have HW2 := Lib.hid (HW.out (by omega))
      simp only [hl, if_true, if_false]
      clear HW hl hlen
      generalize withR sent ps (newP f t bs) = R at *
      generalize addE sent ps = E at *
      obtain ⟨s, l⟩ := R
      go_enter Try.func12, Try.ntmps12
      go_wp2_with fail
      refine (HPA.out _).mono ?_
      rintro e w1 ⟨rfl, rfl⟩
      go_wp2_with fail
      refine HW2.out.mono ?_
      rintro e w2 ⟨A2, m2, c2, rfl, hO, hb2⟩
      have HR2 := Lib.hid (HR.out.ca hb2)
      have HO := Lib.hid hO
      have HB2 := Lib.hid (bl_ca HB.out hb2)
      have hz2 := Nat.le_trans hsz hb2.size
      clear n0 n1 HW2 hb2 hO HR HB HPA
      generalize ((w.alloc (.cells #[.int .u64 sent, .slice A m c] 26)).alloc (.cells #[.int .u64 0, .slice none 0 0] 26)).heap.size = z1 at *
      go_wp2_with (refine wpList_store_blk rfl 26 (.tmp 8) (.tmp 28) rfl (w.heap.size + 1) 26 _ _ rfl rfl HR2.out rfl netI (by simp [Value.oneCell']) ?_; intro wz hZ gz)
      exact bodyPost_ret (res3 Try.results12 rfl rfl rfl hZ Try.underlying26 rfl netI) rfl ⟨A2, m2, c2, rfl, (HO.out.kept gz (by omega)).less (by omega), bl_gr HB2.out gz (by omega)⟩
theorem tup_inj {s E : Int} {A2 A3 : Option Addr} {m2 m3 c2 c3 : Nat} (h : (Value.tuple #[.agg #[.int .u64 s, .slice A2 m2 c2], .int .u64 s, .int .i64 E]) = .tuple #[.agg #[.int .u64 s, .slice A3 m3 c3], .int .u64 s, .int .i64 E]) : A2 = A3 ∧ m2 = m3 ∧ c2 = c3 := by
  simpa using h
def rtwinE (sent : Int) (ps : List PC) (x : Int) : Int := if hasB ps x then addE sent ps else 4
def rtwinR (sent : Int) (ps : List PC) (x : Int) : Int × List PC := if hasB ps x then withR sent ps (getP ps x) else (0, [])
theorem has_at {ps : List PC} {x : Int} (h : hasB ps x = true) : ps[ixP ps x]? = some (getP ps x) ∧ ixP ps x < ps.length ∧ (getP ps x).num = x := by
  obtain ⟨p, hp, hx⟩ := List.any_eq_true.1 h
  have hl : ixP ps x < ps.length := List.findIdx_lt_length_of_exists ⟨p, hp, hx⟩
  have he : ps[ixP ps x]? = some ps[ixP ps x] := List.getElem?_eq_getElem hl
  have hg : getP ps x = ps[ixP ps x] := by unfold getP; rw [he]; rfl
  refine ⟨by rw [he, hg], hl, ?_⟩
  rw [hg]
  have := List.findIdx_getElem (xs := ps) (p := fun p : PC => decide (p.num = x)) (w := hl)
  exact of_decide_eq_true this
set_option maxRecDepth 100000 in
set_option maxHeartbeats 16000000 in
theorem rtwin_any (sent : Int) (A : Option Addr) (m c : Nat) (ps : List PC) (x : Int) (w : World) (h : LP.rd w AllB A m ps) (hm : m ≤ 20000) (hb : ∀ p ∈ ps, p.bs.length ≤ 100000) (hs0 : 0 ≤ sent) (hs : sent ≤ 1099511627776) :
    Calls Try.prog 14 #[.agg #[.int .u64 sent, .slice A m c], .int .u64 x] w (WithC w (rtwinR sent ps x) (rtwinE sent ps x)) := by
  have hL := h.1
  have bb := Below.refl w.heap.size w
  have bN := Blk.new w 26 #[.int .u64 sent, .slice A m c]
  replace bb := bl_al bb (.cells #[.int .u64 sent, .slice A m c] 26)
  replace bN := bN.ca (bl_al (Below.refl _ _) (.cells #[.int .u64 0, .slice none 0 0] 26))
  have bR : Blk ((w.alloc (.cells #[.int .u64 sent, .slice A m c] 26)).alloc (.cells #[.int .u64 0, .slice none 0 0] 26)) (w.heap.size + 1) 26 #[.int .u64 0, .slice none 0 0] := Blk.mk' (by simp only [World.size_alloc])
  replace bb := bl_al bb (.cells #[.int .u64 0, .slice none 0 0] 26)
  have hsz : w.heap.size + 2 ≤ ((w.alloc (.cells #[.int .u64 sent, .slice A m c] 26)).alloc (.cells #[.int .u64 0, .slice none 0 0] 26)).heap.size := by simp only [World.size_alloc]; omega
  have n0 : ((w.alloc (.cells #[.int .u64 sent, .slice A m c] 26)).alloc (.cells #[.int .u64 0, .slice none 0 0] 26)).cell? ⟨w.heap.size, 0, none⟩ = some (.int .u64 sent) := bN.cell 0
  have n1 : ((w.alloc (.cells #[.int .u64 sent, .slice A m c] 26)).alloc (.cells #[.int .u64 0, .slice none 0 0] 26)).cell? ⟨w.heap.size, 1, none⟩ = some (.slice A m c) := bN.cell 1
  have HF := Lib.hid (rfind_any sent A m c ps x _ (Lay.rd_below h bb) (by omega))
  have HR := Lib.hid bR
  have HN := Lib.hid bN
  have HB := Lib.hid bb
  have HH := Lib.hid h
  have HLB := Lib.hid hb
  clear bN bR bb h hb
  unfold rtwinR rtwinE
  cases hh : hasB ps x
  · rw [show findI ps x = -1 from by unfold findI; rw [hh]; rfl] at HF
    clear hh
    go_enter Try.func14, Try.ntmps14
    go_wp2_with fail
    refine HF.out.mono ?_
    rintro e w1 ⟨rfl, hb1⟩
    have HR1 := Lib.hid (HR.out.ca hb1)
    have HB1 := Lib.hid (bl_ca HB.out hb1)
    clear hb1 HF HR HB
    go_wp2_with (refine wpList_store_blk rfl 26 (.tmp 4) (.tmp 13) rfl (w.heap.size + 1) 26 _ _ rfl rfl HR1.out rfl netI (by simp [Value.oneCell']) ?_; intro wz hZ gz)
    exact bodyPost_ret (res3 Try.results14 rfl rfl rfl hZ Try.underlying26 rfl netI) rfl ⟨none, 0, 0, rfl, OutN.nil _ _, bl_gr HB1.out gz (by omega)⟩
  · obtain ⟨i, hi⟩ : ∃ i, i = ixP ps x := ⟨_, rfl⟩
    obtain ⟨hx, hlt, -⟩ := has_at hh
    rw [show findI ps x = (i : Int) from by unfold findI; rw [hh, hi]; rfl] at HF
    rw [← hi] at hx hlt
    clear hh hi
    have him : i < m := by omega
    have hi0 : (0 : Int) ≤ (i : Int) := by omega
    have him1 : (i : Int) < (m : Int) := by omega
    simp only [if_true]
    have HX := Lib.hid hx
    clear hx hlt
    generalize getP ps x = gp at *
    have HWX := Lib.hid (fun (A' : Option Addr) (B : Option Addr) (n' c' : Nat) (W : World) (h : LP.rd W AllB A' m ps) (hp : RdB W B n' gp.bs) (hpn : n' ≤ 100000) => rwith_any sent A' m c ps gp B n' c' W h hm HLB.out hp hpn hs0 hs)
    generalize withR sent ps gp = R at *
    generalize addE sent ps = E at *
    obtain ⟨s, l⟩ := R
    go_enter Try.func14, Try.ntmps14
    go_wp2_with fail
    refine HF.out.mono ?_
    rintro e w4 ⟨rfl, hb1⟩
    have HR4 := Lib.hid (HR.out.ca hb1)
    have HN4 := Lib.hid (HN.out.ca hb1)
    have HB4 := Lib.hid (bl_ca HB.out hb1)
    have hz4 := Nat.le_trans hsz hb1.size
    clear hb1 HF HR HB HN n0 n1 hsz
    obtain ⟨p, q, B, n', c', rfl, hx2, s1⟩ := LP_at (Lay.rd_below HH.out HB4.out) him
    have e0 := s1.c0
    have e1 := s1.c1
    have e2 := s1.c2
    have e3 := s1.c3
    have e4 := s1.c4
    have el := s1.lt
    have hq : q = gp := by have h1 := HX.out; rw [hx2] at h1; injection h1
    subst hq
    have hqn : n' ≤ 100000 := by have := HLB.out q (List.mem_of_getElem? hx2); have := s1.len; omega
    have HRB := Lib.hid s1.rb
    have HW4 := Lib.hid (show ∀ W, Below w4.heap.size w4 W → Calls Try.prog 46 #[.agg #[.int .u64 sent, .slice (some p) m c], .agg #[.int .u64 q.num, .int .i64 q.frm, .int .i64 q.to, .slice B n' c', .bool q.sp]] W fun e w' => ∃ A2 m2 c2, e = .returned (.tuple #[.agg #[.int .u64 s, .slice A2 m2 c2], .int .u64 s, .int .i64 E]) ∧ OutN w' W.heap.size A2 m2 c2 l ∧ Below W.heap.size W w' from fun W hT => HWX.out (some p) B n' c' W (Lay.rd_below HH.out (bl_ca HB4.out hT)) (HRB.out.below hT) hqn)
    clear hx2 s1 HRB HH HX HLB HWX
    go_wp2_with fail
    refine wp_region_ps (S := SeqT 6 10 (fun _ w' => Below w4.heap.size w4 w') (fun m9 w' => ∃ A2 m2 c2, m9 6 = .tuple #[.agg #[.int .u64 s, .slice A2 m2 c2], .int .u64 s, .int .i64 E] ∧ OutN w' w4.heap.size A2 m2 c2 l ∧ Below w4.heap.size w4 w') (fun m9 w' => ∃ w6 A2 m2 c2, m9 6 = .tuple #[.agg #[.int .u64 s, .slice A2 m2 c2], .int .u64 s, .int .i64 E] ∧ OutN w6 w4.heap.size A2 m2 c2 l ∧ Below w4.heap.size w4 w6 ∧ Blk w' (w.heap.size + 1) 26 #[.int .u64 s, .slice A2 m2 c2] ∧ w6.grownBy w' (some (w.heap.size + 1)))) (by kernel_rfl) ?spswr ?ppswr
    case spswr =>
      exact SeqT.start (by decide) (by decide) (Below.refl _ _).drew
    refine Ps.step (i := 0) (d := some 14) (u := ?uwr_1) rfl rfl (by kernel_rfl) (by kernel_rfl) (by kernel_rfl) (by kernel_rfl) ?ywr_1 ?rwr_1
    case ywr_1 =>
      refine StepS.read [] (by kernel_rfl) (SeqT.pass (by decide) (by decide)) (by rfl) (fun L9 m9 w9 hSh hAt hDn hS => ?_)
      have hT : Below w4.heap.size w4 w9 := SeqT.at1 (reach_no hSh (f := 13) (j := 6) (by kernel_rfl) hDn) (reach_no hSh (f := 13) (j := 10) (by kernel_rfl) hDn) hS
      have n0 : w9.cell? ⟨w.heap.size, 0, none⟩ = some (.int .u64 sent) := (HN4.out.ca hT).cell 0
      have n1 : w9.cell? ⟨w.heap.size, 1, none⟩ = some (.slice (some p) m c) := (HN4.out.ca hT).cell 1
      go_simp
      try rfl
    try simp only [Act.put, List.setIfInBounds_toArray, List.set_cons_zero, List.set_cons_succ]
    refine Ps.step (i := 1) (d := some 15) (u := ?uwr_2) rfl rfl (by kernel_rfl) (by kernel_rfl) (by kernel_rfl) (by kernel_rfl) ?ywr_2 ?rwr_2
    case ywr_2 =>
      refine StepS.pure (SeqT.pass (by decide) (by decide)) (by rfl) (fun w9 => ?_)
      go_simp
      try rfl
    try simp only [Act.put, List.setIfInBounds_toArray, List.set_cons_zero, List.set_cons_succ]
    refine Ps.step (i := 2) (d := some 16) (u := ?uwr_3) rfl rfl (by kernel_rfl) (by kernel_rfl) (by kernel_rfl) (by kernel_rfl) ?ywr_3 ?rwr_3
    case ywr_3 =>
      refine StepS.read [] (by kernel_rfl) (SeqT.pass (by decide) (by decide)) (by rfl) (fun L9 m9 w9 hSh hAt hDn hS => ?_)
      have hT : Below w4.heap.size w4 w9 := SeqT.at1 (reach_no hSh (f := 13) (j := 6) (by kernel_rfl) hDn) (reach_no hSh (f := 13) (j := 10) (by kernel_rfl) hDn) hS
      have n1 : w9.cell? ⟨w.heap.size, 1, none⟩ = some (.slice (some p) m c) := (HN4.out.ca hT).cell 1
      go_simp
      try rfl
    try simp only [Act.put, List.setIfInBounds_toArray, List.set_cons_zero, List.set_cons_succ]
    refine Ps.step (i := 3) (d := some 17) (u := ?uwr_4) rfl rfl (by kernel_rfl) (by kernel_rfl) (by kernel_rfl) (by kernel_rfl) ?ywr_4 ?rwr_4
    case ywr_4 =>
      refine StepS.pure (SeqT.pass (by decide) (by decide)) (by rfl) (fun w9 => ?_)
      go_simp
      try rfl
    try simp only [Act.put, List.setIfInBounds_toArray, List.set_cons_zero, List.set_cons_succ]
    refine Ps.step (i := 4) (d := some 18) (u := ?uwr_5) rfl rfl (by kernel_rfl) (by kernel_rfl) (by kernel_rfl) (by kernel_rfl) ?ywr_5 ?rwr_5
    case ywr_5 =>
      refine StepS.pure (SeqT.pass (by decide) (by decide)) (by rfl) (fun w9 => ?_)
      go_simp
      try rfl
    try simp only [Act.put, List.setIfInBounds_toArray, List.set_cons_zero, List.set_cons_succ]
    refine Ps.step (i := 5) (d := some 19) (u := ?uwr_6) rfl rfl (by kernel_rfl) (by kernel_rfl) (by kernel_rfl) (by kernel_rfl) ?ywr_6 ?rwr_6
    case ywr_6 =>
      refine StepS.read [] (by kernel_rfl) (SeqT.pass (by decide) (by decide)) (by rfl) (fun L9 m9 w9 hSh hAt hDn hS => ?_)
      have hT : Below w4.heap.size w4 w9 := SeqT.at1 (reach_no hSh (f := 13) (j := 6) (by kernel_rfl) hDn) (reach_no hSh (f := 13) (j := 10) (by kernel_rfl) hDn) hS
      have k0 : w9.cell? (p.add (i * 5)) = some (.int .u64 q.num) := cell_ca e0 el hT
      have k1 : w9.cell? ⟨(p.add (i * 5)).block, (p.add (i * 5)).off + 1, none⟩ = some (.int .i64 q.frm) := cell_ca e1 el hT
      have k2 : w9.cell? ⟨(p.add (i * 5)).block, (p.add (i * 5)).off + 2, none⟩ = some (.int .i64 q.to) := cell_ca e2 el hT
      have k3 : w9.cell? ⟨(p.add (i * 5)).block, (p.add (i * 5)).off + 3, none⟩ = some (.slice B n' c') := cell_ca e3 el hT
      have k4 : w9.cell? ⟨(p.add (i * 5)).block, (p.add (i * 5)).off + 4, none⟩ = some (.bool q.sp) := cell_ca e4 el hT
      go_simp
      try rfl
    try simp only [Act.put, List.setIfInBounds_toArray, List.set_cons_zero, List.set_cons_succ]
    refine Ps.one (k := 6) (d := some 20) rfl rfl (by kernel_rfl) (TurnS.call (V := fun v => ∃ A2 m2 c2, v = .tuple #[.agg #[.int .u64 s, .slice A2 m2 c2], .int .u64 s, .int .i64 E]) ?fwr_7 ?awr_7 [] (by kernel_rfl) (by rfl) (fun w9 => ?hwr_7) (fun L9 m9 w9 hSh hAt hDn hS => ?cwr_7)) (fun v6 hVv6 => ?rwr_7)
    case hwr_7 => go_simp; refine ⟨?_, ?_⟩ <;> rfl
    case cwr_7 =>
      have hT : Below w4.heap.size w4 w9 := SeqT.at1 hDn (reach_no hSh (f := 13) (j := 10) (by kernel_rfl) hDn) hS
      exact (HW4.out w9 hT).mono fun _ _ ⟨A2, m2, c2, h1, h2, h3⟩ => ⟨_, h1, ⟨A2, m2, c2, rfl⟩, SeqT.set1 (by decide) (reach_no hSh (f := 13) (j := 10) (by kernel_rfl) hDn) ⟨A2, m2, c2, upd_same _ _ _, h2.less hT.size, bl_ca hT h3⟩⟩
    try simp only [Act.put, List.setIfInBounds_toArray, List.set_cons_zero, List.set_cons_succ]
    obtain ⟨A2, m2, c2, rfl⟩ := hVv6
    refine Ps.step (i := 7) (d := some 21) (u := ?uwr_8) rfl rfl (by kernel_rfl) (by kernel_rfl) (by kernel_rfl) (by kernel_rfl) ?ywr_8 ?rwr_8
    case ywr_8 =>
      refine StepS.pure (SeqT.pass (by decide) (by decide)) (by rfl) (fun w9 => ?_)
      go_simp
      try rfl
    try simp only [Act.put, List.setIfInBounds_toArray, List.set_cons_zero, List.set_cons_succ]
    refine Ps.step (i := 8) (d := some 22) (u := ?uwr_9) rfl rfl (by kernel_rfl) (by kernel_rfl) (by kernel_rfl) (by kernel_rfl) ?ywr_9 ?rwr_9
    case ywr_9 =>
      refine StepS.pure (SeqT.pass (by decide) (by decide)) (by rfl) (fun w9 => ?_)
      go_simp
      try rfl
    try simp only [Act.put, List.setIfInBounds_toArray, List.set_cons_zero, List.set_cons_succ]
    refine Ps.step (i := 9) (d := some 23) (u := ?uwr_10) rfl rfl (by kernel_rfl) (by kernel_rfl) (by kernel_rfl) (by kernel_rfl) ?ywr_10 ?rwr_10
    case ywr_10 =>
      refine StepS.pure (SeqT.pass (by decide) (by decide)) (by rfl) (fun w9 => ?_)
      go_simp
      try rfl
    try simp only [Act.put, List.setIfInBounds_toArray, List.set_cons_zero, List.set_cons_succ]
    refine Ps.step (i := 10) (d := none) (u := undef) rfl rfl (by kernel_rfl) (by kernel_rfl) (by kernel_rfl) (by kernel_rfl) ?ywr_11 ?rwr_11
    case ywr_11 =>
      refine StepS.store [6] (by kernel_rfl) (by rfl) (fun L9 m9 w9 hSh hAt hDn hS => ?_)
      obtain ⟨A3, m3, c3, hv, hO, hT⟩ := SeqT.at2 (hAt 6 (by simp)).1 hDn hS
      have h6 : m9 6 = .tuple #[.agg #[.int .u64 s, .slice A2 m2 c2], .int .u64 s, .int .i64 E] := (hAt 6 (by simp)).2
      rw [h6] at hv
      obtain ⟨rfl, rfl, rfl⟩ := tup_inj hv
      refine (exec_store_blk (w := w9) 26 (.tmp 4) (.tmp 21) (by rfl) (w.heap.size + 1) 26 #[.int .u64 0, .slice none 0 0] #[.int .u64 s, .slice A2 m2 c2] (by rfl) (by rfl) (HR4.out.ca hT) rfl netI (by simp [Value.oneCell'])).imp fun w7 hx => ⟨hx.1, SeqT.set2 (by decide) ⟨w9, A2, m2, c2, h6, hO, hT, hx.2.1, hx.2.2⟩⟩
    try simp only [Act.put]
    refine Ps.step (i := 11) (d := some 5) (u := ?uwr_12) rfl rfl (by kernel_rfl) (by kernel_rfl) (by kernel_rfl) (by kernel_rfl) ?ywr_12 ?rwr_12
    case ywr_12 =>
      refine StepS.pure (SeqT.pass (by decide) (by decide)) (by rfl) (fun w9 => ?_)
      go_simp
      try rfl
    try simp only [Act.put, List.setIfInBounds_toArray, List.set_cons_zero, List.set_cons_succ]
    refine Ps.step (i := 12) (d := some 6) (u := ?uwr_13) rfl rfl (by kernel_rfl) (by kernel_rfl) (by kernel_rfl) (by kernel_rfl) ?ywr_13 ?rwr_13
    case ywr_13 =>
      refine StepS.pure (SeqT.pass (by decide) (by decide)) (by rfl) (fun w9 => ?_)
      go_simp
      try rfl
    try simp only [Act.put, List.setIfInBounds_toArray, List.set_cons_zero, List.set_cons_succ]
    refine Ps.done (by kernel_rfl) (fun wr hS => ?_) _
    obtain ⟨w6, A3, m3, c3, hv, hO, hT, hZ, gz⟩ := SeqT.fin (by rfl) hS
    clear hS
    obtain ⟨rfl, rfl, rfl⟩ := tup_inj (show (.tuple #[.agg #[.int .u64 s, .slice A2 m2 c2], .int .u64 s, .int .i64 E] : Value) = _ from hv)
    clear hv
    go_wp2
    exact bodyPost_ret (res3 Try.results14 rfl rfl rfl hZ Try.underlying26 rfl netI) rfl ⟨A2, m2, c2, rfl, (hO.kept gz (by omega)).less (by omega), bl_gr (bl_ca HB4.out hT) gz (by omega)⟩
end Go.Proofs.Ytnbcffnhgijmcaa
