/- The references' equality of batches and senders. Conditions: the slices read so. -/
import Derived.Test.YtojghgbaiiajfaaPkO13
namespace Go.Proofs.Ytojghgbaiiajfaa
open Go.RowKit
set_option maxRecDepth 100000 in
set_option maxHeartbeats 4000000 in
theorem rsameB_any (F G : Nat → Prop) (a b : BC) (A B : Option Addr) (m c n d : Nat) (w : World) (hx : LR.rd w F A m a.rows) (hy : LR.rd w G B n b.rows) (hm : m ≤ 9223372036854775807) :
    Calls Try.prog 38 #[.agg (a.cells A m c), .agg (b.cells B n d)] w fun e w' => e = .returned (.bool (eqBC a b)) ∧ Below w.heap.size w w' := by
  have b1 := bl_al (bl_al (Below.refl w.heap.size w) (.cells (a.cells A m c) 45)) (.cells (b.cells B n d) 45)
  have HE := Lib.hid (same05_any F G A B m c n d a.rows b.rows _ (Lay.rd_below hx b1) (Lay.rd_below hy b1) hm)
  have HB := Lib.hid b1
  have HR := Lib.hid (show eqBC a b = (a.fin == b.fin && (a.cnt == b.cnt && decide (a.rows = b.rows))) from rfl)
  generalize eqBC a b = r at *
  clear hx hy b1
  obtain ⟨ra, fa, na⟩ := a
  obtain ⟨rb, fb, nb⟩ := b
  dsimp only at *
  generalize decide (ra = rb) = z at *
  by_cases hf : fa = fb
  · subst hf
    by_cases hn : na = nb
    · subst hn
      go_enter Try.func38, Try.ntmps38
      go_wp2_with fail
      refine HE.out.mono ?_
      rintro e w2 ⟨rfl, q2⟩
      have HQ := Lib.hid (bl_ca HB.out q2)
      clear q2
      go_wp2
      go_ret
      exact ⟨ret_bool (by rw [HR.out]; simp), HQ.out⟩
    · have d1 : (na == nb) = false := by simpa using hn
      clear hn
      go_enter Try.func38, Try.ntmps38
      go_wp2
      go_ret
      exact ⟨ret_bool (by rw [HR.out, d1]; simp), HB.out⟩
  · have d1 : (fa == fb) = false := by simpa using hf
    clear hf
    go_enter Try.func38, Try.ntmps38
    go_wp2
    go_ret
    exact ⟨ret_bool (by rw [HR.out, d1]; simp), HB.out⟩
theorem SB.ca {w w' : World} {F : Nat → Prop} {p : Addr} {b : BC} {B : Option Addr} {n c : Nat} (h : SB w F p b B n c) (q : Below w.heap.size w w') : SB w' F p b B n c :=
  ⟨(q.cell (p := p) (cells_block h.c0)).trans h.c0, (q.cell (p := ⟨p.block, p.off + 1, none⟩) (cells_block h.c1)).trans h.c1, (q.cell (p := ⟨p.block, p.off + 2, none⟩) (cells_block h.c2)).trans h.c2, h.nc, h.cm, Lay.rd_below h.rd q⟩
set_option maxRecDepth 100000 in
set_option maxHeartbeats 8000000 in
theorem rsameBs_any (F G : Nat → Prop) (A B : Option Addr) (m c n d : Nat) (xs ys : List BC) (w : World) (hx : LB3.rd w F A m xs) (hy : LB3.rd w G B n ys) (hm : m ≤ 9223372036854775807) :
    Calls Try.prog 50 #[.slice A m c, .slice B n d] w fun e w' => e = .returned (.bool (decide (xs = ys))) ∧ Below w.heap.size w w' := by
  have hxl := Lay.rd_len hx
  have hyl := Lay.rd_len hy
  by_cases hmn : m = n
  · subst hmn
    obtain ⟨r, hr⟩ : ∃ r, r = decide (xs = ys) := ⟨_, rfl⟩
    rw [← hr]
    have HR := Lib.hid hr
    have HXL := Lib.hid hxl
    have HYL := Lib.hid hyl
    skip
    clear hr hxl hyl
    go_enter Try.func50, Try.ntmps50
    go_wp2_with fail
    go_loopg [13] m (fun g s wr => ∃ i : Nat, i + g ≤ m ∧ m ≤ i + g ∧ s = .int .i64 i ∧ xs.take i = ys.take i ∧ Below w.heap.size w wr)
    case atStart => exact ⟨0, by omega, by omega, rfl, rfl, Below.refl _ _⟩
    case round =>
      obtain ⟨i, hi1, hi2, rfl, hp, bb⟩ := hrel
      have HBB := Lib.hid bb
      have HP := Lib.hid hp
      clear hp
      by_cases hi : i < m
      · have hil : (i : Int) < (m : Int) := by omega
        obtain ⟨p1, v, B1, k1, c1, rfl, hv, s1⟩ := LB3_at (Lay.rd_below hx bb) hi
        obtain ⟨p2, u, B2, k2, c2, rfl, hu, s2⟩ := LB3_at (Lay.rd_below hy bb) hi
        have HS1 := Lib.hid (fun W (q : Below wr.heap.size wr W) => s1.ca q)
        have HS2 := Lib.hid (fun W (q : Below wr.heap.size wr W) => s2.ca q)
        have HCO := Lib.hid (fun W (q : Below wr.heap.size wr W) => rsameB_any F G v u B1 B2 k1 c1 k2 c2 W (s1.ca q).rd (s2.ca q).rd (Nat.le_trans s1.nc s1.cm))
        clear s1 s2
        have HVI := Lib.hid hv
        have HUI := Lib.hid hu
        clear hv hu hx hy bb
        by_cases hvu : v = u
        · have HP2 := Lib.hid (show xs.take (i + 1) = ys.take (i + 1) from by rw [List.take_add_one, List.take_add_one, HP.out, HVI.out, HUI.out, hvu])
          have HVU := Lib.hid hvu
          clear hvu
          have HEQ := Lib.hid (show eqBC v u = true from (eqBC_iff v u).2 HVU.out)
          go_wp2_with fail
          refine wp_region_ps (S := fun _ _ w' => Below wr.heap.size wr w') (by kernel_rfl) ?spswqst ?ppswqst
          case spswqst =>
            exact (Below.refl _ _).drew
          refine Ps.step (i := 0) (d := some 16) (u := ?uwqst_1) rfl rfl (by kernel_rfl) (by kernel_rfl) (by kernel_rfl) (by kernel_rfl) ?ywqst_1 ?rwqst_1
          case ywqst_1 =>
            refine StepS.pure (fun _ _ _ h => h) (by rfl) (fun w9 => ?_)
            go_simp
            try rfl
          try simp only [Act.put, List.setIfInBounds_toArray, List.set_cons_zero, List.set_cons_succ]
          refine Ps.step (i := 1) (d := some 17) (u := ?uwqst_2) rfl rfl (by kernel_rfl) (by kernel_rfl) (by kernel_rfl) (by kernel_rfl) ?ywqst_2 ?rwqst_2
          case ywqst_2 =>
            refine StepS.pure (fun _ _ _ h => h) (by rfl) (fun w9 => ?_)
            go_simp
            try rfl
          try simp only [Act.put, List.setIfInBounds_toArray, List.set_cons_zero, List.set_cons_succ]
          refine Ps.step (i := 2) (d := some 18) (u := ?uwqst_3) rfl rfl (by kernel_rfl) (by kernel_rfl) (by kernel_rfl) (by kernel_rfl) ?ywqst_3 ?rwqst_3
          case ywqst_3 =>
            refine StepS.pure (fun _ _ _ h => h) (by rfl) (fun w9 => ?_)
            go_simp
            try rfl
          try simp only [Act.put, List.setIfInBounds_toArray, List.set_cons_zero, List.set_cons_succ]
          refine Ps.step (i := 3) (d := some 19) (u := ?uwqst_4) rfl rfl (by kernel_rfl) (by kernel_rfl) (by kernel_rfl) (by kernel_rfl) ?ywqst_4 ?rwqst_4
          case ywqst_4 =>
            refine StepS.read [] (by kernel_rfl) (fun _ _ _ h => h) (by rfl) (fun L9 m9 w9 hSh hAt hDn hS => ?_)
            have hT : Below _ _ w9 := hS
            have x0 := (HS1.out w9 hT).c0
            have x1 := (HS1.out w9 hT).c1
            have x2 := (HS1.out w9 hT).c2
            clear hT hS
            go_simp
            try rfl
          try simp only [Act.put, List.setIfInBounds_toArray, List.set_cons_zero, List.set_cons_succ]
          refine Ps.step (i := 4) (d := some 20) (u := ?uwqst_5) rfl rfl (by kernel_rfl) (by kernel_rfl) (by kernel_rfl) (by kernel_rfl) ?ywqst_5 ?rwqst_5
          case ywqst_5 =>
            refine StepS.pure (fun _ _ _ h => h) (by rfl) (fun w9 => ?_)
            go_simp
            try rfl
          try simp only [Act.put, List.setIfInBounds_toArray, List.set_cons_zero, List.set_cons_succ]
          refine Ps.step (i := 5) (d := some 21) (u := ?uwqst_6) rfl rfl (by kernel_rfl) (by kernel_rfl) (by kernel_rfl) (by kernel_rfl) ?ywqst_6 ?rwqst_6
          case ywqst_6 =>
            refine StepS.pure (fun _ _ _ h => h) (by rfl) (fun w9 => ?_)
            go_simp
            try rfl
          try simp only [Act.put, List.setIfInBounds_toArray, List.set_cons_zero, List.set_cons_succ]
          refine Ps.step (i := 6) (d := some 22) (u := ?uwqst_7) rfl rfl (by kernel_rfl) (by kernel_rfl) (by kernel_rfl) (by kernel_rfl) ?ywqst_7 ?rwqst_7
          case ywqst_7 =>
            refine StepS.pure (fun _ _ _ h => h) (by rfl) (fun w9 => ?_)
            go_simp
            try rfl
          try simp only [Act.put, List.setIfInBounds_toArray, List.set_cons_zero, List.set_cons_succ]
          refine Ps.step (i := 7) (d := some 23) (u := ?uwqst_8) rfl rfl (by kernel_rfl) (by kernel_rfl) (by kernel_rfl) (by kernel_rfl) ?ywqst_8 ?rwqst_8
          case ywqst_8 =>
            refine StepS.read [] (by kernel_rfl) (fun _ _ _ h => h) (by rfl) (fun L9 m9 w9 hSh hAt hDn hS => ?_)
            have hT : Below _ _ w9 := hS
            have x0 := (HS2.out w9 hT).c0
            have x1 := (HS2.out w9 hT).c1
            have x2 := (HS2.out w9 hT).c2
            clear hT hS
            go_simp
            try rfl
          try simp only [Act.put, List.setIfInBounds_toArray, List.set_cons_zero, List.set_cons_succ]
          refine Ps.step (i := 8) (d := some 24) (u := (.bool true)) rfl rfl (by kernel_rfl) (by kernel_rfl) (by kernel_rfl) (by kernel_rfl) ?ywqst_9 ?rwqst_9
          case ywqst_9 =>
            refine StepS.call ?fwqst_9 ?awqst_9 [] (by kernel_rfl) (by rfl) (fun w9 => ?hwqst_9) (fun L9 m9 w9 hSh hAt hDn hS => ?cwqst_9)
            case hwqst_9 => go_simp; refine ⟨?_, ?_⟩ <;> rfl
            case cwqst_9 =>
              have hT : Below _ _ w9 := hS
              refine (HCO.out w9 hT).mono ?_
              rintro e w8 ⟨rfl, q8⟩
              exact ⟨by rw [HEQ.out], bl_ca hT q8⟩
          try simp only [Act.put, List.setIfInBounds_toArray, List.set_cons_zero, List.set_cons_succ]
          refine Ps.step (i := 9) (d := some 25) (u := ?uwqst_10) rfl rfl (by kernel_rfl) (by kernel_rfl) (by kernel_rfl) (by kernel_rfl) ?ywqst_10 ?rwqst_10
          case ywqst_10 =>
            refine StepS.pure (fun _ _ _ h => h) (by rfl) (fun w9 => ?_)
            go_simp
            try rfl
          try simp only [Act.put, List.setIfInBounds_toArray, List.set_cons_zero, List.set_cons_succ]
          refine Ps.done (by kernel_rfl) (fun wqst hS => ?_) _
          have HBN := Lib.hid (bl_ca HBB.out (show Below wr.heap.size wr _ from hS))
          clear hS
          obtain ⟨w7, rfl⟩ : ∃ x, x = wqst := ⟨_, rfl⟩
          go_wp2
          go_roundg (gk - 1)
          · exact ⟨i + 1, by omega, by omega, by go_num, HP2.out, HBN.out⟩
          · omega
        · have HF := Lib.hid (show r = false from by
            rw [HR.out]
            refine decide_eq_false fun e => hvu ?_
            have h1 := HVI.out
            rw [e, HUI.out] at h1
            injection h1 with h1
            exact h1.symm)
          have HVU := Lib.hid hvu
          clear hvu
          have HEQ := Lib.hid (show eqBC v u = false from by cases he : eqBC v u; rfl; exact absurd ((eqBC_iff v u).1 he) HVU.out)
          go_wp2_with fail
          refine wp_region_ps (S := fun _ _ w' => Below wr.heap.size wr w') (by kernel_rfl) ?spswqsf ?ppswqsf
          case spswqsf =>
            exact (Below.refl _ _).drew
          refine Ps.step (i := 0) (d := some 16) (u := ?uwqsf_11) rfl rfl (by kernel_rfl) (by kernel_rfl) (by kernel_rfl) (by kernel_rfl) ?ywqsf_11 ?rwqsf_11
          case ywqsf_11 =>
            refine StepS.pure (fun _ _ _ h => h) (by rfl) (fun w9 => ?_)
            go_simp
            try rfl
          try simp only [Act.put, List.setIfInBounds_toArray, List.set_cons_zero, List.set_cons_succ]
          refine Ps.step (i := 1) (d := some 17) (u := ?uwqsf_12) rfl rfl (by kernel_rfl) (by kernel_rfl) (by kernel_rfl) (by kernel_rfl) ?ywqsf_12 ?rwqsf_12
          case ywqsf_12 =>
            refine StepS.pure (fun _ _ _ h => h) (by rfl) (fun w9 => ?_)
            go_simp
            try rfl
          try simp only [Act.put, List.setIfInBounds_toArray, List.set_cons_zero, List.set_cons_succ]
          refine Ps.step (i := 2) (d := some 18) (u := ?uwqsf_13) rfl rfl (by kernel_rfl) (by kernel_rfl) (by kernel_rfl) (by kernel_rfl) ?ywqsf_13 ?rwqsf_13
          case ywqsf_13 =>
            refine StepS.pure (fun _ _ _ h => h) (by rfl) (fun w9 => ?_)
            go_simp
            try rfl
          try simp only [Act.put, List.setIfInBounds_toArray, List.set_cons_zero, List.set_cons_succ]
          refine Ps.step (i := 3) (d := some 19) (u := ?uwqsf_14) rfl rfl (by kernel_rfl) (by kernel_rfl) (by kernel_rfl) (by kernel_rfl) ?ywqsf_14 ?rwqsf_14
          case ywqsf_14 =>
            refine StepS.read [] (by kernel_rfl) (fun _ _ _ h => h) (by rfl) (fun L9 m9 w9 hSh hAt hDn hS => ?_)
            have hT : Below _ _ w9 := hS
            have x0 := (HS1.out w9 hT).c0
            have x1 := (HS1.out w9 hT).c1
            have x2 := (HS1.out w9 hT).c2
            clear hT hS
            go_simp
            try rfl
          try simp only [Act.put, List.setIfInBounds_toArray, List.set_cons_zero, List.set_cons_succ]
          refine Ps.step (i := 4) (d := some 20) (u := ?uwqsf_15) rfl rfl (by kernel_rfl) (by kernel_rfl) (by kernel_rfl) (by kernel_rfl) ?ywqsf_15 ?rwqsf_15
          case ywqsf_15 =>
            refine StepS.pure (fun _ _ _ h => h) (by rfl) (fun w9 => ?_)
            go_simp
            try rfl
          try simp only [Act.put, List.setIfInBounds_toArray, List.set_cons_zero, List.set_cons_succ]
          refine Ps.step (i := 5) (d := some 21) (u := ?uwqsf_16) rfl rfl (by kernel_rfl) (by kernel_rfl) (by kernel_rfl) (by kernel_rfl) ?ywqsf_16 ?rwqsf_16
          case ywqsf_16 =>
            refine StepS.pure (fun _ _ _ h => h) (by rfl) (fun w9 => ?_)
            go_simp
            try rfl
          try simp only [Act.put, List.setIfInBounds_toArray, List.set_cons_zero, List.set_cons_succ]
          refine Ps.step (i := 6) (d := some 22) (u := ?uwqsf_17) rfl rfl (by kernel_rfl) (by kernel_rfl) (by kernel_rfl) (by kernel_rfl) ?ywqsf_17 ?rwqsf_17
          case ywqsf_17 =>
            refine StepS.pure (fun _ _ _ h => h) (by rfl) (fun w9 => ?_)
            go_simp
            try rfl
          try simp only [Act.put, List.setIfInBounds_toArray, List.set_cons_zero, List.set_cons_succ]
          refine Ps.step (i := 7) (d := some 23) (u := ?uwqsf_18) rfl rfl (by kernel_rfl) (by kernel_rfl) (by kernel_rfl) (by kernel_rfl) ?ywqsf_18 ?rwqsf_18
          case ywqsf_18 =>
            refine StepS.read [] (by kernel_rfl) (fun _ _ _ h => h) (by rfl) (fun L9 m9 w9 hSh hAt hDn hS => ?_)
            have hT : Below _ _ w9 := hS
            have x0 := (HS2.out w9 hT).c0
            have x1 := (HS2.out w9 hT).c1
            have x2 := (HS2.out w9 hT).c2
            clear hT hS
            go_simp
            try rfl
          try simp only [Act.put, List.setIfInBounds_toArray, List.set_cons_zero, List.set_cons_succ]
          refine Ps.step (i := 8) (d := some 24) (u := (.bool false)) rfl rfl (by kernel_rfl) (by kernel_rfl) (by kernel_rfl) (by kernel_rfl) ?ywqsf_19 ?rwqsf_19
          case ywqsf_19 =>
            refine StepS.call ?fwqsf_19 ?awqsf_19 [] (by kernel_rfl) (by rfl) (fun w9 => ?hwqsf_19) (fun L9 m9 w9 hSh hAt hDn hS => ?cwqsf_19)
            case hwqsf_19 => go_simp; refine ⟨?_, ?_⟩ <;> rfl
            case cwqsf_19 =>
              have hT : Below _ _ w9 := hS
              refine (HCO.out w9 hT).mono ?_
              rintro e w8 ⟨rfl, q8⟩
              exact ⟨by rw [HEQ.out], bl_ca hT q8⟩
          try simp only [Act.put, List.setIfInBounds_toArray, List.set_cons_zero, List.set_cons_succ]
          refine Ps.step (i := 9) (d := some 25) (u := ?uwqsf_20) rfl rfl (by kernel_rfl) (by kernel_rfl) (by kernel_rfl) (by kernel_rfl) ?ywqsf_20 ?rwqsf_20
          case ywqsf_20 =>
            refine StepS.pure (fun _ _ _ h => h) (by rfl) (fun w9 => ?_)
            go_simp
            try rfl
          try simp only [Act.put, List.setIfInBounds_toArray, List.set_cons_zero, List.set_cons_succ]
          refine Ps.done (by kernel_rfl) (fun wqsf hS => ?_) _
          have HBN := Lib.hid (bl_ca HBB.out (show Below wr.heap.size wr _ from hS))
          clear hS
          obtain ⟨w7, rfl⟩ : ∃ x, x = wqsf := ⟨_, rfl⟩
          go_wp2
          go_ret
          exact ⟨ret_bool (by rw [HF.out]), HBN.out⟩
      · obtain rfl : i = m := by omega
        have hil : (i : Int) ≤ (i : Int) := by omega
        have HT := Lib.hid (show r = true from by
          have hp := HP.out
          rw [List.take_of_length_le (by rw [HXL.out]; omega), List.take_of_length_le (by rw [HYL.out]; omega)] at hp
          rw [HR.out]
          exact decide_eq_true hp)
        clear hx hy bb
        go_wp2
        go_ret
        exact ⟨ret_bool (by rw [HT.out]), HBB.out⟩
  · have e : decide (xs = ys) = false := decide_eq_false fun e => hmn (by rw [← hxl, ← hyl, e])
    rw [e]
    clear e hx hy hxl hyl
    go_enter Try.func50, Try.ntmps50
    go_wp2
    go_ret
    exact ⟨rfl, Below.refl _ _⟩
set_option maxRecDepth 100000 in
set_option maxHeartbeats 8000000 in
theorem rsameS_any (F G : Nat → Prop) (a b : SC) (A B : Option Addr) (m c n d : Nat) (w : World) (hx : LB3.rd w F A m a.q) (hy : LB3.rd w G B n b.q) (hm : m ≤ 9223372036854775807) :
    Calls Try.prog 12 #[.agg (a.cells A m c), .agg (b.cells B n d)] w fun e w' => e = .returned (.bool (eqSC a b)) ∧ Below w.heap.size w w' := by
  have b1 := bl_al (bl_al (Below.refl w.heap.size w) (.cells (a.cells A m c) 29)) (.cells (b.cells B n d) 29)
  have HE := Lib.hid (rsameBs_any F G A B m c n d a.q b.q _ (Lay.rd_below hx b1) (Lay.rd_below hy b1) hm)
  have HB := Lib.hid b1
  have HR := Lib.hid (show eqSC a b = (flatSC a b && decide (a.q = b.q)) from rfl)
  generalize eqSC a b = r at *
  clear hx hy b1
  obtain ⟨a0, a1, qa, a3, a4, a5, a6⟩ := a
  obtain ⟨b0, b1, qb, b3, b4, b5, b6⟩ := b
  unfold flatSC at HR
  dsimp only at *
  generalize decide (qa = qb) = z at *
  by_cases h0 : a0 = b0
  · subst h0
    by_cases h1 : a1 = b1
    · subst h1
      by_cases h2 : a3 = b3
      · subst h2
        by_cases h3 : a4 = b4
        · subst h3
          by_cases h4 : a5 = b5
          · subst h4
            by_cases h5 : a6 = b6
            · subst h5
              go_enter Try.func12, Try.ntmps12
              go_wp2_with fail
              refine HE.out.mono ?_
              rintro e w2 ⟨rfl, q2⟩
              have HQ := Lib.hid (bl_ca HB.out q2)
              clear q2
              go_wp2
              go_ret
              exact ⟨ret_bool (by rw [HR.out]; simp), HQ.out⟩
            · have d1 : (a6 == b6) = false := by simpa using h5
              clear h5
              go_enter Try.func12, Try.ntmps12
              go_wp2
              go_ret
              exact ⟨ret_bool (by rw [HR.out, d1]; simp), HB.out⟩
          · have d1 : (a5 == b5) = false := by simpa using h4
            clear h4
            go_enter Try.func12, Try.ntmps12
            go_wp2
            go_ret
            exact ⟨ret_bool (by rw [HR.out, d1]; simp), HB.out⟩
        · have d1 : (a4 == b4) = false := by simpa using h3
          clear h3
          go_enter Try.func12, Try.ntmps12
          go_wp2
          go_ret
          exact ⟨ret_bool (by rw [HR.out, d1]; simp), HB.out⟩
      · have d1 : (a3 == b3) = false := by simpa using h2
        clear h2
        go_enter Try.func12, Try.ntmps12
        go_wp2
        go_ret
        exact ⟨ret_bool (by rw [HR.out, d1]; simp), HB.out⟩
    · have d1 : (a1 == b1) = false := by simpa using h1
      clear h1
      go_enter Try.func12, Try.ntmps12
      go_wp2
      go_ret
      exact ⟨ret_bool (by rw [HR.out, d1]; simp), HB.out⟩
  · have d1 : (a0 == b0) = false := by simpa using h0
    clear h0
    go_enter Try.func12, Try.ntmps12
    go_wp2
    go_ret
    exact ⟨ret_bool (by rw [HR.out, d1]; simp), HB.out⟩
end Go.Proofs.Ytojghgbaiiajfaa
