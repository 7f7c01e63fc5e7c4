/- NetTells, walked. Conditions: the slices read as these nets, nodes and places. -/
import Derived.Test.YtnbcffnhgijmcaaPkB15
namespace Go.Proofs.Ytnbcffnhgijmcaa
open Go.RowKit
def LI : Lay Int := Lay.cell (Value.int .i64) (fun _ => rfl)
theorem add_zero_ (a : Addr) : a.add 0 = a := by unfold Addr.add; simp
theorem LI_at {w : World} {F : Nat → Prop} {A : Option Addr} {n i : Nat} {xs : List Int} (h : LI.rd w F A n xs) (hi : i < n) : ∃ ad x, A = some ad ∧ xs[i]? = some x ∧ w.cell? (ad.add i) = some (.int .i64 x) := by
  obtain ⟨ad, x, cs, rfl, hx, _, _, hrep, hcl⟩ := Lay.rd_at h hi
  have hcs : cs = [.int .i64 x] := hrep
  subst hcs
  refine ⟨ad, x, rfl, hx, ?_⟩
  have := hcl 0 _ rfl
  simpa [LI, Lay.cell] using this
theorem LNt_at {w : World} {F : Nat → Prop} {A : Option Addr} {n i : Nat} {xs : List (Int × List PC)} (h : LNt.rd w F A n xs) (hi : i < n) :
    ∃ ad s ps B k c, A = some ad ∧ xs[i]? = some (s, ps) ∧ (ad.add (i * 2)).block < w.heap.size ∧ w.cell? (ad.add (i * 2)) = some (.int .u64 s) ∧ w.cell? ⟨(ad.add (i * 2)).block, (ad.add (i * 2)).off + 1, none⟩ = some (.slice B k c) ∧ LP.rd w F B k ps ∧ k ≤ 9223372036854775807 := by
  obtain ⟨ad, ⟨s, ps⟩, cs, rfl, hx, hb, _, ⟨B, k, c, rfl, h1, h2, hr⟩, hcl⟩ := Lay.rd_at h hi
  refine ⟨ad, s, ps, B, k, c, rfl, hx, by rw [block_of_add]; exact hb, hcl 0 _ rfl, ?_, hr, Nat.le_trans h1 h2⟩
  rw [← addr_more _ _ 1 (by omega)]
  exact hcl 1 _ rfl
theorem out_cap {w : World} {B : Nat} {A : Option Addr} {m c : Nat} {ps : List PC} (h : OutN w B A m c ps) : m ≤ c ∧ c ≤ 9223372036854775807 := by
  obtain ⟨es, hd, _⟩ := h
  have := hd.row.cap_
  exact ⟨this.1, by have := this.2; first | exact this | (unfold maxLen at this; omega)⟩
theorem own_capU {w : World} {B : Nat} {A : Option Addr} {n c : Nat} {xs : List Int} (h : OwnU w B A n c xs) : n ≤ 9223372036854775807 := by
  obtain ⟨_, cs, _, h3⟩ := h
  rcases h3.2 with ⟨e, _⟩ | ⟨g, cap, cur, e, _, _, h1, h2, _⟩
  · injection e with _ e1 e2; omega
  · unfold maxLen at h2; omega
theorem res_rd {F : Nat → Prop} {w : World} {s : Int} {ps : List PC} {A : Option Addr} {m c : Nat} (h : LRes LNt (fun a => a = (s, ps)) (.agg #[.int .u64 s, .slice A m c]) F w) : LP.rd w AllB A m ps := by
  obtain ⟨a, cs, e, ⟨B, n, d, hcs, _, _, hr⟩, rfl⟩ := h
  injection e with e
  subst e
  simp at hcs
  obtain ⟨rfl, rfl, rfl⟩ := hcs
  exact Lay.rd_weak (fun _ _ _ => trivial) hr
theorem SeqN.move {ks : List Nat} {B : Nat → (Nat → Value) → World → Prop} {L : Array Bool} {m : Nat → Value} {w w' : World} {i : Nat} (h : (ks.all fun k => k != i) = true) (hB : ∀ j m, B j m w → B j m w') (hS : SeqN ks B L m w) : SeqN ks B (L.setIfInBounds i true) m w' := by
  have := SeqN.pass h L m w hS
  exact hB _ _ this
theorem SeqN.after24 {B : Nat → (Nat → Value) → World → Prop} {L : Array Bool} {m : Nat → Value} {w : World} {k : Nat} (hd : Dn L k = true) (hS : SeqN [k] B L m w) : B 1 m w := by
  unfold SeqN cntD cntD at hS
  rw [hd] at hS
  exact hS
set_option maxRecDepth 100000 in
set_option maxHeartbeats 64000000 in
theorem tells_any (lA : Option Addr) (ln lc : Nat) (nets : List (Int × List PC)) (nA : Option Addr) (nn nc : Nat) (nodes : List Int) (pA : Option Addr) (pn pc : Nat) (picks : List Int) (w : World) (h : LNt.rd w AllB lA ln nets) (hlm : ln ≤ 9223372036854775807) (_r0 : ∀ a ∈ nets, U64r a.1 ∧ ∀ p ∈ a.2, p.rng) (hn : LI.rd w AllB nA nn nodes) (hnm : nn ≤ 9223372036854775807) (_r1 : ∀ x ∈ nodes, (Lit.int .i64 x).wf = true) (hp : LI.rd w AllB pA pn picks) (hpm : pn ≤ 9223372036854775807) (_r2 : ∀ x ∈ picks, (Lit.int .i64 x).wf = true) :
    Calls Try.prog 8 #[.slice lA ln lc, .slice nA nn nc, .slice pA pn pc] w fun e w' => e = .returned (.bool true) ∧ Below w.heap.size w w' := by
  have HL := Lib.hid h
  have HN := Lib.hid hn
  have HP := Lib.hid hp
  clear h hn hp
  go_enter Try.func8, Try.ntmps8
  go_wp2_with fail
  refine (wakes_any _).mono ?_
  rintro e w2 ⟨rfl, q2⟩
  have HB2 := Lib.hid q2
  clear q2
  go_wp2_with fail
  go_loopg [26] ln (fun g a wr => ∃ i : Nat, i + g = ln ∧ i ≤ 6 ∧ a = .int .i64 i ∧ Below w.heap.size w wr)
  case atStart => exact ⟨0, by omega, by omega, rfl, HB2.out⟩
  case round =>
    obtain ⟨i, hig, hi6, rfl, hbw⟩ := hrel
    have HBW := Lib.hid hbw
    clear HB2
    by_cases hlt : i < ln
    · have hi1 : (i : Int) < (ln : Int) := by omega
      obtain ⟨ad, s1, ps1, xA, xn, xc, rfl, hx, _, e0, e1, rx, hxm⟩ := LNt_at (Lay.rd_below HL.out hbw) hlt
      by_cases hie : i = 6
      · have hi2 : ((i : Int) == 6) = true := by simp; omega
        clear hbw hx hie
        go_wp2
        go_ret
        exact ⟨rfl, bl_al HBW.out _⟩
      · have hi2 : ((i : Int) == 6) = false := by simp; omega
        have hi7 : i < 6 := by omega
        have q5 := bl_al (Below.refl wr.heap.size wr) (.cells #[.int .u64 s1, .slice xA xn xc] 26)
        have hX8 := Blk.new wr 26 #[.int .u64 s1, .slice xA xn xc]
        obtain ⟨_, s0, ps0, yA, yn, yc, had, hy, hfl, f0, f1, ry, hym⟩ := LNt_at (Lay.rd_below (Lay.rd_below HL.out hbw) q5) (show 0 < ln by omega)
        injection had with had
        subst had
        rw [Nat.zero_mul, add_zero_] at f0 f1 hfl
        have HRX := Lib.hid (Lay.rd_below rx q5)
        have HRY := Lib.hid ry
        have HB5 := Lib.hid (bl_ca hbw q5)
        have hl0 : (0 : Int) < (ln : Int) := by omega
        have hl1 : 0 < ln := by omega
        clear hx hy rx ry hbw q5 hie
        go_wp2_with fail
        generalize wr.alloc (.cells #[.int .u64 s1, .slice xA xn xc] 26) = w5 at *
        obtain ⟨g8, hg8⟩ : ∃ g8, g8 = wr.heap.size := ⟨_, rfl⟩
        rw [← hg8] at hX8 ⊢
        have HX8 := Lib.hid hX8
        have HF0 := Lib.hid f0
        have HF1 := Lib.hid f1
        clear hX8 f0 f1 e0 e1 hg8
        refine wp_region_psF (F := fun a a' w' => ∃ g6 g7 A1 m1 c1 A5 m5 c5, a' = ((((((((a.put (some 33) (.agg #[.int .u64 s1, .slice xA xn xc])).put (some 34) (.agg #[.int .u64 s1, .slice A1 m1 c1])).put (some 35) (.slice (some ad) ln lc)).put (some 36) (.pointer (some ad))).put (some 37) (.agg #[.int .u64 s0, .slice yA yn yc])).put (some 38) (.agg #[.int .u64 s0, .slice A5 m5 c5])).put (some 9) (.pointer (some ⟨g6, 0, none⟩))).put (some 10) (.pointer (some ⟨g7, 0, none⟩))) ∧ Blk w' g6 26 #[.int .u64 s1, .slice A1 m1 c1] ∧ Blk w' g7 26 #[.int .u64 s0, .slice A5 m5 c5] ∧ LP.rd w' AllB A1 m1 (shortP ps1) ∧ LP.rd w' AllB A5 m5 (shortP ps0) ∧ Below w5.heap.size w5 w') (S := TwoS w5 1000 1 5 6 7 26 26 #[.int .u64 0, .slice none 0 0] #[.int .u64 0, .slice none 0 0] NoRes (LRes LNt (fun a => a = (s1, shortP ps1))) (LRes LNt (fun a => a = (s0, shortP ps0))) 8 9) (by kernel_rfl) ?spsw7q ?ppsw7q ?kpsw7q
        case spsw7q =>
          exact TwoS.start (by rfl) (.inr rfl)
        case ppsw7q =>
          refine Ps.step (i := 0) (d := some 33) (u := ?uw7q_1) rfl rfl (by kernel_rfl) (by kernel_rfl) (by kernel_rfl) (by kernel_rfl) ?yw7q_1 ?rw7q_1
          case yw7q_1 =>
            refine StepS.read [] (by kernel_rfl) (TwoS.pass (by decide)) (by rfl) (fun L9 m9 w9 hSh hAt hDn hS => ?_)
            have hT := TwoS.any hS
            have x0 : w9.cell? ⟨g8, 0, none⟩ = some (.int .u64 s1) := (HX8.out.ca hT).cell 0
            have x1 : w9.cell? ⟨g8, 1, none⟩ = some (.slice xA xn xc) := (HX8.out.ca hT).cell 1
            clear hT hS
            go_simp
            try rfl
          try simp only [Act.put, List.setIfInBounds_toArray, List.set_cons_zero, List.set_cons_succ]
          refine Ps.step (i := 2) (d := some 35) (u := ?uw7q_2) rfl rfl (by kernel_rfl) (by kernel_rfl) (by kernel_rfl) (by kernel_rfl) ?yw7q_2 ?rw7q_2
          case yw7q_2 =>
            refine StepS.pure (TwoS.pass (by decide)) (by rfl) (fun w9 => ?_)
            go_simp
            try rfl
          try simp only [Act.put, List.setIfInBounds_toArray, List.set_cons_zero, List.set_cons_succ]
          refine Ps.step (i := 3) (d := some 36) (u := ?uw7q_3) rfl rfl (by kernel_rfl) (by kernel_rfl) (by kernel_rfl) (by kernel_rfl) ?yw7q_3 ?rw7q_3
          case yw7q_3 =>
            refine StepS.pure (TwoS.pass (by decide)) (by rfl) (fun w9 => ?_)
            go_simp
            try rfl
          try simp only [Act.put, List.setIfInBounds_toArray, List.set_cons_zero, List.set_cons_succ]
          refine Ps.step (i := 4) (d := some 37) (u := ?uw7q_4) rfl rfl (by kernel_rfl) (by kernel_rfl) (by kernel_rfl) (by kernel_rfl) ?yw7q_4 ?rw7q_4
          case yw7q_4 =>
            refine StepS.read [] (by kernel_rfl) (TwoS.pass (by decide)) (by rfl) (fun L9 m9 w9 hSh hAt hDn hS => ?_)
            have hT := TwoS.any hS
            have k0 := cell_ca HF0.out hfl hT
            have k1 := cell_ca HF1.out hfl hT
            clear hT hS
            go_simp
            try rfl
          try simp only [Act.put, List.setIfInBounds_toArray, List.set_cons_zero, List.set_cons_succ]
          refine Ps.some3 (i := 1) (j := 6) (k := 7) (by kernel_rfl) ?tw7q_5_1 ?tw7q_5_6 ?tw7q_5_7
          case tw7q_5_1 =>
            refine Turns.mk (d := some 34) rfl rfl (TurnS.call (V := fun v => ∃ A m c, v = .agg #[.int .u64 s1, .slice A m c]) ?fw7q_5_1 ?aw7q_5_1 [] (by kernel_rfl) (by rfl) (fun w9 => ?hw7q_5_1) (fun L9 m9 w9 hSh hAt hDn hS => ?cw7q_5_1)) (fun v1 hVv1 => ?rw7q_5_1)
            case hw7q_5_1 => go_simp; refine ⟨?_, ?_⟩ <;> rfl
            case cw7q_5_1 =>
              have hs1 := reach_no hSh (f := 10) (j := 8) (d := 1) (by kernel_rfl) hDn
              have hs2 := reach_no hSh (f := 10) (j := 9) (d := 1) (by kernel_rfl) hDn
              have hT := TwoS.any hS
              refine (short_any s1 xA xn xc ps1 w9 (Lay.rd_below HRX.out hT) hxm).mono ?_
              rintro e w8 ⟨A2, m2, c2, rfl, ho, q8⟩
              have rd : LP.rd w8 (Av 6 7 m9) A2 m2 (shortP ps1) := ho.rd (fun b hb => (hS.at0 hs1).avoid (.inr hb))
              have hcap : m2 ≤ c2 ∧ c2 ≤ 9223372036854775807 := out_cap ho
              exact ⟨_, rfl, ⟨A2, m2, c2, rfl⟩, TwoS.call hS NoRes.res (LRes.res _ _) (LRes.res _ _) hs1 hs2 (by decide) q8 (fun e => absurd e (by decide)) (fun _ => ⟨(s1, shortP ps1), _, rfl, ⟨A2, m2, c2, rfl, hcap.1, hcap.2, rd⟩, rfl⟩) (fun e => absurd e (by decide))⟩
            try simp only [Act.put, List.setIfInBounds_toArray, List.set_cons_zero, List.set_cons_succ]
            obtain ⟨A1, m1, c1, rfl⟩ := hVv1
            refine Ps.some3 (i := 5) (j := 6) (k := 7) (by kernel_rfl) ?tw7q_6_5 ?tw7q_6_6 ?tw7q_6_7
            case tw7q_6_5 =>
              refine Turns.mk (d := some 38) rfl rfl (TurnS.call (V := fun v => ∃ A m c, v = .agg #[.int .u64 s0, .slice A m c]) ?fw7q_6_5 ?aw7q_6_5 [] (by kernel_rfl) (by rfl) (fun w9 => ?hw7q_6_5) (fun L9 m9 w9 hSh hAt hDn hS => ?cw7q_6_5)) (fun v5 hVv5 => ?rw7q_6_5)
              case hw7q_6_5 => go_simp; refine ⟨?_, ?_⟩ <;> rfl
              case cw7q_6_5 =>
                have hs1 := reach_no hSh (f := 10) (j := 8) (d := 5) (by kernel_rfl) hDn
                have hs2 := reach_no hSh (f := 10) (j := 9) (d := 5) (by kernel_rfl) hDn
                have hT := TwoS.any hS
                refine (short_any s0 yA yn yc ps0 w9 (Lay.rd_below HRY.out hT) hym).mono ?_
                rintro e w8 ⟨A2, m2, c2, rfl, ho, q8⟩
                have rd : LP.rd w8 (Av 6 7 m9) A2 m2 (shortP ps0) := ho.rd (fun b hb => (hS.at0 hs1).avoid (.inr hb))
                have hcap : m2 ≤ c2 ∧ c2 ≤ 9223372036854775807 := out_cap ho
                exact ⟨_, rfl, ⟨A2, m2, c2, rfl⟩, TwoS.call hS NoRes.res (LRes.res _ _) (LRes.res _ _) hs1 hs2 (by decide) q8 (fun e => absurd e (by decide)) (fun e => absurd e (by decide)) (fun _ => ⟨(s0, shortP ps0), _, rfl, ⟨A2, m2, c2, rfl, hcap.1, hcap.2, rd⟩, rfl⟩)⟩
              try simp only [Act.put, List.setIfInBounds_toArray, List.set_cons_zero, List.set_cons_succ]
              obtain ⟨A5, m5, c5, rfl⟩ := hVv5
              refine Ps.some2 (i := 6) (j := 7) (by kernel_rfl) ?tw7q_7_6 ?tw7q_7_7
              case tw7q_7_6 =>
                refine Turns.mk (d := some 9) rfl rfl (TurnS.value (V := fun v => ∃ g, v = .pointer (some ⟨g, 0, none⟩)) [] (by kernel_rfl) (by rfl) (fun L9 m9 w9 hSh hAt hDn hS => ?cw7q_7_6)) (fun v6 hVv6 => ?rw7q_7_6)
                case cw7q_7_6 =>
                  have hs1 := reach_no hSh (f := 10) (j := 8) (d := 6) (by kernel_rfl) hDn
                  have hs2 := reach_no hSh (f := 10) (j := 9) (d := 6) (by kernel_rfl) hDn
                  refine ⟨.pointer (some ⟨w9.heap.size, 0, none⟩), w9.alloc (.cells #[.int .u64 0, .slice none 0 0] 26), ?_, ⟨_, rfl⟩, TwoS.make1 hS NoRes.res (LRes.res _ _) (LRes.res _ _) hs1 hs2 (by decide)⟩
                  clear hS
                  go_simp
                  try rfl
                try simp only [Act.put, List.setIfInBounds_toArray, List.set_cons_zero, List.set_cons_succ]
                obtain ⟨g6, rfl⟩ := hVv6
                refine Ps.some1 (i := 7) (by kernel_rfl) ?tw7q_8_7
                case tw7q_8_7 =>
                  refine Turns.mk (d := some 10) rfl rfl (TurnS.value (V := fun v => ∃ g, v = .pointer (some ⟨g, 0, none⟩)) [] (by kernel_rfl) (by rfl) (fun L9 m9 w9 hSh hAt hDn hS => ?cw7q_8_7)) (fun v7 hVv7 => ?rw7q_8_7)
                  case cw7q_8_7 =>
                    have hs1 := reach_no hSh (f := 10) (j := 8) (d := 7) (by kernel_rfl) hDn
                    have hs2 := reach_no hSh (f := 10) (j := 9) (d := 7) (by kernel_rfl) hDn
                    refine ⟨.pointer (some ⟨w9.heap.size, 0, none⟩), w9.alloc (.cells #[.int .u64 0, .slice none 0 0] 26), ?_, ⟨_, rfl⟩, TwoS.make2 hS NoRes.res (LRes.res _ _) (LRes.res _ _) hs1 hs2 (by decide)⟩
                    clear hS
                    go_simp
                    try rfl
                  try simp only [Act.put, List.setIfInBounds_toArray, List.set_cons_zero, List.set_cons_succ]
                  obtain ⟨g7, rfl⟩ := hVv7
                  refine Ps.step (i := 8) (d := none) (u := undef) rfl rfl (by kernel_rfl) (by kernel_rfl) (by kernel_rfl) (by kernel_rfl) ?yw7q_9 ?rw7q_9
                  case yw7q_9 =>
                    refine StepS.store [1, 5, 6, 7] (by kernel_rfl) (by rfl) (fun L9 m9 w9 hSh hAt hDn hS => ?_)
                    have hs2 := reach_no hSh (f := 10) (j := 9) (d := 8) (by kernel_rfl) hDn
                    obtain ⟨p1, p2, hB⟩ := TwoS.ready1 hS hDn (hAt 6 (by simp)).1 (hAt 7 (by simp)).1 (hAt 1 (by simp)).1 (hAt 5 (by simp)).1
                    obtain rfl : g6 = p1 := pt_inj ((hAt 6 (by simp)).2.symm.trans hB.e1)
                    refine (exec_store_blk (w := w9) 26 (.tmp 9) (.tmp 34) (by rfl) g6 26 #[.int .u64 0, .slice none 0 0] #[.int .u64 s1, .slice A1 m1 c1] (by rfl) (by rfl) hB.b1 rfl netI (by simp [Value.oneCell'])).imp fun w7 hx => ⟨hx.1, TwoS.set1 hs2 (by decide) (hAt 1 (by simp)).2 (hB.store1 (LRes.res _ _) (LRes.res _ _) hx.2.1 hx.2.2)⟩
                  try simp only [Act.put]
                  refine Ps.step (i := 9) (d := none) (u := undef) rfl rfl (by kernel_rfl) (by kernel_rfl) (by kernel_rfl) (by kernel_rfl) ?yw7q_10 ?rw7q_10
                  case yw7q_10 =>
                    refine StepS.store [1, 5, 6, 7, 8] (by kernel_rfl) (by rfl) (fun L9 m9 w9 hSh hAt hDn hS => ?_)
                    obtain ⟨p1, p2, cc, hk, hB⟩ := TwoS.at1 hS (hAt 8 (by simp)).1 hDn
                    obtain rfl : g7 = p2 := pt_inj ((hAt 7 (by simp)).2.symm.trans hB.e2)
                    refine (exec_store_blk (w := w9) 26 (.tmp 10) (.tmp 38) (by rfl) g7 26 #[.int .u64 0, .slice none 0 0] #[.int .u64 s0, .slice A5 m5 c5] (by rfl) (by rfl) hB.b2 rfl netI (by simp [Value.oneCell'])).imp fun w7 hx => ⟨hx.1, TwoS.set2 (by decide) (hAt 8 (by simp)).1 hk (hAt 5 (by simp)).2 (hB.store2 (LRes.res _ _) (LRes.res _ _) hx.2.1 hx.2.2)⟩
                  try simp only [Act.put]
                  refine Ps.done (by kernel_rfl) (fun w7q hS => ?_) _
                  obtain ⟨p1, p2, d1, d2, hk1, hk2, hB⟩ := TwoS.fin hS (by rfl)
                  clear hS
                  obtain rfl : g6 = p1 := pt_inj hB.e1
                  obtain rfl : g7 = p2 := pt_inj hB.e2
                  have hk1 : Value.agg #[.int .u64 s1, .slice A1 m1 c1] = .agg d1 := hk1
                  have hk2 : Value.agg #[.int .u64 s0, .slice A5 m5 c5] = .agg d2 := hk2
                  injection hk1 with hk1
                  injection hk2 with hk2
                  subst hk1 hk2
                  refine ⟨g6, g7, A1, m1, c1, A5, m5, c5, ?_, hB.b1, hB.b2, res_rd hB.r1, res_rd hB.r2, hB.bel⟩
                  simp only [Act.put, List.setIfInBounds_toArray, List.set_cons_zero, List.set_cons_succ]
              case tw7q_7_7 =>
                refine Turns.mk (d := some 10) rfl rfl (TurnS.value (V := fun v => ∃ g, v = .pointer (some ⟨g, 0, none⟩)) [] (by kernel_rfl) (by rfl) (fun L9 m9 w9 hSh hAt hDn hS => ?cw7q_7_7)) (fun v7 hVv7 => ?rw7q_7_7)
                case cw7q_7_7 =>
                  have hs1 := reach_no hSh (f := 10) (j := 8) (d := 7) (by kernel_rfl) hDn
                  have hs2 := reach_no hSh (f := 10) (j := 9) (d := 7) (by kernel_rfl) hDn
                  refine ⟨.pointer (some ⟨w9.heap.size, 0, none⟩), w9.alloc (.cells #[.int .u64 0, .slice none 0 0] 26), ?_, ⟨_, rfl⟩, TwoS.make2 hS NoRes.res (LRes.res _ _) (LRes.res _ _) hs1 hs2 (by decide)⟩
                  clear hS
                  go_simp
                  try rfl
                try simp only [Act.put, List.setIfInBounds_toArray, List.set_cons_zero, List.set_cons_succ]
                obtain ⟨g7, rfl⟩ := hVv7
                refine Ps.some1 (i := 6) (by kernel_rfl) ?tw7q_11_6
                case tw7q_11_6 =>
                  refine Turns.mk (d := some 9) rfl rfl (TurnS.value (V := fun v => ∃ g, v = .pointer (some ⟨g, 0, none⟩)) [] (by kernel_rfl) (by rfl) (fun L9 m9 w9 hSh hAt hDn hS => ?cw7q_11_6)) (fun v6 hVv6 => ?rw7q_11_6)
                  case cw7q_11_6 =>
                    have hs1 := reach_no hSh (f := 10) (j := 8) (d := 6) (by kernel_rfl) hDn
                    have hs2 := reach_no hSh (f := 10) (j := 9) (d := 6) (by kernel_rfl) hDn
                    refine ⟨.pointer (some ⟨w9.heap.size, 0, none⟩), w9.alloc (.cells #[.int .u64 0, .slice none 0 0] 26), ?_, ⟨_, rfl⟩, TwoS.make1 hS NoRes.res (LRes.res _ _) (LRes.res _ _) hs1 hs2 (by decide)⟩
                    clear hS
                    go_simp
                    try rfl
                  try simp only [Act.put, List.setIfInBounds_toArray, List.set_cons_zero, List.set_cons_succ]
                  obtain ⟨g6, rfl⟩ := hVv6
                  refine Ps.step (i := 8) (d := none) (u := undef) rfl rfl (by kernel_rfl) (by kernel_rfl) (by kernel_rfl) (by kernel_rfl) ?yw7q_12 ?rw7q_12
                  case yw7q_12 =>
                    refine StepS.store [1, 5, 6, 7] (by kernel_rfl) (by rfl) (fun L9 m9 w9 hSh hAt hDn hS => ?_)
                    have hs2 := reach_no hSh (f := 10) (j := 9) (d := 8) (by kernel_rfl) hDn
                    obtain ⟨p1, p2, hB⟩ := TwoS.ready1 hS hDn (hAt 6 (by simp)).1 (hAt 7 (by simp)).1 (hAt 1 (by simp)).1 (hAt 5 (by simp)).1
                    obtain rfl : g6 = p1 := pt_inj ((hAt 6 (by simp)).2.symm.trans hB.e1)
                    refine (exec_store_blk (w := w9) 26 (.tmp 9) (.tmp 34) (by rfl) g6 26 #[.int .u64 0, .slice none 0 0] #[.int .u64 s1, .slice A1 m1 c1] (by rfl) (by rfl) hB.b1 rfl netI (by simp [Value.oneCell'])).imp fun w7 hx => ⟨hx.1, TwoS.set1 hs2 (by decide) (hAt 1 (by simp)).2 (hB.store1 (LRes.res _ _) (LRes.res _ _) hx.2.1 hx.2.2)⟩
                  try simp only [Act.put]
                  refine Ps.step (i := 9) (d := none) (u := undef) rfl rfl (by kernel_rfl) (by kernel_rfl) (by kernel_rfl) (by kernel_rfl) ?yw7q_13 ?rw7q_13
                  case yw7q_13 =>
                    refine StepS.store [1, 5, 6, 7, 8] (by kernel_rfl) (by rfl) (fun L9 m9 w9 hSh hAt hDn hS => ?_)
                    obtain ⟨p1, p2, cc, hk, hB⟩ := TwoS.at1 hS (hAt 8 (by simp)).1 hDn
                    obtain rfl : g7 = p2 := pt_inj ((hAt 7 (by simp)).2.symm.trans hB.e2)
                    refine (exec_store_blk (w := w9) 26 (.tmp 10) (.tmp 38) (by rfl) g7 26 #[.int .u64 0, .slice none 0 0] #[.int .u64 s0, .slice A5 m5 c5] (by rfl) (by rfl) hB.b2 rfl netI (by simp [Value.oneCell'])).imp fun w7 hx => ⟨hx.1, TwoS.set2 (by decide) (hAt 8 (by simp)).1 hk (hAt 5 (by simp)).2 (hB.store2 (LRes.res _ _) (LRes.res _ _) hx.2.1 hx.2.2)⟩
                  try simp only [Act.put]
                  refine Ps.done (by kernel_rfl) (fun w7q hS => ?_) _
                  obtain ⟨p1, p2, d1, d2, hk1, hk2, hB⟩ := TwoS.fin hS (by rfl)
                  clear hS
                  obtain rfl : g6 = p1 := pt_inj hB.e1
                  obtain rfl : g7 = p2 := pt_inj hB.e2
                  have hk1 : Value.agg #[.int .u64 s1, .slice A1 m1 c1] = .agg d1 := hk1
                  have hk2 : Value.agg #[.int .u64 s0, .slice A5 m5 c5] = .agg d2 := hk2
                  injection hk1 with hk1
                  injection hk2 with hk2
                  subst hk1 hk2
                  refine ⟨g6, g7, A1, m1, c1, A5, m5, c5, ?_, hB.b1, hB.b2, res_rd hB.r1, res_rd hB.r2, hB.bel⟩
                  simp only [Act.put, List.setIfInBounds_toArray, List.set_cons_zero, List.set_cons_succ]
            case tw7q_6_6 =>
              refine Turns.mk (d := some 9) rfl rfl (TurnS.value (V := fun v => ∃ g, v = .pointer (some ⟨g, 0, none⟩)) [] (by kernel_rfl) (by rfl) (fun L9 m9 w9 hSh hAt hDn hS => ?cw7q_6_6)) (fun v6 hVv6 => ?rw7q_6_6)
              case cw7q_6_6 =>
                have hs1 := reach_no hSh (f := 10) (j := 8) (d := 6) (by kernel_rfl) hDn
                have hs2 := reach_no hSh (f := 10) (j := 9) (d := 6) (by kernel_rfl) hDn
                refine ⟨.pointer (some ⟨w9.heap.size, 0, none⟩), w9.alloc (.cells #[.int .u64 0, .slice none 0 0] 26), ?_, ⟨_, rfl⟩, TwoS.make1 hS NoRes.res (LRes.res _ _) (LRes.res _ _) hs1 hs2 (by decide)⟩
                clear hS
                go_simp
                try rfl
              try simp only [Act.put, List.setIfInBounds_toArray, List.set_cons_zero, List.set_cons_succ]
              obtain ⟨g6, rfl⟩ := hVv6
              refine Ps.some2 (i := 5) (j := 7) (by kernel_rfl) ?tw7q_14_5 ?tw7q_14_7
              case tw7q_14_5 =>
                refine Turns.mk (d := some 38) rfl rfl (TurnS.call (V := fun v => ∃ A m c, v = .agg #[.int .u64 s0, .slice A m c]) ?fw7q_14_5 ?aw7q_14_5 [] (by kernel_rfl) (by rfl) (fun w9 => ?hw7q_14_5) (fun L9 m9 w9 hSh hAt hDn hS => ?cw7q_14_5)) (fun v5 hVv5 => ?rw7q_14_5)
                case hw7q_14_5 => go_simp; refine ⟨?_, ?_⟩ <;> rfl
                case cw7q_14_5 =>
                  have hs1 := reach_no hSh (f := 10) (j := 8) (d := 5) (by kernel_rfl) hDn
                  have hs2 := reach_no hSh (f := 10) (j := 9) (d := 5) (by kernel_rfl) hDn
                  have hT := TwoS.any hS
                  refine (short_any s0 yA yn yc ps0 w9 (Lay.rd_below HRY.out hT) hym).mono ?_
                  rintro e w8 ⟨A2, m2, c2, rfl, ho, q8⟩
                  have rd : LP.rd w8 (Av 6 7 m9) A2 m2 (shortP ps0) := ho.rd (fun b hb => (hS.at0 hs1).avoid (.inr hb))
                  have hcap : m2 ≤ c2 ∧ c2 ≤ 9223372036854775807 := out_cap ho
                  exact ⟨_, rfl, ⟨A2, m2, c2, rfl⟩, TwoS.call hS NoRes.res (LRes.res _ _) (LRes.res _ _) hs1 hs2 (by decide) q8 (fun e => absurd e (by decide)) (fun e => absurd e (by decide)) (fun _ => ⟨(s0, shortP ps0), _, rfl, ⟨A2, m2, c2, rfl, hcap.1, hcap.2, rd⟩, rfl⟩)⟩
                try simp only [Act.put, List.setIfInBounds_toArray, List.set_cons_zero, List.set_cons_succ]
                obtain ⟨A5, m5, c5, rfl⟩ := hVv5
                refine Ps.some1 (i := 7) (by kernel_rfl) ?tw7q_15_7
                case tw7q_15_7 =>
                  refine Turns.mk (d := some 10) rfl rfl (TurnS.value (V := fun v => ∃ g, v = .pointer (some ⟨g, 0, none⟩)) [] (by kernel_rfl) (by rfl) (fun L9 m9 w9 hSh hAt hDn hS => ?cw7q_15_7)) (fun v7 hVv7 => ?rw7q_15_7)
                  case cw7q_15_7 =>
                    have hs1 := reach_no hSh (f := 10) (j := 8) (d := 7) (by kernel_rfl) hDn
                    have hs2 := reach_no hSh (f := 10) (j := 9) (d := 7) (by kernel_rfl) hDn
                    refine ⟨.pointer (some ⟨w9.heap.size, 0, none⟩), w9.alloc (.cells #[.int .u64 0, .slice none 0 0] 26), ?_, ⟨_, rfl⟩, TwoS.make2 hS NoRes.res (LRes.res _ _) (LRes.res _ _) hs1 hs2 (by decide)⟩
                    clear hS
                    go_simp
                    try rfl
                  try simp only [Act.put, List.setIfInBounds_toArray, List.set_cons_zero, List.set_cons_succ]
                  obtain ⟨g7, rfl⟩ := hVv7
                  refine Ps.step (i := 8) (d := none) (u := undef) rfl rfl (by kernel_rfl) (by kernel_rfl) (by kernel_rfl) (by kernel_rfl) ?yw7q_16 ?rw7q_16
                  case yw7q_16 =>
                    refine StepS.store [1, 5, 6, 7] (by kernel_rfl) (by rfl) (fun L9 m9 w9 hSh hAt hDn hS => ?_)
                    have hs2 := reach_no hSh (f := 10) (j := 9) (d := 8) (by kernel_rfl) hDn
                    obtain ⟨p1, p2, hB⟩ := TwoS.ready1 hS hDn (hAt 6 (by simp)).1 (hAt 7 (by simp)).1 (hAt 1 (by simp)).1 (hAt 5 (by simp)).1
                    obtain rfl : g6 = p1 := pt_inj ((hAt 6 (by simp)).2.symm.trans hB.e1)
                    refine (exec_store_blk (w := w9) 26 (.tmp 9) (.tmp 34) (by rfl) g6 26 #[.int .u64 0, .slice none 0 0] #[.int .u64 s1, .slice A1 m1 c1] (by rfl) (by rfl) hB.b1 rfl netI (by simp [Value.oneCell'])).imp fun w7 hx => ⟨hx.1, TwoS.set1 hs2 (by decide) (hAt 1 (by simp)).2 (hB.store1 (LRes.res _ _) (LRes.res _ _) hx.2.1 hx.2.2)⟩
                  try simp only [Act.put]
                  refine Ps.step (i := 9) (d := none) (u := undef) rfl rfl (by kernel_rfl) (by kernel_rfl) (by kernel_rfl) (by kernel_rfl) ?yw7q_17 ?rw7q_17
                  case yw7q_17 =>
                    refine StepS.store [1, 5, 6, 7, 8] (by kernel_rfl) (by rfl) (fun L9 m9 w9 hSh hAt hDn hS => ?_)
                    obtain ⟨p1, p2, cc, hk, hB⟩ := TwoS.at1 hS (hAt 8 (by simp)).1 hDn
                    obtain rfl : g7 = p2 := pt_inj ((hAt 7 (by simp)).2.symm.trans hB.e2)
                    refine (exec_store_blk (w := w9) 26 (.tmp 10) (.tmp 38) (by rfl) g7 26 #[.int .u64 0, .slice none 0 0] #[.int .u64 s0, .slice A5 m5 c5] (by rfl) (by rfl) hB.b2 rfl netI (by simp [Value.oneCell'])).imp fun w7 hx => ⟨hx.1, TwoS.set2 (by decide) (hAt 8 (by simp)).1 hk (hAt 5 (by simp)).2 (hB.store2 (LRes.res _ _) (LRes.res _ _) hx.2.1 hx.2.2)⟩
                  try simp only [Act.put]
                  refine Ps.done (by kernel_rfl) (fun w7q hS => ?_) _
                  obtain ⟨p1, p2, d1, d2, hk1, hk2, hB⟩ := TwoS.fin hS (by rfl)
                  clear hS
                  obtain rfl : g6 = p1 := pt_inj hB.e1
                  obtain rfl : g7 = p2 := pt_inj hB.e2
                  have hk1 : Value.agg #[.int .u64 s1, .slice A1 m1 c1] = .agg d1 := hk1
                  have hk2 : Value.agg #[.int .u64 s0, .slice A5 m5 c5] = .agg d2 := hk2
                  injection hk1 with hk1
                  injection hk2 with hk2
                  subst hk1 hk2
                  refine ⟨g6, g7, A1, m1, c1, A5, m5, c5, ?_, hB.b1, hB.b2, res_rd hB.r1, res_rd hB.r2, hB.bel⟩
                  simp only [Act.put, List.setIfInBounds_toArray, List.set_cons_zero, List.set_cons_succ]
              case tw7q_14_7 =>
                refine Turns.mk (d := some 10) rfl rfl (TurnS.value (V := fun v => ∃ g, v = .pointer (some ⟨g, 0, none⟩)) [] (by kernel_rfl) (by rfl) (fun L9 m9 w9 hSh hAt hDn hS => ?cw7q_14_7)) (fun v7 hVv7 => ?rw7q_14_7)
                case cw7q_14_7 =>
                  have hs1 := reach_no hSh (f := 10) (j := 8) (d := 7) (by kernel_rfl) hDn
                  have hs2 := reach_no hSh (f := 10) (j := 9) (d := 7) (by kernel_rfl) hDn
                  refine ⟨.pointer (some ⟨w9.heap.size, 0, none⟩), w9.alloc (.cells #[.int .u64 0, .slice none 0 0] 26), ?_, ⟨_, rfl⟩, TwoS.make2 hS NoRes.res (LRes.res _ _) (LRes.res _ _) hs1 hs2 (by decide)⟩
                  clear hS
                  go_simp
                  try rfl
                try simp only [Act.put, List.setIfInBounds_toArray, List.set_cons_zero, List.set_cons_succ]
                obtain ⟨g7, rfl⟩ := hVv7
                refine Ps.some1 (i := 5) (by kernel_rfl) ?tw7q_18_5
                case tw7q_18_5 =>
                  refine Turns.mk (d := some 38) rfl rfl (TurnS.call (V := fun v => ∃ A m c, v = .agg #[.int .u64 s0, .slice A m c]) ?fw7q_18_5 ?aw7q_18_5 [] (by kernel_rfl) (by rfl) (fun w9 => ?hw7q_18_5) (fun L9 m9 w9 hSh hAt hDn hS => ?cw7q_18_5)) (fun v5 hVv5 => ?rw7q_18_5)
                  case hw7q_18_5 => go_simp; refine ⟨?_, ?_⟩ <;> rfl
                  case cw7q_18_5 =>
                    have hs1 := reach_no hSh (f := 10) (j := 8) (d := 5) (by kernel_rfl) hDn
                    have hs2 := reach_no hSh (f := 10) (j := 9) (d := 5) (by kernel_rfl) hDn
                    have hT := TwoS.any hS
                    refine (short_any s0 yA yn yc ps0 w9 (Lay.rd_below HRY.out hT) hym).mono ?_
                    rintro e w8 ⟨A2, m2, c2, rfl, ho, q8⟩
                    have rd : LP.rd w8 (Av 6 7 m9) A2 m2 (shortP ps0) := ho.rd (fun b hb => (hS.at0 hs1).avoid (.inr hb))
                    have hcap : m2 ≤ c2 ∧ c2 ≤ 9223372036854775807 := out_cap ho
                    exact ⟨_, rfl, ⟨A2, m2, c2, rfl⟩, TwoS.call hS NoRes.res (LRes.res _ _) (LRes.res _ _) hs1 hs2 (by decide) q8 (fun e => absurd e (by decide)) (fun e => absurd e (by decide)) (fun _ => ⟨(s0, shortP ps0), _, rfl, ⟨A2, m2, c2, rfl, hcap.1, hcap.2, rd⟩, rfl⟩)⟩
                  try simp only [Act.put, List.setIfInBounds_toArray, List.set_cons_zero, List.set_cons_succ]
                  obtain ⟨A5, m5, c5, rfl⟩ := hVv5
                  refine Ps.step (i := 8) (d := none) (u := undef) rfl rfl (by kernel_rfl) (by kernel_rfl) (by kernel_rfl) (by kernel_rfl) ?yw7q_19 ?rw7q_19
                  case yw7q_19 =>
                    refine StepS.store [1, 5, 6, 7] (by kernel_rfl) (by rfl) (fun L9 m9 w9 hSh hAt hDn hS => ?_)
                    have hs2 := reach_no hSh (f := 10) (j := 9) (d := 8) (by kernel_rfl) hDn
                    obtain ⟨p1, p2, hB⟩ := TwoS.ready1 hS hDn (hAt 6 (by simp)).1 (hAt 7 (by simp)).1 (hAt 1 (by simp)).1 (hAt 5 (by simp)).1
                    obtain rfl : g6 = p1 := pt_inj ((hAt 6 (by simp)).2.symm.trans hB.e1)
                    refine (exec_store_blk (w := w9) 26 (.tmp 9) (.tmp 34) (by rfl) g6 26 #[.int .u64 0, .slice none 0 0] #[.int .u64 s1, .slice A1 m1 c1] (by rfl) (by rfl) hB.b1 rfl netI (by simp [Value.oneCell'])).imp fun w7 hx => ⟨hx.1, TwoS.set1 hs2 (by decide) (hAt 1 (by simp)).2 (hB.store1 (LRes.res _ _) (LRes.res _ _) hx.2.1 hx.2.2)⟩
                  try simp only [Act.put]
                  refine Ps.step (i := 9) (d := none) (u := undef) rfl rfl (by kernel_rfl) (by kernel_rfl) (by kernel_rfl) (by kernel_rfl) ?yw7q_20 ?rw7q_20
                  case yw7q_20 =>
                    refine StepS.store [1, 5, 6, 7, 8] (by kernel_rfl) (by rfl) (fun L9 m9 w9 hSh hAt hDn hS => ?_)
                    obtain ⟨p1, p2, cc, hk, hB⟩ := TwoS.at1 hS (hAt 8 (by simp)).1 hDn
                    obtain rfl : g7 = p2 := pt_inj ((hAt 7 (by simp)).2.symm.trans hB.e2)
                    refine (exec_store_blk (w := w9) 26 (.tmp 10) (.tmp 38) (by rfl) g7 26 #[.int .u64 0, .slice none 0 0] #[.int .u64 s0, .slice A5 m5 c5] (by rfl) (by rfl) hB.b2 rfl netI (by simp [Value.oneCell'])).imp fun w7 hx => ⟨hx.1, TwoS.set2 (by decide) (hAt 8 (by simp)).1 hk (hAt 5 (by simp)).2 (hB.store2 (LRes.res _ _) (LRes.res _ _) hx.2.1 hx.2.2)⟩
                  try simp only [Act.put]
                  refine Ps.done (by kernel_rfl) (fun w7q hS => ?_) _
                  obtain ⟨p1, p2, d1, d2, hk1, hk2, hB⟩ := TwoS.fin hS (by rfl)
                  clear hS
                  obtain rfl : g6 = p1 := pt_inj hB.e1
                  obtain rfl : g7 = p2 := pt_inj hB.e2
                  have hk1 : Value.agg #[.int .u64 s1, .slice A1 m1 c1] = .agg d1 := hk1
                  have hk2 : Value.agg #[.int .u64 s0, .slice A5 m5 c5] = .agg d2 := hk2
                  injection hk1 with hk1
                  injection hk2 with hk2
                  subst hk1 hk2
                  refine ⟨g6, g7, A1, m1, c1, A5, m5, c5, ?_, hB.b1, hB.b2, res_rd hB.r1, res_rd hB.r2, hB.bel⟩
                  simp only [Act.put, List.setIfInBounds_toArray, List.set_cons_zero, List.set_cons_succ]
            case tw7q_6_7 =>
              refine Turns.mk (d := some 10) rfl rfl (TurnS.value (V := fun v => ∃ g, v = .pointer (some ⟨g, 0, none⟩)) [] (by kernel_rfl) (by rfl) (fun L9 m9 w9 hSh hAt hDn hS => ?cw7q_6_7)) (fun v7 hVv7 => ?rw7q_6_7)
              case cw7q_6_7 =>
                have hs1 := reach_no hSh (f := 10) (j := 8) (d := 7) (by kernel_rfl) hDn
                have hs2 := reach_no hSh (f := 10) (j := 9) (d := 7) (by kernel_rfl) hDn
                refine ⟨.pointer (some ⟨w9.heap.size, 0, none⟩), w9.alloc (.cells #[.int .u64 0, .slice none 0 0] 26), ?_, ⟨_, rfl⟩, TwoS.make2 hS NoRes.res (LRes.res _ _) (LRes.res _ _) hs1 hs2 (by decide)⟩
                clear hS
                go_simp
                try rfl
              try simp only [Act.put, List.setIfInBounds_toArray, List.set_cons_zero, List.set_cons_succ]
              obtain ⟨g7, rfl⟩ := hVv7
              refine Ps.some2 (i := 5) (j := 6) (by kernel_rfl) ?tw7q_21_5 ?tw7q_21_6
              case tw7q_21_5 =>
                refine Turns.mk (d := some 38) rfl rfl (TurnS.call (V := fun v => ∃ A m c, v = .agg #[.int .u64 s0, .slice A m c]) ?fw7q_21_5 ?aw7q_21_5 [] (by kernel_rfl) (by rfl) (fun w9 => ?hw7q_21_5) (fun L9 m9 w9 hSh hAt hDn hS => ?cw7q_21_5)) (fun v5 hVv5 => ?rw7q_21_5)
                case hw7q_21_5 => go_simp; refine ⟨?_, ?_⟩ <;> rfl
                case cw7q_21_5 =>
                  have hs1 := reach_no hSh (f := 10) (j := 8) (d := 5) (by kernel_rfl) hDn
                  have hs2 := reach_no hSh (f := 10) (j := 9) (d := 5) (by kernel_rfl) hDn
                  have hT := TwoS.any hS
                  refine (short_any s0 yA yn yc ps0 w9 (Lay.rd_below HRY.out hT) hym).mono ?_
                  rintro e w8 ⟨A2, m2, c2, rfl, ho, q8⟩
                  have rd : LP.rd w8 (Av 6 7 m9) A2 m2 (shortP ps0) := ho.rd (fun b hb => (hS.at0 hs1).avoid (.inr hb))
                  have hcap : m2 ≤ c2 ∧ c2 ≤ 9223372036854775807 := out_cap ho
                  exact ⟨_, rfl, ⟨A2, m2, c2, rfl⟩, TwoS.call hS NoRes.res (LRes.res _ _) (LRes.res _ _) hs1 hs2 (by decide) q8 (fun e => absurd e (by decide)) (fun e => absurd e (by decide)) (fun _ => ⟨(s0, shortP ps0), _, rfl, ⟨A2, m2, c2, rfl, hcap.1, hcap.2, rd⟩, rfl⟩)⟩
                try simp only [Act.put, List.setIfInBounds_toArray, List.set_cons_zero, List.set_cons_succ]
                obtain ⟨A5, m5, c5, rfl⟩ := hVv5
                refine Ps.some1 (i := 6) (by kernel_rfl) ?tw7q_22_6
                case tw7q_22_6 =>
                  refine Turns.mk (d := some 9) rfl rfl (TurnS.value (V := fun v => ∃ g, v = .pointer (some ⟨g, 0, none⟩)) [] (by kernel_rfl) (by rfl) (fun L9 m9 w9 hSh hAt hDn hS => ?cw7q_22_6)) (fun v6 hVv6 => ?rw7q_22_6)
                  case cw7q_22_6 =>
                    have hs1 := reach_no hSh (f := 10) (j := 8) (d := 6) (by kernel_rfl) hDn
                    have hs2 := reach_no hSh (f := 10) (j := 9) (d := 6) (by kernel_rfl) hDn
                    refine ⟨.pointer (some ⟨w9.heap.size, 0, none⟩), w9.alloc (.cells #[.int .u64 0, .slice none 0 0] 26), ?_, ⟨_, rfl⟩, TwoS.make1 hS NoRes.res (LRes.res _ _) (LRes.res _ _) hs1 hs2 (by decide)⟩
                    clear hS
                    go_simp
                    try rfl
                  try simp only [Act.put, List.setIfInBounds_toArray, List.set_cons_zero, List.set_cons_succ]
                  obtain ⟨g6, rfl⟩ := hVv6
                  refine Ps.step (i := 8) (d := none) (u := undef) rfl rfl (by kernel_rfl) (by kernel_rfl) (by kernel_rfl) (by kernel_rfl) ?yw7q_23 ?rw7q_23
                  case yw7q_23 =>
                    refine StepS.store [1, 5, 6, 7] (by kernel_rfl) (by rfl) (fun L9 m9 w9 hSh hAt hDn hS => ?_)
                    have hs2 := reach_no hSh (f := 10) (j := 9) (d := 8) (by kernel_rfl) hDn
                    obtain ⟨p1, p2, hB⟩ := TwoS.ready1 hS hDn (hAt 6 (by simp)).1 (hAt 7 (by simp)).1 (hAt 1 (by simp)).1 (hAt 5 (by simp)).1
                    obtain rfl : g6 = p1 := pt_inj ((hAt 6 (by simp)).2.symm.trans hB.e1)
                    refine (exec_store_blk (w := w9) 26 (.tmp 9) (.tmp 34) (by rfl) g6 26 #[.int .u64 0, .slice none 0 0] #[.int .u64 s1, .slice A1 m1 c1] (by rfl) (by rfl) hB.b1 rfl netI (by simp [Value.oneCell'])).imp fun w7 hx => ⟨hx.1, TwoS.set1 hs2 (by decide) (hAt 1 (by simp)).2 (hB.store1 (LRes.res _ _) (LRes.res _ _) hx.2.1 hx.2.2)⟩
                  try simp only [Act.put]
                  refine Ps.step (i := 9) (d := none) (u := undef) rfl rfl (by kernel_rfl) (by kernel_rfl) (by kernel_rfl) (by kernel_rfl) ?yw7q_24 ?rw7q_24
                  case yw7q_24 =>
                    refine StepS.store [1, 5, 6, 7, 8] (by kernel_rfl) (by rfl) (fun L9 m9 w9 hSh hAt hDn hS => ?_)
                    obtain ⟨p1, p2, cc, hk, hB⟩ := TwoS.at1 hS (hAt 8 (by simp)).1 hDn
                    obtain rfl : g7 = p2 := pt_inj ((hAt 7 (by simp)).2.symm.trans hB.e2)
                    refine (exec_store_blk (w := w9) 26 (.tmp 10) (.tmp 38) (by rfl) g7 26 #[.int .u64 0, .slice none 0 0] #[.int .u64 s0, .slice A5 m5 c5] (by rfl) (by rfl) hB.b2 rfl netI (by simp [Value.oneCell'])).imp fun w7 hx => ⟨hx.1, TwoS.set2 (by decide) (hAt 8 (by simp)).1 hk (hAt 5 (by simp)).2 (hB.store2 (LRes.res _ _) (LRes.res _ _) hx.2.1 hx.2.2)⟩
                  try simp only [Act.put]
                  refine Ps.done (by kernel_rfl) (fun w7q hS => ?_) _
                  obtain ⟨p1, p2, d1, d2, hk1, hk2, hB⟩ := TwoS.fin hS (by rfl)
                  clear hS
                  obtain rfl : g6 = p1 := pt_inj hB.e1
                  obtain rfl : g7 = p2 := pt_inj hB.e2
                  have hk1 : Value.agg #[.int .u64 s1, .slice A1 m1 c1] = .agg d1 := hk1
                  have hk2 : Value.agg #[.int .u64 s0, .slice A5 m5 c5] = .agg d2 := hk2
                  injection hk1 with hk1
                  injection hk2 with hk2
                  subst hk1 hk2
                  refine ⟨g6, g7, A1, m1, c1, A5, m5, c5, ?_, hB.b1, hB.b2, res_rd hB.r1, res_rd hB.r2, hB.bel⟩
                  simp only [Act.put, List.setIfInBounds_toArray, List.set_cons_zero, List.set_cons_succ]
              case tw7q_21_6 =>
                refine Turns.mk (d := some 9) rfl rfl (TurnS.value (V := fun v => ∃ g, v = .pointer (some ⟨g, 0, none⟩)) [] (by kernel_rfl) (by rfl) (fun L9 m9 w9 hSh hAt hDn hS => ?cw7q_21_6)) (fun v6 hVv6 => ?rw7q_21_6)
                case cw7q_21_6 =>
                  have hs1 := reach_no hSh (f := 10) (j := 8) (d := 6) (by kernel_rfl) hDn
                  have hs2 := reach_no hSh (f := 10) (j := 9) (d := 6) (by kernel_rfl) hDn
                  refine ⟨.pointer (some ⟨w9.heap.size, 0, none⟩), w9.alloc (.cells #[.int .u64 0, .slice none 0 0] 26), ?_, ⟨_, rfl⟩, TwoS.make1 hS NoRes.res (LRes.res _ _) (LRes.res _ _) hs1 hs2 (by decide)⟩
                  clear hS
                  go_simp
                  try rfl
                try simp only [Act.put, List.setIfInBounds_toArray, List.set_cons_zero, List.set_cons_succ]
                obtain ⟨g6, rfl⟩ := hVv6
                refine Ps.some1 (i := 5) (by kernel_rfl) ?tw7q_25_5
                case tw7q_25_5 =>
                  refine Turns.mk (d := some 38) rfl rfl (TurnS.call (V := fun v => ∃ A m c, v = .agg #[.int .u64 s0, .slice A m c]) ?fw7q_25_5 ?aw7q_25_5 [] (by kernel_rfl) (by rfl) (fun w9 => ?hw7q_25_5) (fun L9 m9 w9 hSh hAt hDn hS => ?cw7q_25_5)) (fun v5 hVv5 => ?rw7q_25_5)
                  case hw7q_25_5 => go_simp; refine ⟨?_, ?_⟩ <;> rfl
                  case cw7q_25_5 =>
                    have hs1 := reach_no hSh (f := 10) (j := 8) (d := 5) (by kernel_rfl) hDn
                    have hs2 := reach_no hSh (f := 10) (j := 9) (d := 5) (by kernel_rfl) hDn
                    have hT := TwoS.any hS
                    refine (short_any s0 yA yn yc ps0 w9 (Lay.rd_below HRY.out hT) hym).mono ?_
                    rintro e w8 ⟨A2, m2, c2, rfl, ho, q8⟩
                    have rd : LP.rd w8 (Av 6 7 m9) A2 m2 (shortP ps0) := ho.rd (fun b hb => (hS.at0 hs1).avoid (.inr hb))
                    have hcap : m2 ≤ c2 ∧ c2 ≤ 9223372036854775807 := out_cap ho
                    exact ⟨_, rfl, ⟨A2, m2, c2, rfl⟩, TwoS.call hS NoRes.res (LRes.res _ _) (LRes.res _ _) hs1 hs2 (by decide) q8 (fun e => absurd e (by decide)) (fun e => absurd e (by decide)) (fun _ => ⟨(s0, shortP ps0), _, rfl, ⟨A2, m2, c2, rfl, hcap.1, hcap.2, rd⟩, rfl⟩)⟩
                  try simp only [Act.put, List.setIfInBounds_toArray, List.set_cons_zero, List.set_cons_succ]
                  obtain ⟨A5, m5, c5, rfl⟩ := hVv5
                  refine Ps.step (i := 8) (d := none) (u := undef) rfl rfl (by kernel_rfl) (by kernel_rfl) (by kernel_rfl) (by kernel_rfl) ?yw7q_26 ?rw7q_26
                  case yw7q_26 =>
                    refine StepS.store [1, 5, 6, 7] (by kernel_rfl) (by rfl) (fun L9 m9 w9 hSh hAt hDn hS => ?_)
                    have hs2 := reach_no hSh (f := 10) (j := 9) (d := 8) (by kernel_rfl) hDn
                    obtain ⟨p1, p2, hB⟩ := TwoS.ready1 hS hDn (hAt 6 (by simp)).1 (hAt 7 (by simp)).1 (hAt 1 (by simp)).1 (hAt 5 (by simp)).1
                    obtain rfl : g6 = p1 := pt_inj ((hAt 6 (by simp)).2.symm.trans hB.e1)
                    refine (exec_store_blk (w := w9) 26 (.tmp 9) (.tmp 34) (by rfl) g6 26 #[.int .u64 0, .slice none 0 0] #[.int .u64 s1, .slice A1 m1 c1] (by rfl) (by rfl) hB.b1 rfl netI (by simp [Value.oneCell'])).imp fun w7 hx => ⟨hx.1, TwoS.set1 hs2 (by decide) (hAt 1 (by simp)).2 (hB.store1 (LRes.res _ _) (LRes.res _ _) hx.2.1 hx.2.2)⟩
                  try simp only [Act.put]
                  refine Ps.step (i := 9) (d := none) (u := undef) rfl rfl (by kernel_rfl) (by kernel_rfl) (by kernel_rfl) (by kernel_rfl) ?yw7q_27 ?rw7q_27
                  case yw7q_27 =>
                    refine StepS.store [1, 5, 6, 7, 8] (by kernel_rfl) (by rfl) (fun L9 m9 w9 hSh hAt hDn hS => ?_)
                    obtain ⟨p1, p2, cc, hk, hB⟩ := TwoS.at1 hS (hAt 8 (by simp)).1 hDn
                    obtain rfl : g7 = p2 := pt_inj ((hAt 7 (by simp)).2.symm.trans hB.e2)
                    refine (exec_store_blk (w := w9) 26 (.tmp 10) (.tmp 38) (by rfl) g7 26 #[.int .u64 0, .slice none 0 0] #[.int .u64 s0, .slice A5 m5 c5] (by rfl) (by rfl) hB.b2 rfl netI (by simp [Value.oneCell'])).imp fun w7 hx => ⟨hx.1, TwoS.set2 (by decide) (hAt 8 (by simp)).1 hk (hAt 5 (by simp)).2 (hB.store2 (LRes.res _ _) (LRes.res _ _) hx.2.1 hx.2.2)⟩
                  try simp only [Act.put]
                  refine Ps.done (by kernel_rfl) (fun w7q hS => ?_) _
                  obtain ⟨p1, p2, d1, d2, hk1, hk2, hB⟩ := TwoS.fin hS (by rfl)
                  clear hS
                  obtain rfl : g6 = p1 := pt_inj hB.e1
                  obtain rfl : g7 = p2 := pt_inj hB.e2
                  have hk1 : Value.agg #[.int .u64 s1, .slice A1 m1 c1] = .agg d1 := hk1
                  have hk2 : Value.agg #[.int .u64 s0, .slice A5 m5 c5] = .agg d2 := hk2
                  injection hk1 with hk1
                  injection hk2 with hk2
                  subst hk1 hk2
                  refine ⟨g6, g7, A1, m1, c1, A5, m5, c5, ?_, hB.b1, hB.b2, res_rd hB.r1, res_rd hB.r2, hB.bel⟩
                  simp only [Act.put, List.setIfInBounds_toArray, List.set_cons_zero, List.set_cons_succ]
          case tw7q_5_6 =>
            refine Turns.mk (d := some 9) rfl rfl (TurnS.value (V := fun v => ∃ g, v = .pointer (some ⟨g, 0, none⟩)) [] (by kernel_rfl) (by rfl) (fun L9 m9 w9 hSh hAt hDn hS => ?cw7q_5_6)) (fun v6 hVv6 => ?rw7q_5_6)
            case cw7q_5_6 =>
              have hs1 := reach_no hSh (f := 10) (j := 8) (d := 6) (by kernel_rfl) hDn
              have hs2 := reach_no hSh (f := 10) (j := 9) (d := 6) (by kernel_rfl) hDn
              refine ⟨.pointer (some ⟨w9.heap.size, 0, none⟩), w9.alloc (.cells #[.int .u64 0, .slice none 0 0] 26), ?_, ⟨_, rfl⟩, TwoS.make1 hS NoRes.res (LRes.res _ _) (LRes.res _ _) hs1 hs2 (by decide)⟩
              clear hS
              go_simp
              try rfl
            try simp only [Act.put, List.setIfInBounds_toArray, List.set_cons_zero, List.set_cons_succ]
            obtain ⟨g6, rfl⟩ := hVv6
            refine Ps.some2 (i := 1) (j := 7) (by kernel_rfl) ?tw7q_28_1 ?tw7q_28_7
            case tw7q_28_1 =>
              refine Turns.mk (d := some 34) rfl rfl (TurnS.call (V := fun v => ∃ A m c, v = .agg #[.int .u64 s1, .slice A m c]) ?fw7q_28_1 ?aw7q_28_1 [] (by kernel_rfl) (by rfl) (fun w9 => ?hw7q_28_1) (fun L9 m9 w9 hSh hAt hDn hS => ?cw7q_28_1)) (fun v1 hVv1 => ?rw7q_28_1)
              case hw7q_28_1 => go_simp; refine ⟨?_, ?_⟩ <;> rfl
              case cw7q_28_1 =>
                have hs1 := reach_no hSh (f := 10) (j := 8) (d := 1) (by kernel_rfl) hDn
                have hs2 := reach_no hSh (f := 10) (j := 9) (d := 1) (by kernel_rfl) hDn
                have hT := TwoS.any hS
                refine (short_any s1 xA xn xc ps1 w9 (Lay.rd_below HRX.out hT) hxm).mono ?_
                rintro e w8 ⟨A2, m2, c2, rfl, ho, q8⟩
                have rd : LP.rd w8 (Av 6 7 m9) A2 m2 (shortP ps1) := ho.rd (fun b hb => (hS.at0 hs1).avoid (.inr hb))
                have hcap : m2 ≤ c2 ∧ c2 ≤ 9223372036854775807 := out_cap ho
                exact ⟨_, rfl, ⟨A2, m2, c2, rfl⟩, TwoS.call hS NoRes.res (LRes.res _ _) (LRes.res _ _) hs1 hs2 (by decide) q8 (fun e => absurd e (by decide)) (fun _ => ⟨(s1, shortP ps1), _, rfl, ⟨A2, m2, c2, rfl, hcap.1, hcap.2, rd⟩, rfl⟩) (fun e => absurd e (by decide))⟩
              try simp only [Act.put, List.setIfInBounds_toArray, List.set_cons_zero, List.set_cons_succ]
              obtain ⟨A1, m1, c1, rfl⟩ := hVv1
              refine Ps.some2 (i := 5) (j := 7) (by kernel_rfl) ?tw7q_29_5 ?tw7q_29_7
              case tw7q_29_5 =>
                refine Turns.mk (d := some 38) rfl rfl (TurnS.call (V := fun v => ∃ A m c, v = .agg #[.int .u64 s0, .slice A m c]) ?fw7q_29_5 ?aw7q_29_5 [] (by kernel_rfl) (by rfl) (fun w9 => ?hw7q_29_5) (fun L9 m9 w9 hSh hAt hDn hS => ?cw7q_29_5)) (fun v5 hVv5 => ?rw7q_29_5)
                case hw7q_29_5 => go_simp; refine ⟨?_, ?_⟩ <;> rfl
                case cw7q_29_5 =>
                  have hs1 := reach_no hSh (f := 10) (j := 8) (d := 5) (by kernel_rfl) hDn
                  have hs2 := reach_no hSh (f := 10) (j := 9) (d := 5) (by kernel_rfl) hDn
                  have hT := TwoS.any hS
                  refine (short_any s0 yA yn yc ps0 w9 (Lay.rd_below HRY.out hT) hym).mono ?_
                  rintro e w8 ⟨A2, m2, c2, rfl, ho, q8⟩
                  have rd : LP.rd w8 (Av 6 7 m9) A2 m2 (shortP ps0) := ho.rd (fun b hb => (hS.at0 hs1).avoid (.inr hb))
                  have hcap : m2 ≤ c2 ∧ c2 ≤ 9223372036854775807 := out_cap ho
                  exact ⟨_, rfl, ⟨A2, m2, c2, rfl⟩, TwoS.call hS NoRes.res (LRes.res _ _) (LRes.res _ _) hs1 hs2 (by decide) q8 (fun e => absurd e (by decide)) (fun e => absurd e (by decide)) (fun _ => ⟨(s0, shortP ps0), _, rfl, ⟨A2, m2, c2, rfl, hcap.1, hcap.2, rd⟩, rfl⟩)⟩
                try simp only [Act.put, List.setIfInBounds_toArray, List.set_cons_zero, List.set_cons_succ]
                obtain ⟨A5, m5, c5, rfl⟩ := hVv5
                refine Ps.some1 (i := 7) (by kernel_rfl) ?tw7q_30_7
                case tw7q_30_7 =>
                  refine Turns.mk (d := some 10) rfl rfl (TurnS.value (V := fun v => ∃ g, v = .pointer (some ⟨g, 0, none⟩)) [] (by kernel_rfl) (by rfl) (fun L9 m9 w9 hSh hAt hDn hS => ?cw7q_30_7)) (fun v7 hVv7 => ?rw7q_30_7)
                  case cw7q_30_7 =>
                    have hs1 := reach_no hSh (f := 10) (j := 8) (d := 7) (by kernel_rfl) hDn
                    have hs2 := reach_no hSh (f := 10) (j := 9) (d := 7) (by kernel_rfl) hDn
                    refine ⟨.pointer (some ⟨w9.heap.size, 0, none⟩), w9.alloc (.cells #[.int .u64 0, .slice none 0 0] 26), ?_, ⟨_, rfl⟩, TwoS.make2 hS NoRes.res (LRes.res _ _) (LRes.res _ _) hs1 hs2 (by decide)⟩
                    clear hS
                    go_simp
                    try rfl
                  try simp only [Act.put, List.setIfInBounds_toArray, List.set_cons_zero, List.set_cons_succ]
                  obtain ⟨g7, rfl⟩ := hVv7
                  refine Ps.step (i := 8) (d := none) (u := undef) rfl rfl (by kernel_rfl) (by kernel_rfl) (by kernel_rfl) (by kernel_rfl) ?yw7q_31 ?rw7q_31
                  case yw7q_31 =>
                    refine StepS.store [1, 5, 6, 7] (by kernel_rfl) (by rfl) (fun L9 m9 w9 hSh hAt hDn hS => ?_)
                    have hs2 := reach_no hSh (f := 10) (j := 9) (d := 8) (by kernel_rfl) hDn
                    obtain ⟨p1, p2, hB⟩ := TwoS.ready1 hS hDn (hAt 6 (by simp)).1 (hAt 7 (by simp)).1 (hAt 1 (by simp)).1 (hAt 5 (by simp)).1
                    obtain rfl : g6 = p1 := pt_inj ((hAt 6 (by simp)).2.symm.trans hB.e1)
                    refine (exec_store_blk (w := w9) 26 (.tmp 9) (.tmp 34) (by rfl) g6 26 #[.int .u64 0, .slice none 0 0] #[.int .u64 s1, .slice A1 m1 c1] (by rfl) (by rfl) hB.b1 rfl netI (by simp [Value.oneCell'])).imp fun w7 hx => ⟨hx.1, TwoS.set1 hs2 (by decide) (hAt 1 (by simp)).2 (hB.store1 (LRes.res _ _) (LRes.res _ _) hx.2.1 hx.2.2)⟩
                  try simp only [Act.put]
                  refine Ps.step (i := 9) (d := none) (u := undef) rfl rfl (by kernel_rfl) (by kernel_rfl) (by kernel_rfl) (by kernel_rfl) ?yw7q_32 ?rw7q_32
                  case yw7q_32 =>
                    refine StepS.store [1, 5, 6, 7, 8] (by kernel_rfl) (by rfl) (fun L9 m9 w9 hSh hAt hDn hS => ?_)
                    obtain ⟨p1, p2, cc, hk, hB⟩ := TwoS.at1 hS (hAt 8 (by simp)).1 hDn
                    obtain rfl : g7 = p2 := pt_inj ((hAt 7 (by simp)).2.symm.trans hB.e2)
                    refine (exec_store_blk (w := w9) 26 (.tmp 10) (.tmp 38) (by rfl) g7 26 #[.int .u64 0, .slice none 0 0] #[.int .u64 s0, .slice A5 m5 c5] (by rfl) (by rfl) hB.b2 rfl netI (by simp [Value.oneCell'])).imp fun w7 hx => ⟨hx.1, TwoS.set2 (by decide) (hAt 8 (by simp)).1 hk (hAt 5 (by simp)).2 (hB.store2 (LRes.res _ _) (LRes.res _ _) hx.2.1 hx.2.2)⟩
                  try simp only [Act.put]
                  refine Ps.done (by kernel_rfl) (fun w7q hS => ?_) _
                  obtain ⟨p1, p2, d1, d2, hk1, hk2, hB⟩ := TwoS.fin hS (by rfl)
                  clear hS
                  obtain rfl : g6 = p1 := pt_inj hB.e1
                  obtain rfl : g7 = p2 := pt_inj hB.e2
                  have hk1 : Value.agg #[.int .u64 s1, .slice A1 m1 c1] = .agg d1 := hk1
                  have hk2 : Value.agg #[.int .u64 s0, .slice A5 m5 c5] = .agg d2 := hk2
                  injection hk1 with hk1
                  injection hk2 with hk2
                  subst hk1 hk2
                  refine ⟨g6, g7, A1, m1, c1, A5, m5, c5, ?_, hB.b1, hB.b2, res_rd hB.r1, res_rd hB.r2, hB.bel⟩
                  simp only [Act.put, List.setIfInBounds_toArray, List.set_cons_zero, List.set_cons_succ]
              case tw7q_29_7 =>
                refine Turns.mk (d := some 10) rfl rfl (TurnS.value (V := fun v => ∃ g, v = .pointer (some ⟨g, 0, none⟩)) [] (by kernel_rfl) (by rfl) (fun L9 m9 w9 hSh hAt hDn hS => ?cw7q_29_7)) (fun v7 hVv7 => ?rw7q_29_7)
                case cw7q_29_7 =>
                  have hs1 := reach_no hSh (f := 10) (j := 8) (d := 7) (by kernel_rfl) hDn
                  have hs2 := reach_no hSh (f := 10) (j := 9) (d := 7) (by kernel_rfl) hDn
                  refine ⟨.pointer (some ⟨w9.heap.size, 0, none⟩), w9.alloc (.cells #[.int .u64 0, .slice none 0 0] 26), ?_, ⟨_, rfl⟩, TwoS.make2 hS NoRes.res (LRes.res _ _) (LRes.res _ _) hs1 hs2 (by decide)⟩
                  clear hS
                  go_simp
                  try rfl
                try simp only [Act.put, List.setIfInBounds_toArray, List.set_cons_zero, List.set_cons_succ]
                obtain ⟨g7, rfl⟩ := hVv7
                refine Ps.some1 (i := 5) (by kernel_rfl) ?tw7q_33_5
                case tw7q_33_5 =>
                  refine Turns.mk (d := some 38) rfl rfl (TurnS.call (V := fun v => ∃ A m c, v = .agg #[.int .u64 s0, .slice A m c]) ?fw7q_33_5 ?aw7q_33_5 [] (by kernel_rfl) (by rfl) (fun w9 => ?hw7q_33_5) (fun L9 m9 w9 hSh hAt hDn hS => ?cw7q_33_5)) (fun v5 hVv5 => ?rw7q_33_5)
                  case hw7q_33_5 => go_simp; refine ⟨?_, ?_⟩ <;> rfl
                  case cw7q_33_5 =>
                    have hs1 := reach_no hSh (f := 10) (j := 8) (d := 5) (by kernel_rfl) hDn
                    have hs2 := reach_no hSh (f := 10) (j := 9) (d := 5) (by kernel_rfl) hDn
                    have hT := TwoS.any hS
                    refine (short_any s0 yA yn yc ps0 w9 (Lay.rd_below HRY.out hT) hym).mono ?_
                    rintro e w8 ⟨A2, m2, c2, rfl, ho, q8⟩
                    have rd : LP.rd w8 (Av 6 7 m9) A2 m2 (shortP ps0) := ho.rd (fun b hb => (hS.at0 hs1).avoid (.inr hb))
                    have hcap : m2 ≤ c2 ∧ c2 ≤ 9223372036854775807 := out_cap ho
                    exact ⟨_, rfl, ⟨A2, m2, c2, rfl⟩, TwoS.call hS NoRes.res (LRes.res _ _) (LRes.res _ _) hs1 hs2 (by decide) q8 (fun e => absurd e (by decide)) (fun e => absurd e (by decide)) (fun _ => ⟨(s0, shortP ps0), _, rfl, ⟨A2, m2, c2, rfl, hcap.1, hcap.2, rd⟩, rfl⟩)⟩
                  try simp only [Act.put, List.setIfInBounds_toArray, List.set_cons_zero, List.set_cons_succ]
                  obtain ⟨A5, m5, c5, rfl⟩ := hVv5
                  refine Ps.step (i := 8) (d := none) (u := undef) rfl rfl (by kernel_rfl) (by kernel_rfl) (by kernel_rfl) (by kernel_rfl) ?yw7q_34 ?rw7q_34
                  case yw7q_34 =>
                    refine StepS.store [1, 5, 6, 7] (by kernel_rfl) (by rfl) (fun L9 m9 w9 hSh hAt hDn hS => ?_)
                    have hs2 := reach_no hSh (f := 10) (j := 9) (d := 8) (by kernel_rfl) hDn
                    obtain ⟨p1, p2, hB⟩ := TwoS.ready1 hS hDn (hAt 6 (by simp)).1 (hAt 7 (by simp)).1 (hAt 1 (by simp)).1 (hAt 5 (by simp)).1
                    obtain rfl : g6 = p1 := pt_inj ((hAt 6 (by simp)).2.symm.trans hB.e1)
                    refine (exec_store_blk (w := w9) 26 (.tmp 9) (.tmp 34) (by rfl) g6 26 #[.int .u64 0, .slice none 0 0] #[.int .u64 s1, .slice A1 m1 c1] (by rfl) (by rfl) hB.b1 rfl netI (by simp [Value.oneCell'])).imp fun w7 hx => ⟨hx.1, TwoS.set1 hs2 (by decide) (hAt 1 (by simp)).2 (hB.store1 (LRes.res _ _) (LRes.res _ _) hx.2.1 hx.2.2)⟩
                  try simp only [Act.put]
                  refine Ps.step (i := 9) (d := none) (u := undef) rfl rfl (by kernel_rfl) (by kernel_rfl) (by kernel_rfl) (by kernel_rfl) ?yw7q_35 ?rw7q_35
                  case yw7q_35 =>
                    refine StepS.store [1, 5, 6, 7, 8] (by kernel_rfl) (by rfl) (fun L9 m9 w9 hSh hAt hDn hS => ?_)
                    obtain ⟨p1, p2, cc, hk, hB⟩ := TwoS.at1 hS (hAt 8 (by simp)).1 hDn
                    obtain rfl : g7 = p2 := pt_inj ((hAt 7 (by simp)).2.symm.trans hB.e2)
                    refine (exec_store_blk (w := w9) 26 (.tmp 10) (.tmp 38) (by rfl) g7 26 #[.int .u64 0, .slice none 0 0] #[.int .u64 s0, .slice A5 m5 c5] (by rfl) (by rfl) hB.b2 rfl netI (by simp [Value.oneCell'])).imp fun w7 hx => ⟨hx.1, TwoS.set2 (by decide) (hAt 8 (by simp)).1 hk (hAt 5 (by simp)).2 (hB.store2 (LRes.res _ _) (LRes.res _ _) hx.2.1 hx.2.2)⟩
                  try simp only [Act.put]
                  refine Ps.done (by kernel_rfl) (fun w7q hS => ?_) _
                  obtain ⟨p1, p2, d1, d2, hk1, hk2, hB⟩ := TwoS.fin hS (by rfl)
                  clear hS
                  obtain rfl : g6 = p1 := pt_inj hB.e1
                  obtain rfl : g7 = p2 := pt_inj hB.e2
                  have hk1 : Value.agg #[.int .u64 s1, .slice A1 m1 c1] = .agg d1 := hk1
                  have hk2 : Value.agg #[.int .u64 s0, .slice A5 m5 c5] = .agg d2 := hk2
                  injection hk1 with hk1
                  injection hk2 with hk2
                  subst hk1 hk2
                  refine ⟨g6, g7, A1, m1, c1, A5, m5, c5, ?_, hB.b1, hB.b2, res_rd hB.r1, res_rd hB.r2, hB.bel⟩
                  simp only [Act.put, List.setIfInBounds_toArray, List.set_cons_zero, List.set_cons_succ]
            case tw7q_28_7 =>
              refine Turns.mk (d := some 10) rfl rfl (TurnS.value (V := fun v => ∃ g, v = .pointer (some ⟨g, 0, none⟩)) [] (by kernel_rfl) (by rfl) (fun L9 m9 w9 hSh hAt hDn hS => ?cw7q_28_7)) (fun v7 hVv7 => ?rw7q_28_7)
              case cw7q_28_7 =>
                have hs1 := reach_no hSh (f := 10) (j := 8) (d := 7) (by kernel_rfl) hDn
                have hs2 := reach_no hSh (f := 10) (j := 9) (d := 7) (by kernel_rfl) hDn
                refine ⟨.pointer (some ⟨w9.heap.size, 0, none⟩), w9.alloc (.cells #[.int .u64 0, .slice none 0 0] 26), ?_, ⟨_, rfl⟩, TwoS.make2 hS NoRes.res (LRes.res _ _) (LRes.res _ _) hs1 hs2 (by decide)⟩
                clear hS
                go_simp
                try rfl
              try simp only [Act.put, List.setIfInBounds_toArray, List.set_cons_zero, List.set_cons_succ]
              obtain ⟨g7, rfl⟩ := hVv7
              refine Ps.some1 (i := 1) (by kernel_rfl) ?tw7q_36_1
              case tw7q_36_1 =>
                refine Turns.mk (d := some 34) rfl rfl (TurnS.call (V := fun v => ∃ A m c, v = .agg #[.int .u64 s1, .slice A m c]) ?fw7q_36_1 ?aw7q_36_1 [] (by kernel_rfl) (by rfl) (fun w9 => ?hw7q_36_1) (fun L9 m9 w9 hSh hAt hDn hS => ?cw7q_36_1)) (fun v1 hVv1 => ?rw7q_36_1)
                case hw7q_36_1 => go_simp; refine ⟨?_, ?_⟩ <;> rfl
                case cw7q_36_1 =>
                  have hs1 := reach_no hSh (f := 10) (j := 8) (d := 1) (by kernel_rfl) hDn
                  have hs2 := reach_no hSh (f := 10) (j := 9) (d := 1) (by kernel_rfl) hDn
                  have hT := TwoS.any hS
                  refine (short_any s1 xA xn xc ps1 w9 (Lay.rd_below HRX.out hT) hxm).mono ?_
                  rintro e w8 ⟨A2, m2, c2, rfl, ho, q8⟩
                  have rd : LP.rd w8 (Av 6 7 m9) A2 m2 (shortP ps1) := ho.rd (fun b hb => (hS.at0 hs1).avoid (.inr hb))
                  have hcap : m2 ≤ c2 ∧ c2 ≤ 9223372036854775807 := out_cap ho
                  exact ⟨_, rfl, ⟨A2, m2, c2, rfl⟩, TwoS.call hS NoRes.res (LRes.res _ _) (LRes.res _ _) hs1 hs2 (by decide) q8 (fun e => absurd e (by decide)) (fun _ => ⟨(s1, shortP ps1), _, rfl, ⟨A2, m2, c2, rfl, hcap.1, hcap.2, rd⟩, rfl⟩) (fun e => absurd e (by decide))⟩
                try simp only [Act.put, List.setIfInBounds_toArray, List.set_cons_zero, List.set_cons_succ]
                obtain ⟨A1, m1, c1, rfl⟩ := hVv1
                refine Ps.some1 (i := 5) (by kernel_rfl) ?tw7q_37_5
                case tw7q_37_5 =>
                  refine Turns.mk (d := some 38) rfl rfl (TurnS.call (V := fun v => ∃ A m c, v = .agg #[.int .u64 s0, .slice A m c]) ?fw7q_37_5 ?aw7q_37_5 [] (by kernel_rfl) (by rfl) (fun w9 => ?hw7q_37_5) (fun L9 m9 w9 hSh hAt hDn hS => ?cw7q_37_5)) (fun v5 hVv5 => ?rw7q_37_5)
                  case hw7q_37_5 => go_simp; refine ⟨?_, ?_⟩ <;> rfl
                  case cw7q_37_5 =>
                    have hs1 := reach_no hSh (f := 10) (j := 8) (d := 5) (by kernel_rfl) hDn
                    have hs2 := reach_no hSh (f := 10) (j := 9) (d := 5) (by kernel_rfl) hDn
                    have hT := TwoS.any hS
                    refine (short_any s0 yA yn yc ps0 w9 (Lay.rd_below HRY.out hT) hym).mono ?_
                    rintro e w8 ⟨A2, m2, c2, rfl, ho, q8⟩
                    have rd : LP.rd w8 (Av 6 7 m9) A2 m2 (shortP ps0) := ho.rd (fun b hb => (hS.at0 hs1).avoid (.inr hb))
                    have hcap : m2 ≤ c2 ∧ c2 ≤ 9223372036854775807 := out_cap ho
                    exact ⟨_, rfl, ⟨A2, m2, c2, rfl⟩, TwoS.call hS NoRes.res (LRes.res _ _) (LRes.res _ _) hs1 hs2 (by decide) q8 (fun e => absurd e (by decide)) (fun e => absurd e (by decide)) (fun _ => ⟨(s0, shortP ps0), _, rfl, ⟨A2, m2, c2, rfl, hcap.1, hcap.2, rd⟩, rfl⟩)⟩
                  try simp only [Act.put, List.setIfInBounds_toArray, List.set_cons_zero, List.set_cons_succ]
                  obtain ⟨A5, m5, c5, rfl⟩ := hVv5
                  refine Ps.step (i := 8) (d := none) (u := undef) rfl rfl (by kernel_rfl) (by kernel_rfl) (by kernel_rfl) (by kernel_rfl) ?yw7q_38 ?rw7q_38
                  case yw7q_38 =>
                    refine StepS.store [1, 5, 6, 7] (by kernel_rfl) (by rfl) (fun L9 m9 w9 hSh hAt hDn hS => ?_)
                    have hs2 := reach_no hSh (f := 10) (j := 9) (d := 8) (by kernel_rfl) hDn
                    obtain ⟨p1, p2, hB⟩ := TwoS.ready1 hS hDn (hAt 6 (by simp)).1 (hAt 7 (by simp)).1 (hAt 1 (by simp)).1 (hAt 5 (by simp)).1
                    obtain rfl : g6 = p1 := pt_inj ((hAt 6 (by simp)).2.symm.trans hB.e1)
                    refine (exec_store_blk (w := w9) 26 (.tmp 9) (.tmp 34) (by rfl) g6 26 #[.int .u64 0, .slice none 0 0] #[.int .u64 s1, .slice A1 m1 c1] (by rfl) (by rfl) hB.b1 rfl netI (by simp [Value.oneCell'])).imp fun w7 hx => ⟨hx.1, TwoS.set1 hs2 (by decide) (hAt 1 (by simp)).2 (hB.store1 (LRes.res _ _) (LRes.res _ _) hx.2.1 hx.2.2)⟩
                  try simp only [Act.put]
                  refine Ps.step (i := 9) (d := none) (u := undef) rfl rfl (by kernel_rfl) (by kernel_rfl) (by kernel_rfl) (by kernel_rfl) ?yw7q_39 ?rw7q_39
                  case yw7q_39 =>
                    refine StepS.store [1, 5, 6, 7, 8] (by kernel_rfl) (by rfl) (fun L9 m9 w9 hSh hAt hDn hS => ?_)
                    obtain ⟨p1, p2, cc, hk, hB⟩ := TwoS.at1 hS (hAt 8 (by simp)).1 hDn
                    obtain rfl : g7 = p2 := pt_inj ((hAt 7 (by simp)).2.symm.trans hB.e2)
                    refine (exec_store_blk (w := w9) 26 (.tmp 10) (.tmp 38) (by rfl) g7 26 #[.int .u64 0, .slice none 0 0] #[.int .u64 s0, .slice A5 m5 c5] (by rfl) (by rfl) hB.b2 rfl netI (by simp [Value.oneCell'])).imp fun w7 hx => ⟨hx.1, TwoS.set2 (by decide) (hAt 8 (by simp)).1 hk (hAt 5 (by simp)).2 (hB.store2 (LRes.res _ _) (LRes.res _ _) hx.2.1 hx.2.2)⟩
                  try simp only [Act.put]
                  refine Ps.done (by kernel_rfl) (fun w7q hS => ?_) _
                  obtain ⟨p1, p2, d1, d2, hk1, hk2, hB⟩ := TwoS.fin hS (by rfl)
                  clear hS
                  obtain rfl : g6 = p1 := pt_inj hB.e1
                  obtain rfl : g7 = p2 := pt_inj hB.e2
                  have hk1 : Value.agg #[.int .u64 s1, .slice A1 m1 c1] = .agg d1 := hk1
                  have hk2 : Value.agg #[.int .u64 s0, .slice A5 m5 c5] = .agg d2 := hk2
                  injection hk1 with hk1
                  injection hk2 with hk2
                  subst hk1 hk2
                  refine ⟨g6, g7, A1, m1, c1, A5, m5, c5, ?_, hB.b1, hB.b2, res_rd hB.r1, res_rd hB.r2, hB.bel⟩
                  simp only [Act.put, List.setIfInBounds_toArray, List.set_cons_zero, List.set_cons_succ]
          case tw7q_5_7 =>
            refine Turns.mk (d := some 10) rfl rfl (TurnS.value (V := fun v => ∃ g, v = .pointer (some ⟨g, 0, none⟩)) [] (by kernel_rfl) (by rfl) (fun L9 m9 w9 hSh hAt hDn hS => ?cw7q_5_7)) (fun v7 hVv7 => ?rw7q_5_7)
            case cw7q_5_7 =>
              have hs1 := reach_no hSh (f := 10) (j := 8) (d := 7) (by kernel_rfl) hDn
              have hs2 := reach_no hSh (f := 10) (j := 9) (d := 7) (by kernel_rfl) hDn
              refine ⟨.pointer (some ⟨w9.heap.size, 0, none⟩), w9.alloc (.cells #[.int .u64 0, .slice none 0 0] 26), ?_, ⟨_, rfl⟩, TwoS.make2 hS NoRes.res (LRes.res _ _) (LRes.res _ _) hs1 hs2 (by decide)⟩
              clear hS
              go_simp
              try rfl
            try simp only [Act.put, List.setIfInBounds_toArray, List.set_cons_zero, List.set_cons_succ]
            obtain ⟨g7, rfl⟩ := hVv7
            refine Ps.some2 (i := 1) (j := 6) (by kernel_rfl) ?tw7q_40_1 ?tw7q_40_6
            case tw7q_40_1 =>
              refine Turns.mk (d := some 34) rfl rfl (TurnS.call (V := fun v => ∃ A m c, v = .agg #[.int .u64 s1, .slice A m c]) ?fw7q_40_1 ?aw7q_40_1 [] (by kernel_rfl) (by rfl) (fun w9 => ?hw7q_40_1) (fun L9 m9 w9 hSh hAt hDn hS => ?cw7q_40_1)) (fun v1 hVv1 => ?rw7q_40_1)
              case hw7q_40_1 => go_simp; refine ⟨?_, ?_⟩ <;> rfl
              case cw7q_40_1 =>
                have hs1 := reach_no hSh (f := 10) (j := 8) (d := 1) (by kernel_rfl) hDn
                have hs2 := reach_no hSh (f := 10) (j := 9) (d := 1) (by kernel_rfl) hDn
                have hT := TwoS.any hS
                refine (short_any s1 xA xn xc ps1 w9 (Lay.rd_below HRX.out hT) hxm).mono ?_
                rintro e w8 ⟨A2, m2, c2, rfl, ho, q8⟩
                have rd : LP.rd w8 (Av 6 7 m9) A2 m2 (shortP ps1) := ho.rd (fun b hb => (hS.at0 hs1).avoid (.inr hb))
                have hcap : m2 ≤ c2 ∧ c2 ≤ 9223372036854775807 := out_cap ho
                exact ⟨_, rfl, ⟨A2, m2, c2, rfl⟩, TwoS.call hS NoRes.res (LRes.res _ _) (LRes.res _ _) hs1 hs2 (by decide) q8 (fun e => absurd e (by decide)) (fun _ => ⟨(s1, shortP ps1), _, rfl, ⟨A2, m2, c2, rfl, hcap.1, hcap.2, rd⟩, rfl⟩) (fun e => absurd e (by decide))⟩
              try simp only [Act.put, List.setIfInBounds_toArray, List.set_cons_zero, List.set_cons_succ]
              obtain ⟨A1, m1, c1, rfl⟩ := hVv1
              refine Ps.some2 (i := 5) (j := 6) (by kernel_rfl) ?tw7q_41_5 ?tw7q_41_6
              case tw7q_41_5 =>
                refine Turns.mk (d := some 38) rfl rfl (TurnS.call (V := fun v => ∃ A m c, v = .agg #[.int .u64 s0, .slice A m c]) ?fw7q_41_5 ?aw7q_41_5 [] (by kernel_rfl) (by rfl) (fun w9 => ?hw7q_41_5) (fun L9 m9 w9 hSh hAt hDn hS => ?cw7q_41_5)) (fun v5 hVv5 => ?rw7q_41_5)
                case hw7q_41_5 => go_simp; refine ⟨?_, ?_⟩ <;> rfl
                case cw7q_41_5 =>
                  have hs1 := reach_no hSh (f := 10) (j := 8) (d := 5) (by kernel_rfl) hDn
                  have hs2 := reach_no hSh (f := 10) (j := 9) (d := 5) (by kernel_rfl) hDn
                  have hT := TwoS.any hS
                  refine (short_any s0 yA yn yc ps0 w9 (Lay.rd_below HRY.out hT) hym).mono ?_
                  rintro e w8 ⟨A2, m2, c2, rfl, ho, q8⟩
                  have rd : LP.rd w8 (Av 6 7 m9) A2 m2 (shortP ps0) := ho.rd (fun b hb => (hS.at0 hs1).avoid (.inr hb))
                  have hcap : m2 ≤ c2 ∧ c2 ≤ 9223372036854775807 := out_cap ho
                  exact ⟨_, rfl, ⟨A2, m2, c2, rfl⟩, TwoS.call hS NoRes.res (LRes.res _ _) (LRes.res _ _) hs1 hs2 (by decide) q8 (fun e => absurd e (by decide)) (fun e => absurd e (by decide)) (fun _ => ⟨(s0, shortP ps0), _, rfl, ⟨A2, m2, c2, rfl, hcap.1, hcap.2, rd⟩, rfl⟩)⟩
                try simp only [Act.put, List.setIfInBounds_toArray, List.set_cons_zero, List.set_cons_succ]
                obtain ⟨A5, m5, c5, rfl⟩ := hVv5
                refine Ps.some1 (i := 6) (by kernel_rfl) ?tw7q_42_6
                case tw7q_42_6 =>
                  refine Turns.mk (d := some 9) rfl rfl (TurnS.value (V := fun v => ∃ g, v = .pointer (some ⟨g, 0, none⟩)) [] (by kernel_rfl) (by rfl) (fun L9 m9 w9 hSh hAt hDn hS => ?cw7q_42_6)) (fun v6 hVv6 => ?rw7q_42_6)
                  case cw7q_42_6 =>
                    have hs1 := reach_no hSh (f := 10) (j := 8) (d := 6) (by kernel_rfl) hDn
                    have hs2 := reach_no hSh (f := 10) (j := 9) (d := 6) (by kernel_rfl) hDn
                    refine ⟨.pointer (some ⟨w9.heap.size, 0, none⟩), w9.alloc (.cells #[.int .u64 0, .slice none 0 0] 26), ?_, ⟨_, rfl⟩, TwoS.make1 hS NoRes.res (LRes.res _ _) (LRes.res _ _) hs1 hs2 (by decide)⟩
                    clear hS
                    go_simp
                    try rfl
                  try simp only [Act.put, List.setIfInBounds_toArray, List.set_cons_zero, List.set_cons_succ]
                  obtain ⟨g6, rfl⟩ := hVv6
                  refine Ps.step (i := 8) (d := none) (u := undef) rfl rfl (by kernel_rfl) (by kernel_rfl) (by kernel_rfl) (by kernel_rfl) ?yw7q_43 ?rw7q_43
                  case yw7q_43 =>
                    refine StepS.store [1, 5, 6, 7] (by kernel_rfl) (by rfl) (fun L9 m9 w9 hSh hAt hDn hS => ?_)
                    have hs2 := reach_no hSh (f := 10) (j := 9) (d := 8) (by kernel_rfl) hDn
                    obtain ⟨p1, p2, hB⟩ := TwoS.ready1 hS hDn (hAt 6 (by simp)).1 (hAt 7 (by simp)).1 (hAt 1 (by simp)).1 (hAt 5 (by simp)).1
                    obtain rfl : g6 = p1 := pt_inj ((hAt 6 (by simp)).2.symm.trans hB.e1)
                    refine (exec_store_blk (w := w9) 26 (.tmp 9) (.tmp 34) (by rfl) g6 26 #[.int .u64 0, .slice none 0 0] #[.int .u64 s1, .slice A1 m1 c1] (by rfl) (by rfl) hB.b1 rfl netI (by simp [Value.oneCell'])).imp fun w7 hx => ⟨hx.1, TwoS.set1 hs2 (by decide) (hAt 1 (by simp)).2 (hB.store1 (LRes.res _ _) (LRes.res _ _) hx.2.1 hx.2.2)⟩
                  try simp only [Act.put]
                  refine Ps.step (i := 9) (d := none) (u := undef) rfl rfl (by kernel_rfl) (by kernel_rfl) (by kernel_rfl) (by kernel_rfl) ?yw7q_44 ?rw7q_44
                  case yw7q_44 =>
                    refine StepS.store [1, 5, 6, 7, 8] (by kernel_rfl) (by rfl) (fun L9 m9 w9 hSh hAt hDn hS => ?_)
                    obtain ⟨p1, p2, cc, hk, hB⟩ := TwoS.at1 hS (hAt 8 (by simp)).1 hDn
                    obtain rfl : g7 = p2 := pt_inj ((hAt 7 (by simp)).2.symm.trans hB.e2)
                    refine (exec_store_blk (w := w9) 26 (.tmp 10) (.tmp 38) (by rfl) g7 26 #[.int .u64 0, .slice none 0 0] #[.int .u64 s0, .slice A5 m5 c5] (by rfl) (by rfl) hB.b2 rfl netI (by simp [Value.oneCell'])).imp fun w7 hx => ⟨hx.1, TwoS.set2 (by decide) (hAt 8 (by simp)).1 hk (hAt 5 (by simp)).2 (hB.store2 (LRes.res _ _) (LRes.res _ _) hx.2.1 hx.2.2)⟩
                  try simp only [Act.put]
                  refine Ps.done (by kernel_rfl) (fun w7q hS => ?_) _
                  obtain ⟨p1, p2, d1, d2, hk1, hk2, hB⟩ := TwoS.fin hS (by rfl)
                  clear hS
                  obtain rfl : g6 = p1 := pt_inj hB.e1
                  obtain rfl : g7 = p2 := pt_inj hB.e2
                  have hk1 : Value.agg #[.int .u64 s1, .slice A1 m1 c1] = .agg d1 := hk1
                  have hk2 : Value.agg #[.int .u64 s0, .slice A5 m5 c5] = .agg d2 := hk2
                  injection hk1 with hk1
                  injection hk2 with hk2
                  subst hk1 hk2
                  refine ⟨g6, g7, A1, m1, c1, A5, m5, c5, ?_, hB.b1, hB.b2, res_rd hB.r1, res_rd hB.r2, hB.bel⟩
                  simp only [Act.put, List.setIfInBounds_toArray, List.set_cons_zero, List.set_cons_succ]
              case tw7q_41_6 =>
                refine Turns.mk (d := some 9) rfl rfl (TurnS.value (V := fun v => ∃ g, v = .pointer (some ⟨g, 0, none⟩)) [] (by kernel_rfl) (by rfl) (fun L9 m9 w9 hSh hAt hDn hS => ?cw7q_41_6)) (fun v6 hVv6 => ?rw7q_41_6)
                case cw7q_41_6 =>
                  have hs1 := reach_no hSh (f := 10) (j := 8) (d := 6) (by kernel_rfl) hDn
                  have hs2 := reach_no hSh (f := 10) (j := 9) (d := 6) (by kernel_rfl) hDn
                  refine ⟨.pointer (some ⟨w9.heap.size, 0, none⟩), w9.alloc (.cells #[.int .u64 0, .slice none 0 0] 26), ?_, ⟨_, rfl⟩, TwoS.make1 hS NoRes.res (LRes.res _ _) (LRes.res _ _) hs1 hs2 (by decide)⟩
                  clear hS
                  go_simp
                  try rfl
                try simp only [Act.put, List.setIfInBounds_toArray, List.set_cons_zero, List.set_cons_succ]
                obtain ⟨g6, rfl⟩ := hVv6
                refine Ps.some1 (i := 5) (by kernel_rfl) ?tw7q_45_5
                case tw7q_45_5 =>
                  refine Turns.mk (d := some 38) rfl rfl (TurnS.call (V := fun v => ∃ A m c, v = .agg #[.int .u64 s0, .slice A m c]) ?fw7q_45_5 ?aw7q_45_5 [] (by kernel_rfl) (by rfl) (fun w9 => ?hw7q_45_5) (fun L9 m9 w9 hSh hAt hDn hS => ?cw7q_45_5)) (fun v5 hVv5 => ?rw7q_45_5)
                  case hw7q_45_5 => go_simp; refine ⟨?_, ?_⟩ <;> rfl
                  case cw7q_45_5 =>
                    have hs1 := reach_no hSh (f := 10) (j := 8) (d := 5) (by kernel_rfl) hDn
                    have hs2 := reach_no hSh (f := 10) (j := 9) (d := 5) (by kernel_rfl) hDn
                    have hT := TwoS.any hS
                    refine (short_any s0 yA yn yc ps0 w9 (Lay.rd_below HRY.out hT) hym).mono ?_
                    rintro e w8 ⟨A2, m2, c2, rfl, ho, q8⟩
                    have rd : LP.rd w8 (Av 6 7 m9) A2 m2 (shortP ps0) := ho.rd (fun b hb => (hS.at0 hs1).avoid (.inr hb))
                    have hcap : m2 ≤ c2 ∧ c2 ≤ 9223372036854775807 := out_cap ho
                    exact ⟨_, rfl, ⟨A2, m2, c2, rfl⟩, TwoS.call hS NoRes.res (LRes.res _ _) (LRes.res _ _) hs1 hs2 (by decide) q8 (fun e => absurd e (by decide)) (fun e => absurd e (by decide)) (fun _ => ⟨(s0, shortP ps0), _, rfl, ⟨A2, m2, c2, rfl, hcap.1, hcap.2, rd⟩, rfl⟩)⟩
                  try simp only [Act.put, List.setIfInBounds_toArray, List.set_cons_zero, List.set_cons_succ]
                  obtain ⟨A5, m5, c5, rfl⟩ := hVv5
                  refine Ps.step (i := 8) (d := none) (u := undef) rfl rfl (by kernel_rfl) (by kernel_rfl) (by kernel_rfl) (by kernel_rfl) ?yw7q_46 ?rw7q_46
                  case yw7q_46 =>
                    refine StepS.store [1, 5, 6, 7] (by kernel_rfl) (by rfl) (fun L9 m9 w9 hSh hAt hDn hS => ?_)
                    have hs2 := reach_no hSh (f := 10) (j := 9) (d := 8) (by kernel_rfl) hDn
                    obtain ⟨p1, p2, hB⟩ := TwoS.ready1 hS hDn (hAt 6 (by simp)).1 (hAt 7 (by simp)).1 (hAt 1 (by simp)).1 (hAt 5 (by simp)).1
                    obtain rfl : g6 = p1 := pt_inj ((hAt 6 (by simp)).2.symm.trans hB.e1)
                    refine (exec_store_blk (w := w9) 26 (.tmp 9) (.tmp 34) (by rfl) g6 26 #[.int .u64 0, .slice none 0 0] #[.int .u64 s1, .slice A1 m1 c1] (by rfl) (by rfl) hB.b1 rfl netI (by simp [Value.oneCell'])).imp fun w7 hx => ⟨hx.1, TwoS.set1 hs2 (by decide) (hAt 1 (by simp)).2 (hB.store1 (LRes.res _ _) (LRes.res _ _) hx.2.1 hx.2.2)⟩
                  try simp only [Act.put]
                  refine Ps.step (i := 9) (d := none) (u := undef) rfl rfl (by kernel_rfl) (by kernel_rfl) (by kernel_rfl) (by kernel_rfl) ?yw7q_47 ?rw7q_47
                  case yw7q_47 =>
                    refine StepS.store [1, 5, 6, 7, 8] (by kernel_rfl) (by rfl) (fun L9 m9 w9 hSh hAt hDn hS => ?_)
                    obtain ⟨p1, p2, cc, hk, hB⟩ := TwoS.at1 hS (hAt 8 (by simp)).1 hDn
                    obtain rfl : g7 = p2 := pt_inj ((hAt 7 (by simp)).2.symm.trans hB.e2)
                    refine (exec_store_blk (w := w9) 26 (.tmp 10) (.tmp 38) (by rfl) g7 26 #[.int .u64 0, .slice none 0 0] #[.int .u64 s0, .slice A5 m5 c5] (by rfl) (by rfl) hB.b2 rfl netI (by simp [Value.oneCell'])).imp fun w7 hx => ⟨hx.1, TwoS.set2 (by decide) (hAt 8 (by simp)).1 hk (hAt 5 (by simp)).2 (hB.store2 (LRes.res _ _) (LRes.res _ _) hx.2.1 hx.2.2)⟩
                  try simp only [Act.put]
                  refine Ps.done (by kernel_rfl) (fun w7q hS => ?_) _
                  obtain ⟨p1, p2, d1, d2, hk1, hk2, hB⟩ := TwoS.fin hS (by rfl)
                  clear hS
                  obtain rfl : g6 = p1 := pt_inj hB.e1
                  obtain rfl : g7 = p2 := pt_inj hB.e2
                  have hk1 : Value.agg #[.int .u64 s1, .slice A1 m1 c1] = .agg d1 := hk1
                  have hk2 : Value.agg #[.int .u64 s0, .slice A5 m5 c5] = .agg d2 := hk2
                  injection hk1 with hk1
                  injection hk2 with hk2
                  subst hk1 hk2
                  refine ⟨g6, g7, A1, m1, c1, A5, m5, c5, ?_, hB.b1, hB.b2, res_rd hB.r1, res_rd hB.r2, hB.bel⟩
                  simp only [Act.put, List.setIfInBounds_toArray, List.set_cons_zero, List.set_cons_succ]
            case tw7q_40_6 =>
              refine Turns.mk (d := some 9) rfl rfl (TurnS.value (V := fun v => ∃ g, v = .pointer (some ⟨g, 0, none⟩)) [] (by kernel_rfl) (by rfl) (fun L9 m9 w9 hSh hAt hDn hS => ?cw7q_40_6)) (fun v6 hVv6 => ?rw7q_40_6)
              case cw7q_40_6 =>
                have hs1 := reach_no hSh (f := 10) (j := 8) (d := 6) (by kernel_rfl) hDn
                have hs2 := reach_no hSh (f := 10) (j := 9) (d := 6) (by kernel_rfl) hDn
                refine ⟨.pointer (some ⟨w9.heap.size, 0, none⟩), w9.alloc (.cells #[.int .u64 0, .slice none 0 0] 26), ?_, ⟨_, rfl⟩, TwoS.make1 hS NoRes.res (LRes.res _ _) (LRes.res _ _) hs1 hs2 (by decide)⟩
                clear hS
                go_simp
                try rfl
              try simp only [Act.put, List.setIfInBounds_toArray, List.set_cons_zero, List.set_cons_succ]
              obtain ⟨g6, rfl⟩ := hVv6
              refine Ps.some1 (i := 1) (by kernel_rfl) ?tw7q_48_1
              case tw7q_48_1 =>
                refine Turns.mk (d := some 34) rfl rfl (TurnS.call (V := fun v => ∃ A m c, v = .agg #[.int .u64 s1, .slice A m c]) ?fw7q_48_1 ?aw7q_48_1 [] (by kernel_rfl) (by rfl) (fun w9 => ?hw7q_48_1) (fun L9 m9 w9 hSh hAt hDn hS => ?cw7q_48_1)) (fun v1 hVv1 => ?rw7q_48_1)
                case hw7q_48_1 => go_simp; refine ⟨?_, ?_⟩ <;> rfl
                case cw7q_48_1 =>
                  have hs1 := reach_no hSh (f := 10) (j := 8) (d := 1) (by kernel_rfl) hDn
                  have hs2 := reach_no hSh (f := 10) (j := 9) (d := 1) (by kernel_rfl) hDn
                  have hT := TwoS.any hS
                  refine (short_any s1 xA xn xc ps1 w9 (Lay.rd_below HRX.out hT) hxm).mono ?_
                  rintro e w8 ⟨A2, m2, c2, rfl, ho, q8⟩
                  have rd : LP.rd w8 (Av 6 7 m9) A2 m2 (shortP ps1) := ho.rd (fun b hb => (hS.at0 hs1).avoid (.inr hb))
                  have hcap : m2 ≤ c2 ∧ c2 ≤ 9223372036854775807 := out_cap ho
                  exact ⟨_, rfl, ⟨A2, m2, c2, rfl⟩, TwoS.call hS NoRes.res (LRes.res _ _) (LRes.res _ _) hs1 hs2 (by decide) q8 (fun e => absurd e (by decide)) (fun _ => ⟨(s1, shortP ps1), _, rfl, ⟨A2, m2, c2, rfl, hcap.1, hcap.2, rd⟩, rfl⟩) (fun e => absurd e (by decide))⟩
                try simp only [Act.put, List.setIfInBounds_toArray, List.set_cons_zero, List.set_cons_succ]
                obtain ⟨A1, m1, c1, rfl⟩ := hVv1
                refine Ps.some1 (i := 5) (by kernel_rfl) ?tw7q_49_5
                case tw7q_49_5 =>
                  refine Turns.mk (d := some 38) rfl rfl (TurnS.call (V := fun v => ∃ A m c, v = .agg #[.int .u64 s0, .slice A m c]) ?fw7q_49_5 ?aw7q_49_5 [] (by kernel_rfl) (by rfl) (fun w9 => ?hw7q_49_5) (fun L9 m9 w9 hSh hAt hDn hS => ?cw7q_49_5)) (fun v5 hVv5 => ?rw7q_49_5)
                  case hw7q_49_5 => go_simp; refine ⟨?_, ?_⟩ <;> rfl
                  case cw7q_49_5 =>
                    have hs1 := reach_no hSh (f := 10) (j := 8) (d := 5) (by kernel_rfl) hDn
                    have hs2 := reach_no hSh (f := 10) (j := 9) (d := 5) (by kernel_rfl) hDn
                    have hT := TwoS.any hS
                    refine (short_any s0 yA yn yc ps0 w9 (Lay.rd_below HRY.out hT) hym).mono ?_
                    rintro e w8 ⟨A2, m2, c2, rfl, ho, q8⟩
                    have rd : LP.rd w8 (Av 6 7 m9) A2 m2 (shortP ps0) := ho.rd (fun b hb => (hS.at0 hs1).avoid (.inr hb))
                    have hcap : m2 ≤ c2 ∧ c2 ≤ 9223372036854775807 := out_cap ho
                    exact ⟨_, rfl, ⟨A2, m2, c2, rfl⟩, TwoS.call hS NoRes.res (LRes.res _ _) (LRes.res _ _) hs1 hs2 (by decide) q8 (fun e => absurd e (by decide)) (fun e => absurd e (by decide)) (fun _ => ⟨(s0, shortP ps0), _, rfl, ⟨A2, m2, c2, rfl, hcap.1, hcap.2, rd⟩, rfl⟩)⟩
                  try simp only [Act.put, List.setIfInBounds_toArray, List.set_cons_zero, List.set_cons_succ]
                  obtain ⟨A5, m5, c5, rfl⟩ := hVv5
                  refine Ps.step (i := 8) (d := none) (u := undef) rfl rfl (by kernel_rfl) (by kernel_rfl) (by kernel_rfl) (by kernel_rfl) ?yw7q_50 ?rw7q_50
                  case yw7q_50 =>
                    refine StepS.store [1, 5, 6, 7] (by kernel_rfl) (by rfl) (fun L9 m9 w9 hSh hAt hDn hS => ?_)
                    have hs2 := reach_no hSh (f := 10) (j := 9) (d := 8) (by kernel_rfl) hDn
                    obtain ⟨p1, p2, hB⟩ := TwoS.ready1 hS hDn (hAt 6 (by simp)).1 (hAt 7 (by simp)).1 (hAt 1 (by simp)).1 (hAt 5 (by simp)).1
                    obtain rfl : g6 = p1 := pt_inj ((hAt 6 (by simp)).2.symm.trans hB.e1)
                    refine (exec_store_blk (w := w9) 26 (.tmp 9) (.tmp 34) (by rfl) g6 26 #[.int .u64 0, .slice none 0 0] #[.int .u64 s1, .slice A1 m1 c1] (by rfl) (by rfl) hB.b1 rfl netI (by simp [Value.oneCell'])).imp fun w7 hx => ⟨hx.1, TwoS.set1 hs2 (by decide) (hAt 1 (by simp)).2 (hB.store1 (LRes.res _ _) (LRes.res _ _) hx.2.1 hx.2.2)⟩
                  try simp only [Act.put]
                  refine Ps.step (i := 9) (d := none) (u := undef) rfl rfl (by kernel_rfl) (by kernel_rfl) (by kernel_rfl) (by kernel_rfl) ?yw7q_51 ?rw7q_51
                  case yw7q_51 =>
                    refine StepS.store [1, 5, 6, 7, 8] (by kernel_rfl) (by rfl) (fun L9 m9 w9 hSh hAt hDn hS => ?_)
                    obtain ⟨p1, p2, cc, hk, hB⟩ := TwoS.at1 hS (hAt 8 (by simp)).1 hDn
                    obtain rfl : g7 = p2 := pt_inj ((hAt 7 (by simp)).2.symm.trans hB.e2)
                    refine (exec_store_blk (w := w9) 26 (.tmp 10) (.tmp 38) (by rfl) g7 26 #[.int .u64 0, .slice none 0 0] #[.int .u64 s0, .slice A5 m5 c5] (by rfl) (by rfl) hB.b2 rfl netI (by simp [Value.oneCell'])).imp fun w7 hx => ⟨hx.1, TwoS.set2 (by decide) (hAt 8 (by simp)).1 hk (hAt 5 (by simp)).2 (hB.store2 (LRes.res _ _) (LRes.res _ _) hx.2.1 hx.2.2)⟩
                  try simp only [Act.put]
                  refine Ps.done (by kernel_rfl) (fun w7q hS => ?_) _
                  obtain ⟨p1, p2, d1, d2, hk1, hk2, hB⟩ := TwoS.fin hS (by rfl)
                  clear hS
                  obtain rfl : g6 = p1 := pt_inj hB.e1
                  obtain rfl : g7 = p2 := pt_inj hB.e2
                  have hk1 : Value.agg #[.int .u64 s1, .slice A1 m1 c1] = .agg d1 := hk1
                  have hk2 : Value.agg #[.int .u64 s0, .slice A5 m5 c5] = .agg d2 := hk2
                  injection hk1 with hk1
                  injection hk2 with hk2
                  subst hk1 hk2
                  refine ⟨g6, g7, A1, m1, c1, A5, m5, c5, ?_, hB.b1, hB.b2, res_rd hB.r1, res_rd hB.r2, hB.bel⟩
                  simp only [Act.put, List.setIfInBounds_toArray, List.set_cons_zero, List.set_cons_succ]
        intro a' w10 ⟨g6, g7, A1, m1, c1, A5, m5, c5, ha', b6, b7, r1, r5, hb10⟩
        subst ha'
        simp only [Act.put, List.setIfInBounds_toArray, List.set_cons_zero, List.set_cons_succ]
        have H6 := Lib.hid b6
        have H7 := Lib.hid b7
        have H8 := Lib.hid (HX8.out.ca hb10)
        have HXR := Lib.hid (Lay.rd_below HRX.out hb10)
        have HB10 := Lib.hid (bl_ca HB5.out hb10)
        have hq1 : (shortP ps1).length ≤ 20001 := by rw [shortP_len]; omega
        have HSX := Lib.hid (fun W h => short_any s1 xA xn xc ps1 W h hxm)
        generalize shortP ps1 = q1 at *
        generalize shortP ps0 = q0 at *
        have hm1 : m1 ≤ 9223372036854775807 := by have := Lay.rd_len r1; omega
        have hm2 : m1 ≤ 30000 := by have := Lay.rd_len r1; omega
        obtain ⟨bS, hbS⟩ : ∃ bS, bS = decide (s1 = s0 ∧ q1 = q0) := ⟨_, rfl⟩
        have HBS := Lib.hid hbS
        have HQ1 := Lib.hid r1
        have HQ0 := Lib.hid r5
        have HND := Lib.hid (Lay.rd_below HN.out HB10.out)
        have HPD := Lib.hid HP.out
        have y0 : w10.cell? ⟨g6, 0, none⟩ = some (.int .u64 s1) := b6.cell 0
        have y1 : w10.cell? ⟨g6, 1, none⟩ = some (.slice A1 m1 c1) := b6.cell 1
        have HRT := Lib.hid (right_any s1 A1 m1 c1 q1 w10 r1 hm1)
        have HCT := Lib.hid (fun W (h : LP.rd W AllB A1 m1 q1) => check_any AllB s1 A1 m1 c1 q1 W h hm1)
        clear b6 b7 r1 r5 hb10 hbS hq1 HX8 HRX HRY HB5 HF0 HF1 hfl
        cases hc : chkB s1 q1
        · rw [hc] at HRT
          rw [hc, show errN false = 340 from rfl] at HCT
          have HCK := Lib.hid hc
          clear hc
          go_wp2_with fail
          refine HRT.out.mono ?_
          clear HRT
          rintro e w11 ⟨rfl, q11⟩
          have z0 : w11.cell? ⟨g6, 0, none⟩ = some (.int .u64 s1) := (H6.out.ca q11).cell 0
          have z1 : w11.cell? ⟨g6, 1, none⟩ = some (.slice A1 m1 c1) := (H6.out.ca q11).cell 1
          replace HCT := Lib.hid (HCT.out w11 (Lay.rd_below HQ1.out q11))
          have HQ11 := Lib.hid q11
          clear q11 y0 y1
          go_wp2_with fail
          refine HCT.out.mono ?_
          clear HCT z0 z1
          rintro e w12 ⟨rfl, q12⟩
          have q13 := bl_ca HQ11.out q12
          replace H6 := Lib.hid (H6.out.ca q13)
          replace H7 := Lib.hid (H7.out.ca q13)
          replace H8 := Lib.hid (H8.out.ca q13)
          replace HQ1 := Lib.hid (Lay.rd_below HQ1.out q13)
          replace HQ0 := Lib.hid (Lay.rd_below HQ0.out q13)
          replace HXR := Lib.hid (Lay.rd_below HXR.out q13)
          replace HB10 := Lib.hid (bl_ca HB10.out q13)
          replace HND := Lib.hid HN.out
          clear q12 q13 HQ11
          go_wp2_with fail
          obtain ⟨w10, rfl⟩ : ∃ x, x = w12 := ⟨_, rfl⟩
          refine wp_region_ps (S := SeqN [24] (fun j m w' => match j with | 0 => Below w10.heap.size w10 w' | _ => Below w10.heap.size w10 w' ∧ ∃ A n c, m 24 = .agg #[.int .u64 s1, .slice A n c] ∧ LP.rd w' AllB A n q1)) (by kernel_rfl) ?spswqF ?ppswqF
          case spswqF =>
            exact SeqN.start (by rfl) (Below.refl _ _).drew
          refine Ps.step (i := 0) (d := some 43) (u := ?uwqF_52) rfl rfl (by kernel_rfl) (by kernel_rfl) (by kernel_rfl) (by kernel_rfl) ?ywqF_52 ?rwqF_52
          case ywqF_52 =>
            refine StepS.pure (SeqN.pass (by decide)) (by rfl) (fun w9 => ?_)
            go_simp
            try rfl
          try simp only [Act.put, List.setIfInBounds_toArray, List.set_cons_zero, List.set_cons_succ]
          refine Ps.step (i := 1) (d := some 44) (u := ?uwqF_53) rfl rfl (by kernel_rfl) (by kernel_rfl) (by kernel_rfl) (by kernel_rfl) ?ywqF_53 ?rwqF_53
          case ywqF_53 =>
            refine StepS.pure (SeqN.pass (by decide)) (by rfl) (fun w9 => ?_)
            go_simp
            try rfl
          try simp only [Act.put, List.setIfInBounds_toArray, List.set_cons_zero, List.set_cons_succ]
          refine Ps.step (i := 2) (d := some 45) (u := ?uwqF_54) rfl rfl (by kernel_rfl) (by kernel_rfl) (by kernel_rfl) (by kernel_rfl) ?ywqF_54 ?rwqF_54
          case ywqF_54 =>
            refine StepS.pure (SeqN.pass (by decide)) (by rfl) (fun w9 => ?_)
            go_simp
            try rfl
          try simp only [Act.put, List.setIfInBounds_toArray, List.set_cons_zero, List.set_cons_succ]
          refine Ps.step (i := 3) (d := some 46) (u := ?uwqF_55) rfl rfl (by kernel_rfl) (by kernel_rfl) (by kernel_rfl) (by kernel_rfl) ?ywqF_55 ?rwqF_55
          case ywqF_55 =>
            refine StepS.pure (SeqN.pass (by decide)) (by rfl) (fun w9 => ?_)
            go_simp
            try rfl
          try simp only [Act.put, List.setIfInBounds_toArray, List.set_cons_zero, List.set_cons_succ]
          refine Ps.step (i := 4) (d := some 47) (u := ?uwqF_56) rfl rfl (by kernel_rfl) (by kernel_rfl) (by kernel_rfl) (by kernel_rfl) ?ywqF_56 ?rwqF_56
          case ywqF_56 =>
            refine StepS.pure (SeqN.pass (by decide)) (by rfl) (fun w9 => ?_)
            go_simp
            try rfl
          try simp only [Act.put, List.setIfInBounds_toArray, List.set_cons_zero, List.set_cons_succ]
          refine Ps.step (i := 5) (d := some 48) (u := ?uwqF_57) rfl rfl (by kernel_rfl) (by kernel_rfl) (by kernel_rfl) (by kernel_rfl) ?ywqF_57 ?rwqF_57
          case ywqF_57 =>
            refine StepS.pure (SeqN.pass (by decide)) (by rfl) (fun w9 => ?_)
            go_simp
            try rfl
          try simp only [Act.put, List.setIfInBounds_toArray, List.set_cons_zero, List.set_cons_succ]
          refine Ps.step (i := 6) (d := some 49) (u := ?uwqF_58) rfl rfl (by kernel_rfl) (by kernel_rfl) (by kernel_rfl) (by kernel_rfl) ?ywqF_58 ?rwqF_58
          case ywqF_58 =>
            refine StepS.pure (SeqN.pass (by decide)) (by rfl) (fun w9 => ?_)
            go_simp
            try rfl
          try simp only [Act.put, List.setIfInBounds_toArray, List.set_cons_zero, List.set_cons_succ]
          refine Ps.step (i := 7) (d := some 50) (u := ?uwqF_59) rfl rfl (by kernel_rfl) (by kernel_rfl) (by kernel_rfl) (by kernel_rfl) ?ywqF_59 ?rwqF_59
          case ywqF_59 =>
            refine StepS.pure (SeqN.pass (by decide)) (by rfl) (fun w9 => ?_)
            go_simp
            try rfl
          try simp only [Act.put, List.setIfInBounds_toArray, List.set_cons_zero, List.set_cons_succ]
          refine Ps.step (i := 8) (d := some 51) (u := ?uwqF_60) rfl rfl (by kernel_rfl) (by kernel_rfl) (by kernel_rfl) (by kernel_rfl) ?ywqF_60 ?rwqF_60
          case ywqF_60 =>
            refine StepS.pure (SeqN.pass (by decide)) (by rfl) (fun w9 => ?_)
            go_simp
            try rfl
          try simp only [Act.put, List.setIfInBounds_toArray, List.set_cons_zero, List.set_cons_succ]
          refine Ps.step (i := 9) (d := some 52) (u := ?uwqF_61) rfl rfl (by kernel_rfl) (by kernel_rfl) (by kernel_rfl) (by kernel_rfl) ?ywqF_61 ?rwqF_61
          case ywqF_61 =>
            refine StepS.pure (SeqN.pass (by decide)) (by rfl) (fun w9 => ?_)
            go_simp
            try rfl
          try simp only [Act.put, List.setIfInBounds_toArray, List.set_cons_zero, List.set_cons_succ]
          refine Ps.step (i := 10) (d := some 53) (u := ?uwqF_62) rfl rfl (by kernel_rfl) (by kernel_rfl) (by kernel_rfl) (by kernel_rfl) ?ywqF_62 ?rwqF_62
          case ywqF_62 =>
            refine StepS.pure (SeqN.pass (by decide)) (by rfl) (fun w9 => ?_)
            go_simp
            try rfl
          try simp only [Act.put, List.setIfInBounds_toArray, List.set_cons_zero, List.set_cons_succ]
          refine Ps.step (i := 11) (d := some 54) (u := ?uwqF_63) rfl rfl (by kernel_rfl) (by kernel_rfl) (by kernel_rfl) (by kernel_rfl) ?ywqF_63 ?rwqF_63
          case ywqF_63 =>
            refine StepS.pure (SeqN.pass (by decide)) (by rfl) (fun w9 => ?_)
            go_simp
            try rfl
          try simp only [Act.put, List.setIfInBounds_toArray, List.set_cons_zero, List.set_cons_succ]
          refine Ps.step (i := 12) (d := some 55) (u := ?uwqF_64) rfl rfl (by kernel_rfl) (by kernel_rfl) (by kernel_rfl) (by kernel_rfl) ?ywqF_64 ?rwqF_64
          case ywqF_64 =>
            refine StepS.pure (SeqN.pass (by decide)) (by rfl) (fun w9 => ?_)
            go_simp
            try rfl
          try simp only [Act.put, List.setIfInBounds_toArray, List.set_cons_zero, List.set_cons_succ]
          refine Ps.step (i := 13) (d := some 56) (u := ?uwqF_65) rfl rfl (by kernel_rfl) (by kernel_rfl) (by kernel_rfl) (by kernel_rfl) ?ywqF_65 ?rwqF_65
          case ywqF_65 =>
            refine StepS.read [] (by kernel_rfl) (SeqN.pass (by decide)) (by rfl) (fun L9 m9 w9 hSh hAt hDn hS => ?_)
            have hT : Below w10.heap.size w10 w9 := SeqN.any (T := fun w9 => Below w10.heap.size w10 w9) (fun j _ _ h => by match j, h with | 0, h => exact h | _ + 1, h => exact h.1) hS
            have k0 : w9.cell? ⟨g6, 0, none⟩ = some (.int .u64 s1) := (H6.out.ca hT).cell 0
            have k1 : w9.cell? ⟨g6, 1, none⟩ = some (.slice A1 m1 c1) := (H6.out.ca hT).cell 1
            clear hT hS
            go_simp
            try rfl
          try simp only [Act.put, List.setIfInBounds_toArray, List.set_cons_zero, List.set_cons_succ]
          refine Ps.step (i := 14) (d := some 57) (u := ?uwqF_66) rfl rfl (by kernel_rfl) (by kernel_rfl) (by kernel_rfl) (by kernel_rfl) ?ywqF_66 ?rwqF_66
          case ywqF_66 =>
            refine StepS.read [] (by kernel_rfl) (SeqN.pass (by decide)) (by rfl) (fun L9 m9 w9 hSh hAt hDn hS => ?_)
            have hT : Below w10.heap.size w10 w9 := SeqN.any (T := fun w9 => Below w10.heap.size w10 w9) (fun j _ _ h => by match j, h with | 0, h => exact h | _ + 1, h => exact h.1) hS
            have k0 : w9.cell? ⟨g7, 0, none⟩ = some (.int .u64 s0) := (H7.out.ca hT).cell 0
            have k1 : w9.cell? ⟨g7, 1, none⟩ = some (.slice A5 m5 c5) := (H7.out.ca hT).cell 1
            clear hT hS
            go_simp
            try rfl
          try simp only [Act.put, List.setIfInBounds_toArray, List.set_cons_zero, List.set_cons_succ]
          refine Ps.step (i := 15) (d := some 58) (u := (.bool bS)) rfl rfl (by kernel_rfl) (by kernel_rfl) (by kernel_rfl) (by kernel_rfl) ?ywqF_67 ?rwqF_67
          case ywqF_67 =>
            refine StepS.call ?fwqF_67 ?awqF_67 [] (by kernel_rfl) (by rfl) (fun w9 => ?hwqF_67) (fun L9 m9 w9 hSh hAt hDn hS => ?cwqF_67)
            case hwqF_67 => go_simp; refine ⟨?_, ?_⟩ <;> rfl
            case cwqF_67 =>
              have hT : Below w10.heap.size w10 w9 := SeqN.any (T := fun w9 => Below w10.heap.size w10 w9) (fun j _ _ h => by match j, h with | 0, h => exact h | _ + 1, h => exact h.1) hS
              refine (nsame_any s1 A1 m1 c1 q1 s0 A5 m5 c5 q0 w9 (Lay.rd_below HQ1.out hT) (Lay.rd_below HQ0.out hT) hm1).mono ?_
              rintro e w8 ⟨rfl, q8⟩
              exact ⟨by rw [HBS.out], SeqN.move (w := w9) (by decide) (fun j m h => by match j, h with | 0, h => exact bl_ca h q8 | _ + 1, ⟨h, A, n, c, e, r⟩ => exact ⟨bl_ca h q8, A, n, c, e, Lay.rd_below r q8⟩) hS⟩
          try simp only [Act.put, List.setIfInBounds_toArray, List.set_cons_zero, List.set_cons_succ]
          refine Ps.step (i := 16) (d := some 59) (u := ?uwqF_68) rfl rfl (by kernel_rfl) (by kernel_rfl) (by kernel_rfl) (by kernel_rfl) ?ywqF_68 ?rwqF_68
          case ywqF_68 =>
            refine StepS.read [] (by kernel_rfl) (SeqN.pass (by decide)) (by rfl) (fun L9 m9 w9 hSh hAt hDn hS => ?_)
            have hT : Below w10.heap.size w10 w9 := SeqN.any (T := fun w9 => Below w10.heap.size w10 w9) (fun j _ _ h => by match j, h with | 0, h => exact h | _ + 1, h => exact h.1) hS
            have k0 : w9.cell? ⟨g6, 0, none⟩ = some (.int .u64 s1) := (H6.out.ca hT).cell 0
            have k1 : w9.cell? ⟨g6, 1, none⟩ = some (.slice A1 m1 c1) := (H6.out.ca hT).cell 1
            clear hT hS
            go_simp
            try rfl
          try simp only [Act.put, List.setIfInBounds_toArray, List.set_cons_zero, List.set_cons_succ]
          refine Ps.step (i := 17) (d := some 60) (u := ?uwqF_69) rfl rfl (by kernel_rfl) (by kernel_rfl) (by kernel_rfl) (by kernel_rfl) ?ywqF_69 ?rwqF_69
          case ywqF_69 =>
            refine StepS.read [] (by kernel_rfl) (SeqN.pass (by decide)) (by rfl) (fun L9 m9 w9 hSh hAt hDn hS => ?_)
            have hT : Below w10.heap.size w10 w9 := SeqN.any (T := fun w9 => Below w10.heap.size w10 w9) (fun j _ _ h => by match j, h with | 0, h => exact h | _ + 1, h => exact h.1) hS
            have k0 : w9.cell? ⟨g7, 0, none⟩ = some (.int .u64 s0) := (H7.out.ca hT).cell 0
            have k1 : w9.cell? ⟨g7, 1, none⟩ = some (.slice A5 m5 c5) := (H7.out.ca hT).cell 1
            clear hT hS
            go_simp
            try rfl
          try simp only [Act.put, List.setIfInBounds_toArray, List.set_cons_zero, List.set_cons_succ]
          refine Ps.step (i := 18) (d := some 61) (u := (.bool bS)) rfl rfl (by kernel_rfl) (by kernel_rfl) (by kernel_rfl) (by kernel_rfl) ?ywqF_70 ?rwqF_70
          case ywqF_70 =>
            refine StepS.call ?fwqF_70 ?awqF_70 [] (by kernel_rfl) (by rfl) (fun w9 => ?hwqF_70) (fun L9 m9 w9 hSh hAt hDn hS => ?cwqF_70)
            case hwqF_70 => go_simp; refine ⟨?_, ?_⟩ <;> rfl
            case cwqF_70 =>
              have hT : Below w10.heap.size w10 w9 := SeqN.any (T := fun w9 => Below w10.heap.size w10 w9) (fun j _ _ h => by match j, h with | 0, h => exact h | _ + 1, h => exact h.1) hS
              refine (rsame_any s1 A1 m1 c1 q1 s0 A5 m5 c5 q0 w9 (Lay.rd_below HQ1.out hT) (Lay.rd_below HQ0.out hT) hm1).mono ?_
              rintro e w8 ⟨rfl, q8⟩
              exact ⟨by rw [HBS.out], SeqN.move (w := w9) (by decide) (fun j m h => by match j, h with | 0, h => exact bl_ca h q8 | _ + 1, ⟨h, A, n, c, e, r⟩ => exact ⟨bl_ca h q8, A, n, c, e, Lay.rd_below r q8⟩) hS⟩
          try simp only [Act.put, List.setIfInBounds_toArray, List.set_cons_zero, List.set_cons_succ]
          refine Ps.step (i := 19) (d := some 62) (u := ?uwqF_71) rfl rfl (by kernel_rfl) (by kernel_rfl) (by kernel_rfl) (by kernel_rfl) ?ywqF_71 ?rwqF_71
          case ywqF_71 =>
            refine StepS.pure (SeqN.pass (by decide)) (by rfl) (fun w9 => ?_)
            go_simp
            try rfl
          try simp only [Act.put, List.setIfInBounds_toArray, List.set_cons_zero, List.set_cons_succ]
          refine Ps.step (i := 20) (d := some 63) (u := ?uwqF_72) rfl rfl (by kernel_rfl) (by kernel_rfl) (by kernel_rfl) (by kernel_rfl) ?ywqF_72 ?rwqF_72
          case ywqF_72 =>
            refine StepS.pure (SeqN.pass (by decide)) (by rfl) (fun w9 => ?_)
            go_simp
            try rfl
          try simp only [Act.put, List.setIfInBounds_toArray, List.set_cons_zero, List.set_cons_succ]
          refine Ps.step (i := 21) (d := some 64) (u := ?uwqF_73) rfl rfl (by kernel_rfl) (by kernel_rfl) (by kernel_rfl) (by kernel_rfl) ?ywqF_73 ?rwqF_73
          case ywqF_73 =>
            refine StepS.pure (SeqN.pass (by decide)) (by rfl) (fun w9 => ?_)
            go_simp
            try rfl
          try simp only [Act.put, List.setIfInBounds_toArray, List.set_cons_zero, List.set_cons_succ]
          refine Ps.step (i := 22) (d := some 65) (u := ?uwqF_74) rfl rfl (by kernel_rfl) (by kernel_rfl) (by kernel_rfl) (by kernel_rfl) ?ywqF_74 ?rwqF_74
          case ywqF_74 =>
            refine StepS.read [] (by kernel_rfl) (SeqN.pass (by decide)) (by rfl) (fun L9 m9 w9 hSh hAt hDn hS => ?_)
            have hT : Below w10.heap.size w10 w9 := SeqN.any (T := fun w9 => Below w10.heap.size w10 w9) (fun j _ _ h => by match j, h with | 0, h => exact h | _ + 1, h => exact h.1) hS
            have k0 : w9.cell? ⟨g6, 0, none⟩ = some (.int .u64 s1) := (H6.out.ca hT).cell 0
            have k1 : w9.cell? ⟨g6, 1, none⟩ = some (.slice A1 m1 c1) := (H6.out.ca hT).cell 1
            clear hT hS
            go_simp
            try rfl
          try simp only [Act.put, List.setIfInBounds_toArray, List.set_cons_zero, List.set_cons_succ]
          refine Ps.step (i := 23) (d := some 66) (u := ?uwqF_75) rfl rfl (by kernel_rfl) (by kernel_rfl) (by kernel_rfl) (by kernel_rfl) ?ywqF_75 ?rwqF_75
          case ywqF_75 =>
            refine StepS.read [] (by kernel_rfl) (SeqN.pass (by decide)) (by rfl) (fun L9 m9 w9 hSh hAt hDn hS => ?_)
            have hT : Below w10.heap.size w10 w9 := SeqN.any (T := fun w9 => Below w10.heap.size w10 w9) (fun j _ _ h => by match j, h with | 0, h => exact h | _ + 1, h => exact h.1) hS
            have k0 : w9.cell? ⟨g8, 0, none⟩ = some (.int .u64 s1) := (H8.out.ca hT).cell 0
            have k1 : w9.cell? ⟨g8, 1, none⟩ = some (.slice xA xn xc) := (H8.out.ca hT).cell 1
            clear hT hS
            go_simp
            try rfl
          try simp only [Act.put, List.setIfInBounds_toArray, List.set_cons_zero, List.set_cons_succ]
          refine Ps.one (k := 24) (d := some 67) rfl rfl (by kernel_rfl) (TurnS.call (V := fun v => ∃ A n c, v = .agg #[.int .u64 s1, .slice A n c]) ?fwqF_76 ?awqF_76 [] (by kernel_rfl) (by rfl) (fun w9 => ?hwqF_76) (fun L9 m9 w9 hSh hAt hDn hS => ?cwqF_76)) (fun v24 hVv24 => ?rwqF_76)
          case hwqF_76 => go_simp; refine ⟨?_, ?_⟩ <;> rfl
          case cwqF_76 =>
            have hT : Below w10.heap.size w10 w9 := SeqN.any (T := fun w9 => Below w10.heap.size w10 w9) (fun j _ _ h => by match j, h with | 0, h => exact h | _ + 1, h => exact h.1) hS
            refine (HSX.out w9 (Lay.rd_below HXR.out hT)).mono ?_
            rintro e w8 ⟨A2, m2, c2, rfl, ho, q8⟩
            exact ⟨_, rfl, ⟨A2, m2, c2, rfl⟩, SeqN.set_ (m0 := m9) (m1 := m9) [] [] hSh (fun d hd => by cases hd) hDn (by kernel_rfl) (by decide) (by decide) ⟨bl_ca hT q8, A2, m2, c2, upd_same _ _ _, ho.rd (fun _ _ => trivial)⟩⟩
          try simp only [Act.put, List.setIfInBounds_toArray, List.set_cons_zero, List.set_cons_succ]
          obtain ⟨A24, n24, c24, rfl⟩ := hVv24
          refine Ps.step (i := 25) (d := some 68) (u := (.bool true)) rfl rfl (by kernel_rfl) (by kernel_rfl) (by kernel_rfl) (by kernel_rfl) ?ywqF_77 ?rwqF_77
          case ywqF_77 =>
            refine StepS.call ?fwqF_77 ?awqF_77 [24] (by kernel_rfl) (by rfl) (fun w9 => ?hwqF_77) (fun L9 m9 w9 hSh hAt hDn hS => ?cwqF_77)
            case hwqF_77 => go_simp; refine ⟨?_, ?_⟩ <;> rfl
            case cwqF_77 =>
              have hT : Below w10.heap.size w10 w9 := SeqN.any (T := fun w9 => Below w10.heap.size w10 w9) (fun j _ _ h => by match j, h with | 0, h => exact h | _ + 1, h => exact h.1) hS
              obtain ⟨_, A, n, c, hm24, hr24⟩ := SeqN.after24 (hAt 24 (by simp)).1 hS
              obtain ⟨rfl, rfl, rfl⟩ : A24 = A ∧ n24 = n ∧ c24 = c := by have h9 : Value.agg #[.int .u64 s1, .slice A24 n24 c24] = .agg #[.int .u64 s1, .slice A n c] := (hAt 24 (by simp)).2.symm.trans hm24; simpa using h9
              refine (nsame_any s1 A1 m1 c1 q1 s1 A24 n24 c24 q1 w9 (Lay.rd_below HQ1.out hT) hr24 hm1).mono ?_
              rintro e w8 ⟨rfl, q8⟩
              exact ⟨by simp, SeqN.move (w := w9) (by decide) (fun j m h => by match j, h with | 0, h => exact bl_ca h q8 | _ + 1, ⟨h, A, n, c, e, r⟩ => exact ⟨bl_ca h q8, A, n, c, e, Lay.rd_below r q8⟩) hS⟩
          try simp only [Act.put, List.setIfInBounds_toArray, List.set_cons_zero, List.set_cons_succ]
          refine Ps.step (i := 26) (d := some 69) (u := ?uwqF_78) rfl rfl (by kernel_rfl) (by kernel_rfl) (by kernel_rfl) (by kernel_rfl) ?ywqF_78 ?rwqF_78
          case ywqF_78 =>
            refine StepS.pure (SeqN.pass (by decide)) (by rfl) (fun w9 => ?_)
            go_simp
            try rfl
          try simp only [Act.put, List.setIfInBounds_toArray, List.set_cons_zero, List.set_cons_succ]
          refine Ps.step (i := 27) (d := some 70) (u := ?uwqF_79) rfl rfl (by kernel_rfl) (by kernel_rfl) (by kernel_rfl) (by kernel_rfl) ?ywqF_79 ?rwqF_79
          case ywqF_79 =>
            refine StepS.pure (SeqN.pass (by decide)) (by rfl) (fun w9 => ?_)
            go_simp
            try rfl
          try simp only [Act.put, List.setIfInBounds_toArray, List.set_cons_zero, List.set_cons_succ]
          refine Ps.done (by kernel_rfl) (fun wqF hS => ?_) _
          have HT10 := Lib.hid (show Below w10.heap.size w10 wqF from SeqN.any (T := fun w9 => Below w10.heap.size w10 w9) (fun j _ _ h => by match j, h with | 0, h => exact h | _ + 1, h => exact h.1) hS)
          clear hS
          obtain ⟨wq, rfl⟩ : ∃ x, x = wqF := ⟨_, rfl⟩
          replace H6 := Lib.hid (H6.out.ca HT10.out)
          replace HQ1 := Lib.hid (Lay.rd_below HQ1.out HT10.out)
          replace HB10 := Lib.hid (bl_ca HB10.out HT10.out)
          clear H7 H8 HQ0 HXR HT10 HSX HBS
          go_wp2_with fail
          obtain ⟨gj, rfl⟩ : ∃ g, g = gk := ⟨_, rfl⟩
          obtain ⟨w60, rfl⟩ : ∃ x, x = wr := ⟨_, rfl⟩
          go_loopg [73] nn (fun gz a wr => ∃ k : Nat, k + gz = nn ∧ a = .int .i64 k ∧ Below wq.heap.size wq wr)
          case atStart => exact ⟨0, by omega, rfl, Below.refl _ _⟩
          case round =>
            obtain ⟨k, hkg, rfl, hbk⟩ := hrel
            have HBK := Lib.hid hbk
            clear hbk
            have y0 : wr.cell? ⟨g6, 0, none⟩ = some (.int .u64 s1) := (H6.out.ca HBK.out).cell 0
            have y1 : wr.cell? ⟨g6, 1, none⟩ = some (.slice A1 m1 c1) := (H6.out.ca HBK.out).cell 1
            by_cases hk : k < nn
            · have hk1 : (k : Int) < (nn : Int) := by omega
              obtain ⟨nd, z, rfl, hz, e0⟩ := LI_at (Lay.rd_below (Lay.rd_below HND.out HB10.out) HBK.out) hk
              clear hz
              have HFW := Lib.hid (fun W (h : LP.rd W AllB A1 m1 q1) => for_any s1 A1 m1 c1 q1 z W h hm1)
              rw [show forL s1 q1 z = [] from by unfold forL; rw [HCK.out]; rfl] at HFW
              by_cases hk10 : k < 10
              · have hk2 : (k : Int) < 10 := by omega
                go_wp2_with fail
                refine (HFW.out wr (Lay.rd_below HQ1.out HBK.out)).mono ?_
                clear HFW y0 y1 e0
                rintro e wh ⟨hA, hk9, hc9, rfl, hh, qh⟩
                have HLN := Lib.hid (rnums_any hA hk9 hc9 [] none 0 0 [] wh hh.rd (Lay.rd_nil none) (own_capU hh))
                rw [show decide ([] = []) = true from by simp] at HLN
                have HQH := Lib.hid qh
                clear hh qh
                go_wp2_with fail
                refine HLN.out.mono ?_
                rintro e wi ⟨rfl, qi⟩
                have HQI := Lib.hid qi
                clear qi HLN
                go_wp2
                go_roundg (gk - 1)
                · exact ⟨k + 1, by omega, by go_num, bl_ca (bl_ca HBK.out HQH.out) HQI.out⟩
                · omega
              · have hk2 : (k : Int) ≥ 10 := by omega
                have hk3 : (10 : Int) ≤ (k : Int) := by omega
                go_wp2
                go_roundg (gk - 1)
                · exact ⟨k + 1, by omega, by go_num, HBK.out⟩
                · omega
            · obtain rfl : k = nn := by omega
              have hk1 : (k : Int) ≤ (k : Int) := by omega
              replace H6 := Lib.hid (H6.out.ca HBK.out)
              replace HQ1 := Lib.hid (Lay.rd_below HQ1.out HBK.out)
              replace HB10 := Lib.hid (bl_ca HB10.out HBK.out)
              clear HBK y0 y1 hk hkg
              go_wp2_with fail
              obtain ⟨w61, rfl⟩ : ∃ x, x = wr := ⟨_, rfl⟩
              go_loopg [95] pn (fun gz a wr => ∃ k : Nat, k + gz = pn ∧ k ≤ 10 ∧ a = .int .i64 k ∧ Below w61.heap.size w61 wr)
              case atStart => exact ⟨0, by omega, by omega, rfl, Below.refl _ _⟩
              case round =>
                obtain ⟨t, htg, ht10, rfl, hbt⟩ := hrel
                have HBT := Lib.hid hbt
                have HBO := Lib.hid (bl_ca HB10.out hbt)
                clear hbt
                have y0 : wr.cell? ⟨g6, 0, none⟩ = some (.int .u64 s1) := (H6.out.ca HBT.out).cell 0
                have y1 : wr.cell? ⟨g6, 1, none⟩ = some (.slice A1 m1 c1) := (H6.out.ca HBT.out).cell 1
                by_cases ht : t < pn
                · have ht1 : (t : Int) < (pn : Int) := by omega
                  obtain ⟨pd, z, rfl, hz, e0⟩ := LI_at (Lay.rd_below HPD.out HBO.out) ht
                  clear hz
                  have HPW := Lib.hid (pick_any s1 A1 m1 c1 q1 z wr (Lay.rd_below HQ1.out HBT.out) hm1)
                  rw [show pickB s1 q1 = false from by unfold pickB; rw [HCK.out]; rfl] at HPW
                  rw [show (if false = true then pickAt q1 z else 0) = 0 from rfl] at HPW
                  go_wp2_with fail
                  · go_roundg (gj - 1)
                    · exact ⟨i + 1, by omega, by omega, by go_num, HBO.out⟩
                    · omega
                  · have ht3 : t < 10 := by
                      have h9 : ((t : Int) == 10) = false := by assumption
                      simp at h9
                      omega
                    refine HPW.out.mono ?_
                    clear HPW e0 y0 y1
                    rintro e wf ⟨rfl, qf⟩
                    have HQF := Lib.hid qf
                    clear qf
                    go_wp2
                    go_roundg (gk - 1)
                    · exact ⟨t + 1, by omega, by omega, by go_num, bl_ca HBT.out HQF.out⟩
                    · omega
                · obtain rfl : t = pn := by omega
                  have ht1 : (t : Int) ≤ (t : Int) := by omega
                  clear y0 y1
                  go_wp2
                  go_roundg (gj - 1)
                  · exact ⟨i + 1, by omega, by omega, by go_num, HBO.out⟩
                  · omega
        · rw [hc] at HRT
          rw [hc, show errN true = 0 from rfl] at HCT
          have HCK := Lib.hid hc
          clear hc
          go_wp2_with fail
          refine HRT.out.mono ?_
          clear HRT
          rintro e w11 ⟨rfl, q11⟩
          have z0 : w11.cell? ⟨g6, 0, none⟩ = some (.int .u64 s1) := (H6.out.ca q11).cell 0
          have z1 : w11.cell? ⟨g6, 1, none⟩ = some (.slice A1 m1 c1) := (H6.out.ca q11).cell 1
          replace HCT := Lib.hid (HCT.out w11 (Lay.rd_below HQ1.out q11))
          have HQ11 := Lib.hid q11
          clear q11 y0 y1
          go_wp2_with fail
          refine HCT.out.mono ?_
          clear HCT z0 z1
          rintro e w12 ⟨rfl, q12⟩
          have q13 := bl_ca HQ11.out q12
          replace H6 := Lib.hid (H6.out.ca q13)
          replace H7 := Lib.hid (H7.out.ca q13)
          replace H8 := Lib.hid (H8.out.ca q13)
          replace HQ1 := Lib.hid (Lay.rd_below HQ1.out q13)
          replace HQ0 := Lib.hid (Lay.rd_below HQ0.out q13)
          replace HXR := Lib.hid (Lay.rd_below HXR.out q13)
          replace HB10 := Lib.hid (bl_ca HB10.out q13)
          replace HND := Lib.hid HN.out
          clear q12 q13 HQ11
          go_wp2_with fail
          obtain ⟨w10, rfl⟩ : ∃ x, x = w12 := ⟨_, rfl⟩
          refine wp_region_ps (S := SeqN [24] (fun j m w' => match j with | 0 => Below w10.heap.size w10 w' | _ => Below w10.heap.size w10 w' ∧ ∃ A n c, m 24 = .agg #[.int .u64 s1, .slice A n c] ∧ LP.rd w' AllB A n q1)) (by kernel_rfl) ?spswqT ?ppswqT
          case spswqT =>
            exact SeqN.start (by rfl) (Below.refl _ _).drew
          refine Ps.step (i := 0) (d := some 43) (u := ?uwqT_80) rfl rfl (by kernel_rfl) (by kernel_rfl) (by kernel_rfl) (by kernel_rfl) ?ywqT_80 ?rwqT_80
          case ywqT_80 =>
            refine StepS.pure (SeqN.pass (by decide)) (by rfl) (fun w9 => ?_)
            go_simp
            try rfl
          try simp only [Act.put, List.setIfInBounds_toArray, List.set_cons_zero, List.set_cons_succ]
          refine Ps.step (i := 1) (d := some 44) (u := ?uwqT_81) rfl rfl (by kernel_rfl) (by kernel_rfl) (by kernel_rfl) (by kernel_rfl) ?ywqT_81 ?rwqT_81
          case ywqT_81 =>
            refine StepS.pure (SeqN.pass (by decide)) (by rfl) (fun w9 => ?_)
            go_simp
            try rfl
          try simp only [Act.put, List.setIfInBounds_toArray, List.set_cons_zero, List.set_cons_succ]
          refine Ps.step (i := 2) (d := some 45) (u := ?uwqT_82) rfl rfl (by kernel_rfl) (by kernel_rfl) (by kernel_rfl) (by kernel_rfl) ?ywqT_82 ?rwqT_82
          case ywqT_82 =>
            refine StepS.pure (SeqN.pass (by decide)) (by rfl) (fun w9 => ?_)
            go_simp
            try rfl
          try simp only [Act.put, List.setIfInBounds_toArray, List.set_cons_zero, List.set_cons_succ]
          refine Ps.step (i := 3) (d := some 46) (u := ?uwqT_83) rfl rfl (by kernel_rfl) (by kernel_rfl) (by kernel_rfl) (by kernel_rfl) ?ywqT_83 ?rwqT_83
          case ywqT_83 =>
            refine StepS.pure (SeqN.pass (by decide)) (by rfl) (fun w9 => ?_)
            go_simp
            try rfl
          try simp only [Act.put, List.setIfInBounds_toArray, List.set_cons_zero, List.set_cons_succ]
          refine Ps.step (i := 4) (d := some 47) (u := ?uwqT_84) rfl rfl (by kernel_rfl) (by kernel_rfl) (by kernel_rfl) (by kernel_rfl) ?ywqT_84 ?rwqT_84
          case ywqT_84 =>
            refine StepS.pure (SeqN.pass (by decide)) (by rfl) (fun w9 => ?_)
            go_simp
            try rfl
          try simp only [Act.put, List.setIfInBounds_toArray, List.set_cons_zero, List.set_cons_succ]
          refine Ps.step (i := 5) (d := some 48) (u := ?uwqT_85) rfl rfl (by kernel_rfl) (by kernel_rfl) (by kernel_rfl) (by kernel_rfl) ?ywqT_85 ?rwqT_85
          case ywqT_85 =>
            refine StepS.pure (SeqN.pass (by decide)) (by rfl) (fun w9 => ?_)
            go_simp
            try rfl
          try simp only [Act.put, List.setIfInBounds_toArray, List.set_cons_zero, List.set_cons_succ]
          refine Ps.step (i := 6) (d := some 49) (u := ?uwqT_86) rfl rfl (by kernel_rfl) (by kernel_rfl) (by kernel_rfl) (by kernel_rfl) ?ywqT_86 ?rwqT_86
          case ywqT_86 =>
            refine StepS.pure (SeqN.pass (by decide)) (by rfl) (fun w9 => ?_)
            go_simp
            try rfl
          try simp only [Act.put, List.setIfInBounds_toArray, List.set_cons_zero, List.set_cons_succ]
          refine Ps.step (i := 7) (d := some 50) (u := ?uwqT_87) rfl rfl (by kernel_rfl) (by kernel_rfl) (by kernel_rfl) (by kernel_rfl) ?ywqT_87 ?rwqT_87
          case ywqT_87 =>
            refine StepS.pure (SeqN.pass (by decide)) (by rfl) (fun w9 => ?_)
            go_simp
            try rfl
          try simp only [Act.put, List.setIfInBounds_toArray, List.set_cons_zero, List.set_cons_succ]
          refine Ps.step (i := 8) (d := some 51) (u := undef) rfl rfl (by kernel_rfl) (by kernel_rfl) (by kernel_rfl) (by kernel_rfl) ?ywqT_88 ?rwqT_88
          case ywqT_88 =>
            exact StepS.skip (SeqN.pass (by decide)) (by rfl)
          try simp only [Act.put, List.setIfInBounds_toArray, List.set_cons_zero, List.set_cons_succ]
          refine Ps.step (i := 9) (d := some 52) (u := undef) rfl rfl (by kernel_rfl) (by kernel_rfl) (by kernel_rfl) (by kernel_rfl) ?ywqT_89 ?rwqT_89
          case ywqT_89 =>
            exact StepS.skip (SeqN.pass (by decide)) (by rfl)
          try simp only [Act.put, List.setIfInBounds_toArray, List.set_cons_zero, List.set_cons_succ]
          refine Ps.step (i := 10) (d := some 53) (u := ?uwqT_90) rfl rfl (by kernel_rfl) (by kernel_rfl) (by kernel_rfl) (by kernel_rfl) ?ywqT_90 ?rwqT_90
          case ywqT_90 =>
            refine StepS.pure (SeqN.pass (by decide)) (by rfl) (fun w9 => ?_)
            go_simp
            try rfl
          try simp only [Act.put, List.setIfInBounds_toArray, List.set_cons_zero, List.set_cons_succ]
          refine Ps.step (i := 11) (d := some 54) (u := ?uwqT_91) rfl rfl (by kernel_rfl) (by kernel_rfl) (by kernel_rfl) (by kernel_rfl) ?ywqT_91 ?rwqT_91
          case ywqT_91 =>
            refine StepS.pure (SeqN.pass (by decide)) (by rfl) (fun w9 => ?_)
            go_simp
            try rfl
          try simp only [Act.put, List.setIfInBounds_toArray, List.set_cons_zero, List.set_cons_succ]
          refine Ps.step (i := 12) (d := some 55) (u := ?uwqT_92) rfl rfl (by kernel_rfl) (by kernel_rfl) (by kernel_rfl) (by kernel_rfl) ?ywqT_92 ?rwqT_92
          case ywqT_92 =>
            refine StepS.pure (SeqN.pass (by decide)) (by rfl) (fun w9 => ?_)
            go_simp
            try rfl
          try simp only [Act.put, List.setIfInBounds_toArray, List.set_cons_zero, List.set_cons_succ]
          refine Ps.step (i := 13) (d := some 56) (u := ?uwqT_93) rfl rfl (by kernel_rfl) (by kernel_rfl) (by kernel_rfl) (by kernel_rfl) ?ywqT_93 ?rwqT_93
          case ywqT_93 =>
            refine StepS.read [] (by kernel_rfl) (SeqN.pass (by decide)) (by rfl) (fun L9 m9 w9 hSh hAt hDn hS => ?_)
            have hT : Below w10.heap.size w10 w9 := SeqN.any (T := fun w9 => Below w10.heap.size w10 w9) (fun j _ _ h => by match j, h with | 0, h => exact h | _ + 1, h => exact h.1) hS
            have k0 : w9.cell? ⟨g6, 0, none⟩ = some (.int .u64 s1) := (H6.out.ca hT).cell 0
            have k1 : w9.cell? ⟨g6, 1, none⟩ = some (.slice A1 m1 c1) := (H6.out.ca hT).cell 1
            clear hT hS
            go_simp
            try rfl
          try simp only [Act.put, List.setIfInBounds_toArray, List.set_cons_zero, List.set_cons_succ]
          refine Ps.step (i := 14) (d := some 57) (u := ?uwqT_94) rfl rfl (by kernel_rfl) (by kernel_rfl) (by kernel_rfl) (by kernel_rfl) ?ywqT_94 ?rwqT_94
          case ywqT_94 =>
            refine StepS.read [] (by kernel_rfl) (SeqN.pass (by decide)) (by rfl) (fun L9 m9 w9 hSh hAt hDn hS => ?_)
            have hT : Below w10.heap.size w10 w9 := SeqN.any (T := fun w9 => Below w10.heap.size w10 w9) (fun j _ _ h => by match j, h with | 0, h => exact h | _ + 1, h => exact h.1) hS
            have k0 : w9.cell? ⟨g7, 0, none⟩ = some (.int .u64 s0) := (H7.out.ca hT).cell 0
            have k1 : w9.cell? ⟨g7, 1, none⟩ = some (.slice A5 m5 c5) := (H7.out.ca hT).cell 1
            clear hT hS
            go_simp
            try rfl
          try simp only [Act.put, List.setIfInBounds_toArray, List.set_cons_zero, List.set_cons_succ]
          refine Ps.step (i := 15) (d := some 58) (u := (.bool bS)) rfl rfl (by kernel_rfl) (by kernel_rfl) (by kernel_rfl) (by kernel_rfl) ?ywqT_95 ?rwqT_95
          case ywqT_95 =>
            refine StepS.call ?fwqT_95 ?awqT_95 [] (by kernel_rfl) (by rfl) (fun w9 => ?hwqT_95) (fun L9 m9 w9 hSh hAt hDn hS => ?cwqT_95)
            case hwqT_95 => go_simp; refine ⟨?_, ?_⟩ <;> rfl
            case cwqT_95 =>
              have hT : Below w10.heap.size w10 w9 := SeqN.any (T := fun w9 => Below w10.heap.size w10 w9) (fun j _ _ h => by match j, h with | 0, h => exact h | _ + 1, h => exact h.1) hS
              refine (nsame_any s1 A1 m1 c1 q1 s0 A5 m5 c5 q0 w9 (Lay.rd_below HQ1.out hT) (Lay.rd_below HQ0.out hT) hm1).mono ?_
              rintro e w8 ⟨rfl, q8⟩
              exact ⟨by rw [HBS.out], SeqN.move (w := w9) (by decide) (fun j m h => by match j, h with | 0, h => exact bl_ca h q8 | _ + 1, ⟨h, A, n, c, e, r⟩ => exact ⟨bl_ca h q8, A, n, c, e, Lay.rd_below r q8⟩) hS⟩
          try simp only [Act.put, List.setIfInBounds_toArray, List.set_cons_zero, List.set_cons_succ]
          refine Ps.step (i := 16) (d := some 59) (u := ?uwqT_96) rfl rfl (by kernel_rfl) (by kernel_rfl) (by kernel_rfl) (by kernel_rfl) ?ywqT_96 ?rwqT_96
          case ywqT_96 =>
            refine StepS.read [] (by kernel_rfl) (SeqN.pass (by decide)) (by rfl) (fun L9 m9 w9 hSh hAt hDn hS => ?_)
            have hT : Below w10.heap.size w10 w9 := SeqN.any (T := fun w9 => Below w10.heap.size w10 w9) (fun j _ _ h => by match j, h with | 0, h => exact h | _ + 1, h => exact h.1) hS
            have k0 : w9.cell? ⟨g6, 0, none⟩ = some (.int .u64 s1) := (H6.out.ca hT).cell 0
            have k1 : w9.cell? ⟨g6, 1, none⟩ = some (.slice A1 m1 c1) := (H6.out.ca hT).cell 1
            clear hT hS
            go_simp
            try rfl
          try simp only [Act.put, List.setIfInBounds_toArray, List.set_cons_zero, List.set_cons_succ]
          refine Ps.step (i := 17) (d := some 60) (u := ?uwqT_97) rfl rfl (by kernel_rfl) (by kernel_rfl) (by kernel_rfl) (by kernel_rfl) ?ywqT_97 ?rwqT_97
          case ywqT_97 =>
            refine StepS.read [] (by kernel_rfl) (SeqN.pass (by decide)) (by rfl) (fun L9 m9 w9 hSh hAt hDn hS => ?_)
            have hT : Below w10.heap.size w10 w9 := SeqN.any (T := fun w9 => Below w10.heap.size w10 w9) (fun j _ _ h => by match j, h with | 0, h => exact h | _ + 1, h => exact h.1) hS
            have k0 : w9.cell? ⟨g7, 0, none⟩ = some (.int .u64 s0) := (H7.out.ca hT).cell 0
            have k1 : w9.cell? ⟨g7, 1, none⟩ = some (.slice A5 m5 c5) := (H7.out.ca hT).cell 1
            clear hT hS
            go_simp
            try rfl
          try simp only [Act.put, List.setIfInBounds_toArray, List.set_cons_zero, List.set_cons_succ]
          refine Ps.step (i := 18) (d := some 61) (u := (.bool bS)) rfl rfl (by kernel_rfl) (by kernel_rfl) (by kernel_rfl) (by kernel_rfl) ?ywqT_98 ?rwqT_98
          case ywqT_98 =>
            refine StepS.call ?fwqT_98 ?awqT_98 [] (by kernel_rfl) (by rfl) (fun w9 => ?hwqT_98) (fun L9 m9 w9 hSh hAt hDn hS => ?cwqT_98)
            case hwqT_98 => go_simp; refine ⟨?_, ?_⟩ <;> rfl
            case cwqT_98 =>
              have hT : Below w10.heap.size w10 w9 := SeqN.any (T := fun w9 => Below w10.heap.size w10 w9) (fun j _ _ h => by match j, h with | 0, h => exact h | _ + 1, h => exact h.1) hS
              refine (rsame_any s1 A1 m1 c1 q1 s0 A5 m5 c5 q0 w9 (Lay.rd_below HQ1.out hT) (Lay.rd_below HQ0.out hT) hm1).mono ?_
              rintro e w8 ⟨rfl, q8⟩
              exact ⟨by rw [HBS.out], SeqN.move (w := w9) (by decide) (fun j m h => by match j, h with | 0, h => exact bl_ca h q8 | _ + 1, ⟨h, A, n, c, e, r⟩ => exact ⟨bl_ca h q8, A, n, c, e, Lay.rd_below r q8⟩) hS⟩
          try simp only [Act.put, List.setIfInBounds_toArray, List.set_cons_zero, List.set_cons_succ]
          refine Ps.step (i := 19) (d := some 62) (u := ?uwqT_99) rfl rfl (by kernel_rfl) (by kernel_rfl) (by kernel_rfl) (by kernel_rfl) ?ywqT_99 ?rwqT_99
          case ywqT_99 =>
            refine StepS.pure (SeqN.pass (by decide)) (by rfl) (fun w9 => ?_)
            go_simp
            try rfl
          try simp only [Act.put, List.setIfInBounds_toArray, List.set_cons_zero, List.set_cons_succ]
          refine Ps.step (i := 20) (d := some 63) (u := ?uwqT_100) rfl rfl (by kernel_rfl) (by kernel_rfl) (by kernel_rfl) (by kernel_rfl) ?ywqT_100 ?rwqT_100
          case ywqT_100 =>
            refine StepS.pure (SeqN.pass (by decide)) (by rfl) (fun w9 => ?_)
            go_simp
            try rfl
          try simp only [Act.put, List.setIfInBounds_toArray, List.set_cons_zero, List.set_cons_succ]
          refine Ps.step (i := 21) (d := some 64) (u := ?uwqT_101) rfl rfl (by kernel_rfl) (by kernel_rfl) (by kernel_rfl) (by kernel_rfl) ?ywqT_101 ?rwqT_101
          case ywqT_101 =>
            refine StepS.pure (SeqN.pass (by decide)) (by rfl) (fun w9 => ?_)
            go_simp
            try rfl
          try simp only [Act.put, List.setIfInBounds_toArray, List.set_cons_zero, List.set_cons_succ]
          refine Ps.step (i := 22) (d := some 65) (u := ?uwqT_102) rfl rfl (by kernel_rfl) (by kernel_rfl) (by kernel_rfl) (by kernel_rfl) ?ywqT_102 ?rwqT_102
          case ywqT_102 =>
            refine StepS.read [] (by kernel_rfl) (SeqN.pass (by decide)) (by rfl) (fun L9 m9 w9 hSh hAt hDn hS => ?_)
            have hT : Below w10.heap.size w10 w9 := SeqN.any (T := fun w9 => Below w10.heap.size w10 w9) (fun j _ _ h => by match j, h with | 0, h => exact h | _ + 1, h => exact h.1) hS
            have k0 : w9.cell? ⟨g6, 0, none⟩ = some (.int .u64 s1) := (H6.out.ca hT).cell 0
            have k1 : w9.cell? ⟨g6, 1, none⟩ = some (.slice A1 m1 c1) := (H6.out.ca hT).cell 1
            clear hT hS
            go_simp
            try rfl
          try simp only [Act.put, List.setIfInBounds_toArray, List.set_cons_zero, List.set_cons_succ]
          refine Ps.step (i := 23) (d := some 66) (u := ?uwqT_103) rfl rfl (by kernel_rfl) (by kernel_rfl) (by kernel_rfl) (by kernel_rfl) ?ywqT_103 ?rwqT_103
          case ywqT_103 =>
            refine StepS.read [] (by kernel_rfl) (SeqN.pass (by decide)) (by rfl) (fun L9 m9 w9 hSh hAt hDn hS => ?_)
            have hT : Below w10.heap.size w10 w9 := SeqN.any (T := fun w9 => Below w10.heap.size w10 w9) (fun j _ _ h => by match j, h with | 0, h => exact h | _ + 1, h => exact h.1) hS
            have k0 : w9.cell? ⟨g8, 0, none⟩ = some (.int .u64 s1) := (H8.out.ca hT).cell 0
            have k1 : w9.cell? ⟨g8, 1, none⟩ = some (.slice xA xn xc) := (H8.out.ca hT).cell 1
            clear hT hS
            go_simp
            try rfl
          try simp only [Act.put, List.setIfInBounds_toArray, List.set_cons_zero, List.set_cons_succ]
          refine Ps.one (k := 24) (d := some 67) rfl rfl (by kernel_rfl) (TurnS.call (V := fun v => ∃ A n c, v = .agg #[.int .u64 s1, .slice A n c]) ?fwqT_104 ?awqT_104 [] (by kernel_rfl) (by rfl) (fun w9 => ?hwqT_104) (fun L9 m9 w9 hSh hAt hDn hS => ?cwqT_104)) (fun v24 hVv24 => ?rwqT_104)
          case hwqT_104 => go_simp; refine ⟨?_, ?_⟩ <;> rfl
          case cwqT_104 =>
            have hT : Below w10.heap.size w10 w9 := SeqN.any (T := fun w9 => Below w10.heap.size w10 w9) (fun j _ _ h => by match j, h with | 0, h => exact h | _ + 1, h => exact h.1) hS
            refine (HSX.out w9 (Lay.rd_below HXR.out hT)).mono ?_
            rintro e w8 ⟨A2, m2, c2, rfl, ho, q8⟩
            exact ⟨_, rfl, ⟨A2, m2, c2, rfl⟩, SeqN.set_ (m0 := m9) (m1 := m9) [] [] hSh (fun d hd => by cases hd) hDn (by kernel_rfl) (by decide) (by decide) ⟨bl_ca hT q8, A2, m2, c2, upd_same _ _ _, ho.rd (fun _ _ => trivial)⟩⟩
          try simp only [Act.put, List.setIfInBounds_toArray, List.set_cons_zero, List.set_cons_succ]
          obtain ⟨A24, n24, c24, rfl⟩ := hVv24
          refine Ps.step (i := 25) (d := some 68) (u := (.bool true)) rfl rfl (by kernel_rfl) (by kernel_rfl) (by kernel_rfl) (by kernel_rfl) ?ywqT_105 ?rwqT_105
          case ywqT_105 =>
            refine StepS.call ?fwqT_105 ?awqT_105 [24] (by kernel_rfl) (by rfl) (fun w9 => ?hwqT_105) (fun L9 m9 w9 hSh hAt hDn hS => ?cwqT_105)
            case hwqT_105 => go_simp; refine ⟨?_, ?_⟩ <;> rfl
            case cwqT_105 =>
              have hT : Below w10.heap.size w10 w9 := SeqN.any (T := fun w9 => Below w10.heap.size w10 w9) (fun j _ _ h => by match j, h with | 0, h => exact h | _ + 1, h => exact h.1) hS
              obtain ⟨_, A, n, c, hm24, hr24⟩ := SeqN.after24 (hAt 24 (by simp)).1 hS
              obtain ⟨rfl, rfl, rfl⟩ : A24 = A ∧ n24 = n ∧ c24 = c := by have h9 : Value.agg #[.int .u64 s1, .slice A24 n24 c24] = .agg #[.int .u64 s1, .slice A n c] := (hAt 24 (by simp)).2.symm.trans hm24; simpa using h9
              refine (nsame_any s1 A1 m1 c1 q1 s1 A24 n24 c24 q1 w9 (Lay.rd_below HQ1.out hT) hr24 hm1).mono ?_
              rintro e w8 ⟨rfl, q8⟩
              exact ⟨by simp, SeqN.move (w := w9) (by decide) (fun j m h => by match j, h with | 0, h => exact bl_ca h q8 | _ + 1, ⟨h, A, n, c, e, r⟩ => exact ⟨bl_ca h q8, A, n, c, e, Lay.rd_below r q8⟩) hS⟩
          try simp only [Act.put, List.setIfInBounds_toArray, List.set_cons_zero, List.set_cons_succ]
          refine Ps.step (i := 26) (d := some 69) (u := ?uwqT_106) rfl rfl (by kernel_rfl) (by kernel_rfl) (by kernel_rfl) (by kernel_rfl) ?ywqT_106 ?rwqT_106
          case ywqT_106 =>
            refine StepS.pure (SeqN.pass (by decide)) (by rfl) (fun w9 => ?_)
            go_simp
            try rfl
          try simp only [Act.put, List.setIfInBounds_toArray, List.set_cons_zero, List.set_cons_succ]
          refine Ps.step (i := 27) (d := some 70) (u := ?uwqT_107) rfl rfl (by kernel_rfl) (by kernel_rfl) (by kernel_rfl) (by kernel_rfl) ?ywqT_107 ?rwqT_107
          case ywqT_107 =>
            refine StepS.pure (SeqN.pass (by decide)) (by rfl) (fun w9 => ?_)
            go_simp
            try rfl
          try simp only [Act.put, List.setIfInBounds_toArray, List.set_cons_zero, List.set_cons_succ]
          refine Ps.done (by kernel_rfl) (fun wqT hS => ?_) _
          have HT10 := Lib.hid (show Below w10.heap.size w10 wqT from SeqN.any (T := fun w9 => Below w10.heap.size w10 w9) (fun j _ _ h => by match j, h with | 0, h => exact h | _ + 1, h => exact h.1) hS)
          clear hS
          obtain ⟨wq, rfl⟩ : ∃ x, x = wqT := ⟨_, rfl⟩
          replace H6 := Lib.hid (H6.out.ca HT10.out)
          replace HQ1 := Lib.hid (Lay.rd_below HQ1.out HT10.out)
          replace HB10 := Lib.hid (bl_ca HB10.out HT10.out)
          clear H7 H8 HQ0 HXR HT10 HSX HBS
          go_wp2_with fail
          obtain ⟨gj, rfl⟩ : ∃ g, g = gk := ⟨_, rfl⟩
          obtain ⟨w60, rfl⟩ : ∃ x, x = wr := ⟨_, rfl⟩
          go_loopg [73] nn (fun gz a wr => ∃ k : Nat, k + gz = nn ∧ a = .int .i64 k ∧ Below wq.heap.size wq wr)
          case atStart => exact ⟨0, by omega, rfl, Below.refl _ _⟩
          case round =>
            obtain ⟨k, hkg, rfl, hbk⟩ := hrel
            have HBK := Lib.hid hbk
            clear hbk
            have y0 : wr.cell? ⟨g6, 0, none⟩ = some (.int .u64 s1) := (H6.out.ca HBK.out).cell 0
            have y1 : wr.cell? ⟨g6, 1, none⟩ = some (.slice A1 m1 c1) := (H6.out.ca HBK.out).cell 1
            by_cases hk : k < nn
            · have hk1 : (k : Int) < (nn : Int) := by omega
              obtain ⟨nd, z, rfl, hz, e0⟩ := LI_at (Lay.rd_below (Lay.rd_below HND.out HB10.out) HBK.out) hk
              clear hz
              have HFW := Lib.hid (fun W (h : LP.rd W AllB A1 m1 q1) => for_any s1 A1 m1 c1 q1 z W h hm1)
              rw [show forL s1 q1 z = takenP (fun q => q.to == z) q1 from by unfold forL; rw [HCK.out]; rfl] at HFW
              have HRW := Lib.hid (rfor_any s1 A1 m1 c1 q1 z wr (Lay.rd_below HQ1.out HBK.out) (by omega))
              generalize takenP (fun q => q.to == z) q1 = l at *
              by_cases hk10 : k < 10
              · have hk2 : (k : Int) < 10 := by omega
                go_wp2_with fail
                refine HRW.out.mono ?_
                clear HRW e0 y0 y1
                rintro e wf ⟨fA, fk, fc, rfl, hf, qf⟩
                have HF := Lib.hid hf
                have HQF := Lib.hid qf
                clear hf qf
                have y0 : wf.cell? ⟨g6, 0, none⟩ = some (.int .u64 s1) := ((H6.out.ca HBK.out).ca HQF.out).cell 0
                have y1 : wf.cell? ⟨g6, 1, none⟩ = some (.slice A1 m1 c1) := ((H6.out.ca HBK.out).ca HQF.out).cell 1
                go_wp2_with fail
                refine (HFW.out wf (Lay.rd_below (Lay.rd_below HQ1.out HBK.out) HQF.out)).mono ?_
                clear HFW y0 y1
                rintro e wh ⟨hA, hk9, hc9, rfl, hh, qh⟩
                have HLN := Lib.hid (rnums_any hA hk9 hc9 l fA fk fc l wh hh.rd (Lay.rd_below HF.out.rd qh) (own_capU hh))
                rw [show decide (l = l) = true from by simp] at HLN
                have HQH := Lib.hid qh
                clear hh qh
                go_wp2_with fail
                refine HLN.out.mono ?_
                rintro e wi ⟨rfl, qi⟩
                have HQI := Lib.hid qi
                clear qi HLN
                go_wp2
                go_roundg (gk - 1)
                · exact ⟨k + 1, by omega, by go_num, bl_ca (bl_ca (bl_ca HBK.out HQF.out) HQH.out) HQI.out⟩
                · omega
              · have hk2 : (k : Int) ≥ 10 := by omega
                have hk3 : (10 : Int) ≤ (k : Int) := by omega
                go_wp2_with fail
                refine HRW.out.mono ?_
                clear HRW e0 y0 y1
                rintro e wf ⟨fA, fk, fc, rfl, hf, qf⟩
                have HF := Lib.hid hf
                have HQF := Lib.hid qf
                clear hf qf
                go_wp2
                go_roundg (gk - 1)
                · exact ⟨k + 1, by omega, by go_num, bl_ca HBK.out HQF.out⟩
                · omega
            · obtain rfl : k = nn := by omega
              have hk1 : (k : Int) ≤ (k : Int) := by omega
              replace H6 := Lib.hid (H6.out.ca HBK.out)
              replace HQ1 := Lib.hid (Lay.rd_below HQ1.out HBK.out)
              replace HB10 := Lib.hid (bl_ca HB10.out HBK.out)
              clear HBK y0 y1 hk hkg
              go_wp2_with fail
              obtain ⟨w61, rfl⟩ : ∃ x, x = wr := ⟨_, rfl⟩
              go_loopg [95] pn (fun gz a wr => ∃ k : Nat, k + gz = pn ∧ k ≤ 10 ∧ a = .int .i64 k ∧ Below w61.heap.size w61 wr)
              case atStart => exact ⟨0, by omega, by omega, rfl, Below.refl _ _⟩
              case round =>
                obtain ⟨t, htg, ht10, rfl, hbt⟩ := hrel
                have HBT := Lib.hid hbt
                have HBO := Lib.hid (bl_ca HB10.out hbt)
                clear hbt
                have y0 : wr.cell? ⟨g6, 0, none⟩ = some (.int .u64 s1) := (H6.out.ca HBT.out).cell 0
                have y1 : wr.cell? ⟨g6, 1, none⟩ = some (.slice A1 m1 c1) := (H6.out.ca HBT.out).cell 1
                by_cases ht : t < pn
                · have ht1 : (t : Int) < (pn : Int) := by omega
                  obtain ⟨pd, z, rfl, hz, e0⟩ := LI_at (Lay.rd_below HPD.out HBO.out) ht
                  clear hz
                  have HPW := Lib.hid (pick_any s1 A1 m1 c1 q1 z wr (Lay.rd_below HQ1.out HBT.out) hm1)
                  rw [show pickB s1 q1 = decide (0 < q1.length) from by unfold pickB; rw [HCK.out]; rfl] at HPW
                  have HRP := Lib.hid (fun W (h : LP.rd W AllB A1 m1 q1) => rpick_any s1 A1 m1 c1 q1 z W h hm1)
                  generalize (if decide (0 < q1.length) = true then pickAt q1 z else 0) = u at *
                  generalize decide (0 < q1.length) = bP at *
                  go_wp2_with fail
                  · go_roundg (gj - 1)
                    · exact ⟨i + 1, by omega, by omega, by go_num, HBO.out⟩
                    · omega
                  · have ht3 : t < 10 := by
                      have h9 : ((t : Int) == 10) = false := by assumption
                      simp at h9
                      omega
                    refine HPW.out.mono ?_
                    clear HPW e0 y0 y1
                    rintro e wf ⟨rfl, qf⟩
                    have HQF := Lib.hid qf
                    clear qf
                    have y0 : wf.cell? ⟨g6, 0, none⟩ = some (.int .u64 s1) := ((H6.out.ca HBT.out).ca HQF.out).cell 0
                    have y1 : wf.cell? ⟨g6, 1, none⟩ = some (.slice A1 m1 c1) := ((H6.out.ca HBT.out).ca HQF.out).cell 1
                    go_wp2_with fail
                    refine (HRP.out wf (Lay.rd_below (Lay.rd_below HQ1.out HBT.out) HQF.out)).mono ?_
                    clear HRP y0 y1
                    rintro e wg ⟨rfl, qg⟩
                    have HQG := Lib.hid qg
                    clear qg
                    go_wp2
                    go_roundg (gk - 1)
                    · exact ⟨t + 1, by omega, by omega, by go_num, bl_ca (bl_ca HBT.out HQF.out) HQG.out⟩
                    · omega
                · obtain rfl : t = pn := by omega
                  have ht1 : (t : Int) ≤ (t : Int) := by omega
                  clear y0 y1
                  go_wp2
                  go_roundg (gj - 1)
                  · exact ⟨i + 1, by omega, by omega, by go_num, HBO.out⟩
                  · omega
    · obtain rfl : i = ln := by omega
      have hi1 : (i : Int) ≤ (i : Int) := by omega
      clear hbw
      go_wp2
      go_ret
      exact ⟨rfl, HBW.out⟩
end Go.Proofs.Ytnbcffnhgijmcaa
