/- link.CheckSender. Conditions: the queue reads as these batches. -/
import Derived.Test.YtojghgbaiiajfaaPkO4
import Derived.Deep.DeepCutAuto
namespace Go.Proofs.Ytojghgbaiiajfaa
open Go.RowKit
def sendA (s : SC) : Bool := sesB s.ses && decide (1 ≤ s.base) && decide (s.base ≤ 1099511627776) && decide ((s.q.length : Int) ≤ 8) && inRowB s.q s.base
def sendM (s : SC) : Bool := (s.ended || !endsB s.q) && decide (s.base - 1 ≤ s.sent) && decide (s.sent ≤ s.base - 1 + (s.q.length : Int)) && decide (s.sent ≤ s.lim) && decide (s.lim ≤ 1099511627776)
def sendT (s : SC) : Bool := decide (0 ≤ s.timer) && decide (s.timer < 3) && (decide (s.timer ≤ 0) || decide (s.base ≤ s.sent))
def sendB (s : SC) : Bool := sendA s && sendM s && sendT s
theorem u64_in {x : Int} (h0 : 0 ≤ x) (h1 : x ≤ 9223372036854775807) : IntKind.u64.wrap x = x := by simp [IntKind.wrap, IntKind.signed, IntKind.bits]; omega
set_option maxRecDepth 100000 in
set_option maxHeartbeats 16000000 in
theorem csend_any (F : Nat → Prop) (s : SC) (A : Option Addr) (n c : Nat) (w : World) (h : LB3.rd w F A n s.q) (hn : n ≤ 9223372036854775807) (h0 : 0 ≤ s.base) :
    Calls Try.prog 20 #[.agg (s.cells A n c)] w fun e w' => e = .returned (.int .i64 (if sendB s then 0 else 320)) ∧ Below w.heap.size w w' := by
  have HL := Lib.hid (Lay.rd_len h)
  obtain ⟨r, hr⟩ : ∃ r : Int, r = if sendB s then 0 else 320 := ⟨_, rfl⟩
  rw [← hr]
  have HRR := Lib.hid hr
  clear hr
  obtain ⟨ses, base, q, sent, lim, timer, ended⟩ := s
  dsimp only at h HL h0
  have b1 := bl_al (Below.refl w.heap.size w) (.cells #[.int .u32 ses, .int .u64 base, .slice A n c, .int .u64 sent, .int .u64 lim, .int .i64 timer, .bool ended] 29)
  have HB := Lib.hid (Blk.new w 29 #[.int .u32 ses, .int .u64 base, .slice A n c, .int .u64 sent, .int .u64 lim, .int .i64 timer, .bool ended])
  have HR := Lib.hid (Lay.rd_below h b1)
  have HBB := Lib.hid b1
  obtain ⟨zB, hzB⟩ : ∃ zB, zB = sesB ses := ⟨_, rfl⟩
  have HZ := Lib.hid hzB
  have HSS := Lib.hid (fun W => session_any ses W)
  rw [← hzB] at HSS
  clear h b1 hzB
  have x0 : (w.alloc (.cells #[.int .u32 ses, .int .u64 base, .slice A n c, .int .u64 sent, .int .u64 lim, .int .i64 timer, .bool ended] 29)).cell? ⟨w.heap.size, 0, none⟩ = some (.int .u32 ses) := HB.out.cell 0
  have x1 : (w.alloc (.cells #[.int .u32 ses, .int .u64 base, .slice A n c, .int .u64 sent, .int .u64 lim, .int .i64 timer, .bool ended] 29)).cell? ⟨w.heap.size, 1, none⟩ = some (.int .u64 base) := HB.out.cell 1
  have x2 : (w.alloc (.cells #[.int .u32 ses, .int .u64 base, .slice A n c, .int .u64 sent, .int .u64 lim, .int .i64 timer, .bool ended] 29)).cell? ⟨w.heap.size, 2, none⟩ = some (.slice A n c) := HB.out.cell 2
  have hw1 : w.heap.size < (w.alloc (.cells #[.int .u32 ses, .int .u64 base, .slice A n c, .int .u64 sent, .int .u64 lim, .int .i64 timer, .bool ended] 29)).heap.size := by simp only [World.size_alloc]; omega
  by_cases hA : sendA ⟨ses, base, q, sent, lim, timer, ended⟩ = true
  · have hA2 := hA
    unfold sendA at hA2
    simp only [Bool.and_eq_true, decide_eq_true_eq] at hA2
    obtain ⟨⟨⟨⟨a1, a2⟩, a3⟩, a4⟩, a5⟩ := hA2
    rw [HL.out] at a4
    have hn8 : n ≤ 8 := by omega
    obtain rfl : zB = true := by rw [HZ.out]; exact a1
    have HIN := Lib.hid (inRow_any F A n c q base (w.alloc (.cells #[.int .u32 ses, .int .u64 base, .slice A n c, .int .u64 sent, .int .u64 lim, .int .i64 timer, .bool ended] 29)) HR.out (by omega) h0 (by omega))
    rw [a5] at HIN
    obtain ⟨eB, heB⟩ : ∃ eB, eB = endsB q := ⟨_, rfl⟩
    have HEE := Lib.hid heB
    have hwr := u64_in (x := base - 1) (by omega) (by omega)
    have HSB := Lib.hid (show sendB ⟨ses, base, q, sent, lim, timer, ended⟩ = (sendM ⟨ses, base, q, sent, lim, timer, ended⟩ && sendT ⟨ses, base, q, sent, lim, timer, ended⟩) from by unfold sendB; rw [hA]; rfl)
    clear a1 a5 hA heB
    cases ended
    · cases eB
      · skip
        by_cases d0 : base - 1 ≤ sent
        · have e0 : decide (base - 1 ≤ sent) = true := by simpa using d0
          by_cases d1 : sent ≤ base - 1 + (n : Int)
          · have e1 : decide (sent ≤ base - 1 + (n : Int)) = true := by simpa using d1
            by_cases d2 : sent ≤ lim
            · have e2 : decide (sent ≤ lim) = true := by simpa using d2
              by_cases d3 : lim ≤ 1099511627776
              · have e3 : decide (lim ≤ 1099511627776) = true := by simpa using d3
                have HM := Lib.hid (show sendM ⟨ses, base, q, sent, lim, timer, false⟩ = true from by unfold sendM; rw [HL.out, ← HEE.out]; simp [d0, d1, d2, d3])
                have HT := Lib.hid (show sendT ⟨ses, base, q, sent, lim, timer, false⟩ = (decide (0 ≤ timer) && decide (timer < 3) && (decide (timer ≤ 0) || decide (base ≤ sent))) from rfl)
                go_enter Try.func20, Try.ntmps20
                go_wp2_with fail
                generalize w.alloc (.cells #[.int .u32 ses, .int .u64 base, .slice A n c, .int .u64 sent, .int .u64 lim, .int .i64 timer, .bool false] 29) = w1 at *
                refine (HSS.out _).mono ?_
                rintro e w2 ⟨rfl, rfl⟩
                go_wp2_with fail
                refine HIN.out.mono ?_
                rintro e w3 ⟨rfl, q3⟩
                replace HB := Lib.hid (HB.out.ca q3)
                replace HR := Lib.hid (Lay.rd_below HR.out q3)
                replace HBB := Lib.hid (bl_ca HBB.out q3)
                clear q3 x0 x1 x2 HIN
                go_wp2_with fail
                refine wp_region_ps (S := fun _ _ w' => Below w3.heap.size w3 w') (by kernel_rfl) ?spsw1 ?ppsw1
                case spsw1 =>
                  exact (Below.refl _ _).drew
                refine Ps.step (i := 0) (d := some 30) (u := ?uw1_1) rfl rfl (by kernel_rfl) (by kernel_rfl) (by kernel_rfl) (by kernel_rfl) ?yw1_1 ?rw1_1
                case yw1_1 =>
                  refine StepS.pure (fun _ _ _ h => h) (by rfl) (fun w9 => ?_)
                  go_simp
                  try rfl
                try simp only [Act.put, List.setIfInBounds_toArray, List.set_cons_zero, List.set_cons_succ]
                refine Ps.step (i := 1) (d := some 31) (u := ?uw1_2) rfl rfl (by kernel_rfl) (by kernel_rfl) (by kernel_rfl) (by kernel_rfl) ?yw1_2 ?rw1_2
                case yw1_2 =>
                  refine StepS.pure (fun _ _ _ h => h) (by rfl) (fun w9 => ?_)
                  go_simp
                  try rfl
                try simp only [Act.put, List.setIfInBounds_toArray, List.set_cons_zero, List.set_cons_succ]
                refine Ps.step (i := 2) (d := some 32) (u := ?uw1_3) rfl rfl (by kernel_rfl) (by kernel_rfl) (by kernel_rfl) (by kernel_rfl) ?yw1_3 ?rw1_3
                case yw1_3 =>
                  refine StepS.pure (fun _ _ _ h => h) (by rfl) (fun w9 => ?_)
                  go_simp
                  try rfl
                try simp only [Act.put, List.setIfInBounds_toArray, List.set_cons_zero, List.set_cons_succ]
                refine Ps.step (i := 3) (d := some 33) (u := ?uw1_4) rfl rfl (by kernel_rfl) (by kernel_rfl) (by kernel_rfl) (by kernel_rfl) ?yw1_4 ?rw1_4
                case yw1_4 =>
                  refine StepS.read [] (by kernel_rfl) (fun _ _ _ h => h) (by rfl) (fun L9 m9 w9 hSh hAt hDn hS => ?_)
                  have x6 : w9.cell? ⟨w.heap.size, 6, none⟩ = some (.bool false) := (HB.out.ca (show Below _ _ w9 from hS)).cell 6
                  clear hS
                  go_simp
                  try rfl
                try simp only [Act.put, List.setIfInBounds_toArray, List.set_cons_zero, List.set_cons_succ]
                refine Ps.step (i := 4) (d := some 34) (u := ?uw1_5) rfl rfl (by kernel_rfl) (by kernel_rfl) (by kernel_rfl) (by kernel_rfl) ?yw1_5 ?rw1_5
                case yw1_5 =>
                  refine StepS.pure (fun _ _ _ h => h) (by rfl) (fun w9 => ?_)
                  go_simp
                  try rfl
                try simp only [Act.put, List.setIfInBounds_toArray, List.set_cons_zero, List.set_cons_succ]
                refine Ps.step (i := 5) (d := some 35) (u := ?uw1_6) rfl rfl (by kernel_rfl) (by kernel_rfl) (by kernel_rfl) (by kernel_rfl) ?yw1_6 ?rw1_6
                case yw1_6 =>
                  refine StepS.pure (fun _ _ _ h => h) (by rfl) (fun w9 => ?_)
                  go_simp
                  try rfl
                try simp only [Act.put, List.setIfInBounds_toArray, List.set_cons_zero, List.set_cons_succ]
                refine Ps.step (i := 6) (d := some 36) (u := ?uw1_7) rfl rfl (by kernel_rfl) (by kernel_rfl) (by kernel_rfl) (by kernel_rfl) ?yw1_7 ?rw1_7
                case yw1_7 =>
                  refine StepS.read [] (by kernel_rfl) (fun _ _ _ h => h) (by rfl) (fun L9 m9 w9 hSh hAt hDn hS => ?_)
                  have x2 : w9.cell? ⟨w.heap.size, 2, none⟩ = some (.slice A n c) := (HB.out.ca (show Below _ _ w9 from hS)).cell 2
                  clear hS
                  go_simp
                  try rfl
                try simp only [Act.put, List.setIfInBounds_toArray, List.set_cons_zero, List.set_cons_succ]
                refine Ps.step (i := 7) (d := some 37) (u := (.bool false)) rfl rfl (by kernel_rfl) (by kernel_rfl) (by kernel_rfl) (by kernel_rfl) ?yw1_8 ?rw1_8
                case yw1_8 =>
                  refine StepS.call ?fw1_8 ?aw1_8 [] (by kernel_rfl) (by rfl) (fun w9 => ?hw1_8) (fun L9 m9 w9 hSh hAt hDn hS => ?cw1_8)
                  case hw1_8 => go_simp; refine ⟨?_, ?_⟩ <;> rfl
                  case cw1_8 =>
                    have hT : Below _ _ w9 := hS
                    refine (ends_any F A n c q w9 (Lay.rd_below HR.out hT) hn).mono ?_
                    rintro e w8 ⟨rfl, rfl⟩
                    exact ⟨by rw [HEE.out], hT⟩
                try simp only [Act.put, List.setIfInBounds_toArray, List.set_cons_zero, List.set_cons_succ]
                refine Ps.step (i := 8) (d := some 38) (u := ?uw1_9) rfl rfl (by kernel_rfl) (by kernel_rfl) (by kernel_rfl) (by kernel_rfl) ?yw1_9 ?rw1_9
                case yw1_9 =>
                  refine StepS.pure (fun _ _ _ h => h) (by rfl) (fun w9 => ?_)
                  go_simp
                  try rfl
                try simp only [Act.put, List.setIfInBounds_toArray, List.set_cons_zero, List.set_cons_succ]
                refine Ps.step (i := 9) (d := some 39) (u := ?uw1_10) rfl rfl (by kernel_rfl) (by kernel_rfl) (by kernel_rfl) (by kernel_rfl) ?yw1_10 ?rw1_10
                case yw1_10 =>
                  refine StepS.pure (fun _ _ _ h => h) (by rfl) (fun w9 => ?_)
                  go_simp
                  try rfl
                try simp only [Act.put, List.setIfInBounds_toArray, List.set_cons_zero, List.set_cons_succ]
                refine Ps.step (i := 10) (d := some 40) (u := ?uw1_11) rfl rfl (by kernel_rfl) (by kernel_rfl) (by kernel_rfl) (by kernel_rfl) ?yw1_11 ?rw1_11
                case yw1_11 =>
                  refine StepS.pure (fun _ _ _ h => h) (by rfl) (fun w9 => ?_)
                  go_simp
                  try rfl
                try simp only [Act.put, List.setIfInBounds_toArray, List.set_cons_zero, List.set_cons_succ]
                refine Ps.step (i := 11) (d := some 41) (u := ?uw1_12) rfl rfl (by kernel_rfl) (by kernel_rfl) (by kernel_rfl) (by kernel_rfl) ?yw1_12 ?rw1_12
                case yw1_12 =>
                  refine StepS.pure (fun _ _ _ h => h) (by rfl) (fun w9 => ?_)
                  go_simp
                  try rfl
                try simp only [Act.put, List.setIfInBounds_toArray, List.set_cons_zero, List.set_cons_succ]
                refine Ps.step (i := 12) (d := some 42) (u := ?uw1_13) rfl rfl (by kernel_rfl) (by kernel_rfl) (by kernel_rfl) (by kernel_rfl) ?yw1_13 ?rw1_13
                case yw1_13 =>
                  refine StepS.pure (fun _ _ _ h => h) (by rfl) (fun w9 => ?_)
                  go_simp
                  try rfl
                try simp only [Act.put, List.setIfInBounds_toArray, List.set_cons_zero, List.set_cons_succ]
                refine Ps.step (i := 13) (d := some 43) (u := ?uw1_14) rfl rfl (by kernel_rfl) (by kernel_rfl) (by kernel_rfl) (by kernel_rfl) ?yw1_14 ?rw1_14
                case yw1_14 =>
                  refine StepS.read [] (by kernel_rfl) (fun _ _ _ h => h) (by rfl) (fun L9 m9 w9 hSh hAt hDn hS => ?_)
                  have x3 : w9.cell? ⟨w.heap.size, 3, none⟩ = some (.int .u64 sent) := (HB.out.ca (show Below _ _ w9 from hS)).cell 3
                  clear hS
                  go_simp
                  try rfl
                try simp only [Act.put, List.setIfInBounds_toArray, List.set_cons_zero, List.set_cons_succ]
                refine Ps.step (i := 14) (d := some 44) (u := ?uw1_15) rfl rfl (by kernel_rfl) (by kernel_rfl) (by kernel_rfl) (by kernel_rfl) ?yw1_15 ?rw1_15
                case yw1_15 =>
                  refine StepS.pure (fun _ _ _ h => h) (by rfl) (fun w9 => ?_)
                  go_simp
                  try rfl
                try simp only [Act.put, List.setIfInBounds_toArray, List.set_cons_zero, List.set_cons_succ]
                refine Ps.step (i := 15) (d := some 45) (u := ?uw1_16) rfl rfl (by kernel_rfl) (by kernel_rfl) (by kernel_rfl) (by kernel_rfl) ?yw1_16 ?rw1_16
                case yw1_16 =>
                  refine StepS.read [] (by kernel_rfl) (fun _ _ _ h => h) (by rfl) (fun L9 m9 w9 hSh hAt hDn hS => ?_)
                  have x1 : w9.cell? ⟨w.heap.size, 1, none⟩ = some (.int .u64 base) := (HB.out.ca (show Below _ _ w9 from hS)).cell 1
                  clear hS
                  go_simp
                  try rfl
                try simp only [Act.put, List.setIfInBounds_toArray, List.set_cons_zero, List.set_cons_succ]
                refine Ps.step (i := 16) (d := some 46) (u := ?uw1_17) rfl rfl (by kernel_rfl) (by kernel_rfl) (by kernel_rfl) (by kernel_rfl) ?yw1_17 ?rw1_17
                case yw1_17 =>
                  refine StepS.pure (fun _ _ _ h => h) (by rfl) (fun w9 => ?_)
                  go_simp
                  try rfl
                try simp only [Act.put, List.setIfInBounds_toArray, List.set_cons_zero, List.set_cons_succ]
                refine Ps.step (i := 17) (d := some 47) (u := ?uw1_18) rfl rfl (by kernel_rfl) (by kernel_rfl) (by kernel_rfl) (by kernel_rfl) ?yw1_18 ?rw1_18
                case yw1_18 =>
                  refine StepS.pure (fun _ _ _ h => h) (by rfl) (fun w9 => ?_)
                  go_simp
                  try rfl
                try simp only [Act.put, List.setIfInBounds_toArray, List.set_cons_zero, List.set_cons_succ]
                refine Ps.step (i := 18) (d := some 48) (u := ?uw1_19) rfl rfl (by kernel_rfl) (by kernel_rfl) (by kernel_rfl) (by kernel_rfl) ?yw1_19 ?rw1_19
                case yw1_19 =>
                  refine StepS.pure (fun _ _ _ h => h) (by rfl) (fun w9 => ?_)
                  go_simp
                  try rfl
                try simp only [Act.put, List.setIfInBounds_toArray, List.set_cons_zero, List.set_cons_succ]
                refine Ps.step (i := 19) (d := some 49) (u := ?uw1_20) rfl rfl (by kernel_rfl) (by kernel_rfl) (by kernel_rfl) (by kernel_rfl) ?yw1_20 ?rw1_20
                case yw1_20 =>
                  refine StepS.pure (fun _ _ _ h => h) (by rfl) (fun w9 => ?_)
                  go_simp
                  try rfl
                try simp only [Act.put, List.setIfInBounds_toArray, List.set_cons_zero, List.set_cons_succ]
                refine Ps.step (i := 20) (d := some 50) (u := ?uw1_21) rfl rfl (by kernel_rfl) (by kernel_rfl) (by kernel_rfl) (by kernel_rfl) ?yw1_21 ?rw1_21
                case yw1_21 =>
                  refine StepS.pure (fun _ _ _ h => h) (by rfl) (fun w9 => ?_)
                  go_simp
                  try rfl
                try simp only [Act.put, List.setIfInBounds_toArray, List.set_cons_zero, List.set_cons_succ]
                refine Ps.step (i := 21) (d := some 51) (u := ?uw1_22) rfl rfl (by kernel_rfl) (by kernel_rfl) (by kernel_rfl) (by kernel_rfl) ?yw1_22 ?rw1_22
                case yw1_22 =>
                  refine StepS.read [] (by kernel_rfl) (fun _ _ _ h => h) (by rfl) (fun L9 m9 w9 hSh hAt hDn hS => ?_)
                  have x3 : w9.cell? ⟨w.heap.size, 3, none⟩ = some (.int .u64 sent) := (HB.out.ca (show Below _ _ w9 from hS)).cell 3
                  clear hS
                  go_simp
                  try rfl
                try simp only [Act.put, List.setIfInBounds_toArray, List.set_cons_zero, List.set_cons_succ]
                refine Ps.step (i := 22) (d := some 52) (u := ?uw1_23) rfl rfl (by kernel_rfl) (by kernel_rfl) (by kernel_rfl) (by kernel_rfl) ?yw1_23 ?rw1_23
                case yw1_23 =>
                  refine StepS.read [] (by kernel_rfl) (fun _ _ _ h => h) (by rfl) (fun L9 m9 w9 hSh hAt hDn hS => ?_)
                  have hT : Below _ _ w9 := hS
                  have x0 : w9.cell? ⟨w.heap.size, 0, none⟩ = some (.int .u32 ses) := (HB.out.ca hT).cell 0
                  have x1 : w9.cell? ⟨w.heap.size, 1, none⟩ = some (.int .u64 base) := (HB.out.ca hT).cell 1
                  have x2 : w9.cell? ⟨w.heap.size, 2, none⟩ = some (.slice A n c) := (HB.out.ca hT).cell 2
                  have x3 : w9.cell? ⟨w.heap.size, 3, none⟩ = some (.int .u64 sent) := (HB.out.ca hT).cell 3
                  have x4 : w9.cell? ⟨w.heap.size, 4, none⟩ = some (.int .u64 lim) := (HB.out.ca hT).cell 4
                  have x5 : w9.cell? ⟨w.heap.size, 5, none⟩ = some (.int .i64 timer) := (HB.out.ca hT).cell 5
                  have x6 : w9.cell? ⟨w.heap.size, 6, none⟩ = some (.bool false) := (HB.out.ca hT).cell 6
                  clear hT hS
                  go_simp
                  try rfl
                try simp only [Act.put, List.setIfInBounds_toArray, List.set_cons_zero, List.set_cons_succ]
                refine Ps.step (i := 23) (d := some 53) (u := (.int .u64 (base - 1 + (n : Int)))) rfl rfl (by kernel_rfl) (by kernel_rfl) (by kernel_rfl) (by kernel_rfl) ?yw1_24 ?rw1_24
                case yw1_24 =>
                  refine StepS.call ?fw1_24 ?aw1_24 [] (by kernel_rfl) (by rfl) (fun w9 => ?hw1_24) (fun L9 m9 w9 hSh hAt hDn hS => ?cw1_24)
                  case hw1_24 => go_simp; refine ⟨?_, ?_⟩ <;> rfl
                  case cw1_24 =>
                    have hT : Below _ _ w9 := hS
                    refine (last_any ⟨ses, base, q, sent, lim, timer, false⟩ A n c w9 (by dsimp only; omega) (by dsimp only; omega) (by omega)).mono ?_
                    rintro e w8 ⟨rfl, q8⟩
                    exact ⟨rfl, bl_ca hT q8⟩
                try simp only [Act.put, List.setIfInBounds_toArray, List.set_cons_zero, List.set_cons_succ]
                refine Ps.step (i := 24) (d := some 54) (u := ?uw1_25) rfl rfl (by kernel_rfl) (by kernel_rfl) (by kernel_rfl) (by kernel_rfl) ?yw1_25 ?rw1_25
                case yw1_25 =>
                  refine StepS.pure (fun _ _ _ h => h) (by rfl) (fun w9 => ?_)
                  go_simp
                  try rfl
                try simp only [Act.put, List.setIfInBounds_toArray, List.set_cons_zero, List.set_cons_succ]
                refine Ps.step (i := 25) (d := some 55) (u := ?uw1_26) rfl rfl (by kernel_rfl) (by kernel_rfl) (by kernel_rfl) (by kernel_rfl) ?yw1_26 ?rw1_26
                case yw1_26 =>
                  refine StepS.pure (fun _ _ _ h => h) (by rfl) (fun w9 => ?_)
                  go_simp
                  try rfl
                try simp only [Act.put, List.setIfInBounds_toArray, List.set_cons_zero, List.set_cons_succ]
                refine Ps.step (i := 26) (d := some 56) (u := ?uw1_27) rfl rfl (by kernel_rfl) (by kernel_rfl) (by kernel_rfl) (by kernel_rfl) ?yw1_27 ?rw1_27
                case yw1_27 =>
                  refine StepS.pure (fun _ _ _ h => h) (by rfl) (fun w9 => ?_)
                  go_simp
                  try rfl
                try simp only [Act.put, List.setIfInBounds_toArray, List.set_cons_zero, List.set_cons_succ]
                refine Ps.step (i := 27) (d := some 57) (u := ?uw1_28) rfl rfl (by kernel_rfl) (by kernel_rfl) (by kernel_rfl) (by kernel_rfl) ?yw1_28 ?rw1_28
                case yw1_28 =>
                  refine StepS.pure (fun _ _ _ h => h) (by rfl) (fun w9 => ?_)
                  go_simp
                  try rfl
                try simp only [Act.put, List.setIfInBounds_toArray, List.set_cons_zero, List.set_cons_succ]
                refine Ps.step (i := 28) (d := some 58) (u := ?uw1_29) rfl rfl (by kernel_rfl) (by kernel_rfl) (by kernel_rfl) (by kernel_rfl) ?yw1_29 ?rw1_29
                case yw1_29 =>
                  refine StepS.read [] (by kernel_rfl) (fun _ _ _ h => h) (by rfl) (fun L9 m9 w9 hSh hAt hDn hS => ?_)
                  have x4 : w9.cell? ⟨w.heap.size, 4, none⟩ = some (.int .u64 lim) := (HB.out.ca (show Below _ _ w9 from hS)).cell 4
                  clear hS
                  go_simp
                  try rfl
                try simp only [Act.put, List.setIfInBounds_toArray, List.set_cons_zero, List.set_cons_succ]
                refine Ps.step (i := 29) (d := some 59) (u := ?uw1_30) rfl rfl (by kernel_rfl) (by kernel_rfl) (by kernel_rfl) (by kernel_rfl) ?yw1_30 ?rw1_30
                case yw1_30 =>
                  refine StepS.pure (fun _ _ _ h => h) (by rfl) (fun w9 => ?_)
                  go_simp
                  try rfl
                try simp only [Act.put, List.setIfInBounds_toArray, List.set_cons_zero, List.set_cons_succ]
                refine Ps.step (i := 30) (d := some 60) (u := ?uw1_31) rfl rfl (by kernel_rfl) (by kernel_rfl) (by kernel_rfl) (by kernel_rfl) ?yw1_31 ?rw1_31
                case yw1_31 =>
                  refine StepS.read [] (by kernel_rfl) (fun _ _ _ h => h) (by rfl) (fun L9 m9 w9 hSh hAt hDn hS => ?_)
                  have x3 : w9.cell? ⟨w.heap.size, 3, none⟩ = some (.int .u64 sent) := (HB.out.ca (show Below _ _ w9 from hS)).cell 3
                  clear hS
                  go_simp
                  try rfl
                try simp only [Act.put, List.setIfInBounds_toArray, List.set_cons_zero, List.set_cons_succ]
                refine Ps.step (i := 31) (d := some 61) (u := ?uw1_32) rfl rfl (by kernel_rfl) (by kernel_rfl) (by kernel_rfl) (by kernel_rfl) ?yw1_32 ?rw1_32
                case yw1_32 =>
                  refine StepS.pure (fun _ _ _ h => h) (by rfl) (fun w9 => ?_)
                  go_simp
                  try rfl
                try simp only [Act.put, List.setIfInBounds_toArray, List.set_cons_zero, List.set_cons_succ]
                refine Ps.step (i := 32) (d := some 62) (u := ?uw1_33) rfl rfl (by kernel_rfl) (by kernel_rfl) (by kernel_rfl) (by kernel_rfl) ?yw1_33 ?rw1_33
                case yw1_33 =>
                  refine StepS.pure (fun _ _ _ h => h) (by rfl) (fun w9 => ?_)
                  go_simp
                  try rfl
                try simp only [Act.put, List.setIfInBounds_toArray, List.set_cons_zero, List.set_cons_succ]
                refine Ps.step (i := 33) (d := some 63) (u := ?uw1_34) rfl rfl (by kernel_rfl) (by kernel_rfl) (by kernel_rfl) (by kernel_rfl) ?yw1_34 ?rw1_34
                case yw1_34 =>
                  refine StepS.pure (fun _ _ _ h => h) (by rfl) (fun w9 => ?_)
                  go_simp
                  try rfl
                try simp only [Act.put, List.setIfInBounds_toArray, List.set_cons_zero, List.set_cons_succ]
                refine Ps.step (i := 34) (d := some 64) (u := ?uw1_35) rfl rfl (by kernel_rfl) (by kernel_rfl) (by kernel_rfl) (by kernel_rfl) ?yw1_35 ?rw1_35
                case yw1_35 =>
                  refine StepS.pure (fun _ _ _ h => h) (by rfl) (fun w9 => ?_)
                  go_simp
                  try rfl
                try simp only [Act.put, List.setIfInBounds_toArray, List.set_cons_zero, List.set_cons_succ]
                refine Ps.step (i := 35) (d := some 65) (u := ?uw1_36) rfl rfl (by kernel_rfl) (by kernel_rfl) (by kernel_rfl) (by kernel_rfl) ?yw1_36 ?rw1_36
                case yw1_36 =>
                  refine StepS.read [] (by kernel_rfl) (fun _ _ _ h => h) (by rfl) (fun L9 m9 w9 hSh hAt hDn hS => ?_)
                  have x4 : w9.cell? ⟨w.heap.size, 4, none⟩ = some (.int .u64 lim) := (HB.out.ca (show Below _ _ w9 from hS)).cell 4
                  clear hS
                  go_simp
                  try rfl
                try simp only [Act.put, List.setIfInBounds_toArray, List.set_cons_zero, List.set_cons_succ]
                refine Ps.step (i := 36) (d := some 66) (u := ?uw1_37) rfl rfl (by kernel_rfl) (by kernel_rfl) (by kernel_rfl) (by kernel_rfl) ?yw1_37 ?rw1_37
                case yw1_37 =>
                  refine StepS.pure (fun _ _ _ h => h) (by rfl) (fun w9 => ?_)
                  go_simp
                  try rfl
                try simp only [Act.put, List.setIfInBounds_toArray, List.set_cons_zero, List.set_cons_succ]
                refine Ps.step (i := 37) (d := some 67) (u := ?uw1_38) rfl rfl (by kernel_rfl) (by kernel_rfl) (by kernel_rfl) (by kernel_rfl) ?yw1_38 ?rw1_38
                case yw1_38 =>
                  refine StepS.pure (fun _ _ _ h => h) (by rfl) (fun w9 => ?_)
                  go_simp
                  try rfl
                try simp only [Act.put, List.setIfInBounds_toArray, List.set_cons_zero, List.set_cons_succ]
                refine Ps.step (i := 38) (d := some 3) (u := ?uw1_39) rfl rfl (by kernel_rfl) (by kernel_rfl) (by kernel_rfl) (by kernel_rfl) ?yw1_39 ?rw1_39
                case yw1_39 =>
                  refine StepS.pure (fun _ _ _ h => h) (by rfl) (fun w9 => ?_)
                  go_simp
                  try rfl
                try simp only [Act.put, List.setIfInBounds_toArray, List.set_cons_zero, List.set_cons_succ]
                refine Ps.done (by kernel_rfl) (fun w1 hS => ?_) _
                have HQ := Lib.hid (show Below w3.heap.size w3 _ from hS)
                clear hS
                obtain ⟨w7, rfl⟩ : ∃ x, x = w1 := ⟨_, rfl⟩
                have x3 : w7.cell? ⟨w.heap.size, 3, none⟩ = some (.int .u64 sent) := (HB.out.ca HQ.out).cell 3
                have x1 : w7.cell? ⟨w.heap.size, 1, none⟩ = some (.int .u64 base) := (HB.out.ca HQ.out).cell 1
                have x5 : w7.cell? ⟨w.heap.size, 5, none⟩ = some (.int .i64 timer) := (HB.out.ca HQ.out).cell 5
                go_wp2
                all_goals go_ret
                all_goals exact ⟨ret_int (by rw [HRR.out, HSB.out, HM.out, HT.out]; simp [*] <;> omega), bl_ca HBB.out HQ.out⟩
              · have e3 : decide (lim ≤ 1099511627776) = false := by simpa using d3
                have HF := Lib.hid (show sendM ⟨ses, base, q, sent, lim, timer, false⟩ = false from by unfold sendM; rw [HL.out, ← HEE.out]; simp [d3])
                go_enter Try.func20, Try.ntmps20
                go_wp2_with fail
                generalize w.alloc (.cells #[.int .u32 ses, .int .u64 base, .slice A n c, .int .u64 sent, .int .u64 lim, .int .i64 timer, .bool false] 29) = w1 at *
                refine (HSS.out _).mono ?_
                rintro e w2 ⟨rfl, rfl⟩
                go_wp2_with fail
                refine HIN.out.mono ?_
                rintro e w3 ⟨rfl, q3⟩
                replace HB := Lib.hid (HB.out.ca q3)
                replace HR := Lib.hid (Lay.rd_below HR.out q3)
                replace HBB := Lib.hid (bl_ca HBB.out q3)
                clear q3 x0 x1 x2 HIN
                go_wp2_with fail
                refine wp_region_ps (S := fun _ _ w' => Below w3.heap.size w3 w') (by kernel_rfl) ?spsw40 ?ppsw40
                case spsw40 =>
                  exact (Below.refl _ _).drew
                refine Ps.step (i := 0) (d := some 30) (u := ?uw40_40) rfl rfl (by kernel_rfl) (by kernel_rfl) (by kernel_rfl) (by kernel_rfl) ?yw40_40 ?rw40_40
                case yw40_40 =>
                  refine StepS.pure (fun _ _ _ h => h) (by rfl) (fun w9 => ?_)
                  go_simp
                  try rfl
                try simp only [Act.put, List.setIfInBounds_toArray, List.set_cons_zero, List.set_cons_succ]
                refine Ps.step (i := 1) (d := some 31) (u := ?uw40_41) rfl rfl (by kernel_rfl) (by kernel_rfl) (by kernel_rfl) (by kernel_rfl) ?yw40_41 ?rw40_41
                case yw40_41 =>
                  refine StepS.pure (fun _ _ _ h => h) (by rfl) (fun w9 => ?_)
                  go_simp
                  try rfl
                try simp only [Act.put, List.setIfInBounds_toArray, List.set_cons_zero, List.set_cons_succ]
                refine Ps.step (i := 2) (d := some 32) (u := ?uw40_42) rfl rfl (by kernel_rfl) (by kernel_rfl) (by kernel_rfl) (by kernel_rfl) ?yw40_42 ?rw40_42
                case yw40_42 =>
                  refine StepS.pure (fun _ _ _ h => h) (by rfl) (fun w9 => ?_)
                  go_simp
                  try rfl
                try simp only [Act.put, List.setIfInBounds_toArray, List.set_cons_zero, List.set_cons_succ]
                refine Ps.step (i := 3) (d := some 33) (u := ?uw40_43) rfl rfl (by kernel_rfl) (by kernel_rfl) (by kernel_rfl) (by kernel_rfl) ?yw40_43 ?rw40_43
                case yw40_43 =>
                  refine StepS.read [] (by kernel_rfl) (fun _ _ _ h => h) (by rfl) (fun L9 m9 w9 hSh hAt hDn hS => ?_)
                  have x6 : w9.cell? ⟨w.heap.size, 6, none⟩ = some (.bool false) := (HB.out.ca (show Below _ _ w9 from hS)).cell 6
                  clear hS
                  go_simp
                  try rfl
                try simp only [Act.put, List.setIfInBounds_toArray, List.set_cons_zero, List.set_cons_succ]
                refine Ps.step (i := 4) (d := some 34) (u := ?uw40_44) rfl rfl (by kernel_rfl) (by kernel_rfl) (by kernel_rfl) (by kernel_rfl) ?yw40_44 ?rw40_44
                case yw40_44 =>
                  refine StepS.pure (fun _ _ _ h => h) (by rfl) (fun w9 => ?_)
                  go_simp
                  try rfl
                try simp only [Act.put, List.setIfInBounds_toArray, List.set_cons_zero, List.set_cons_succ]
                refine Ps.step (i := 5) (d := some 35) (u := ?uw40_45) rfl rfl (by kernel_rfl) (by kernel_rfl) (by kernel_rfl) (by kernel_rfl) ?yw40_45 ?rw40_45
                case yw40_45 =>
                  refine StepS.pure (fun _ _ _ h => h) (by rfl) (fun w9 => ?_)
                  go_simp
                  try rfl
                try simp only [Act.put, List.setIfInBounds_toArray, List.set_cons_zero, List.set_cons_succ]
                refine Ps.step (i := 6) (d := some 36) (u := ?uw40_46) rfl rfl (by kernel_rfl) (by kernel_rfl) (by kernel_rfl) (by kernel_rfl) ?yw40_46 ?rw40_46
                case yw40_46 =>
                  refine StepS.read [] (by kernel_rfl) (fun _ _ _ h => h) (by rfl) (fun L9 m9 w9 hSh hAt hDn hS => ?_)
                  have x2 : w9.cell? ⟨w.heap.size, 2, none⟩ = some (.slice A n c) := (HB.out.ca (show Below _ _ w9 from hS)).cell 2
                  clear hS
                  go_simp
                  try rfl
                try simp only [Act.put, List.setIfInBounds_toArray, List.set_cons_zero, List.set_cons_succ]
                refine Ps.step (i := 7) (d := some 37) (u := (.bool false)) rfl rfl (by kernel_rfl) (by kernel_rfl) (by kernel_rfl) (by kernel_rfl) ?yw40_47 ?rw40_47
                case yw40_47 =>
                  refine StepS.call ?fw40_47 ?aw40_47 [] (by kernel_rfl) (by rfl) (fun w9 => ?hw40_47) (fun L9 m9 w9 hSh hAt hDn hS => ?cw40_47)
                  case hw40_47 => go_simp; refine ⟨?_, ?_⟩ <;> rfl
                  case cw40_47 =>
                    have hT : Below _ _ w9 := hS
                    refine (ends_any F A n c q w9 (Lay.rd_below HR.out hT) hn).mono ?_
                    rintro e w8 ⟨rfl, rfl⟩
                    exact ⟨by rw [HEE.out], hT⟩
                try simp only [Act.put, List.setIfInBounds_toArray, List.set_cons_zero, List.set_cons_succ]
                refine Ps.step (i := 8) (d := some 38) (u := ?uw40_48) rfl rfl (by kernel_rfl) (by kernel_rfl) (by kernel_rfl) (by kernel_rfl) ?yw40_48 ?rw40_48
                case yw40_48 =>
                  refine StepS.pure (fun _ _ _ h => h) (by rfl) (fun w9 => ?_)
                  go_simp
                  try rfl
                try simp only [Act.put, List.setIfInBounds_toArray, List.set_cons_zero, List.set_cons_succ]
                refine Ps.step (i := 9) (d := some 39) (u := ?uw40_49) rfl rfl (by kernel_rfl) (by kernel_rfl) (by kernel_rfl) (by kernel_rfl) ?yw40_49 ?rw40_49
                case yw40_49 =>
                  refine StepS.pure (fun _ _ _ h => h) (by rfl) (fun w9 => ?_)
                  go_simp
                  try rfl
                try simp only [Act.put, List.setIfInBounds_toArray, List.set_cons_zero, List.set_cons_succ]
                refine Ps.step (i := 10) (d := some 40) (u := ?uw40_50) rfl rfl (by kernel_rfl) (by kernel_rfl) (by kernel_rfl) (by kernel_rfl) ?yw40_50 ?rw40_50
                case yw40_50 =>
                  refine StepS.pure (fun _ _ _ h => h) (by rfl) (fun w9 => ?_)
                  go_simp
                  try rfl
                try simp only [Act.put, List.setIfInBounds_toArray, List.set_cons_zero, List.set_cons_succ]
                refine Ps.step (i := 11) (d := some 41) (u := ?uw40_51) rfl rfl (by kernel_rfl) (by kernel_rfl) (by kernel_rfl) (by kernel_rfl) ?yw40_51 ?rw40_51
                case yw40_51 =>
                  refine StepS.pure (fun _ _ _ h => h) (by rfl) (fun w9 => ?_)
                  go_simp
                  try rfl
                try simp only [Act.put, List.setIfInBounds_toArray, List.set_cons_zero, List.set_cons_succ]
                refine Ps.step (i := 12) (d := some 42) (u := ?uw40_52) rfl rfl (by kernel_rfl) (by kernel_rfl) (by kernel_rfl) (by kernel_rfl) ?yw40_52 ?rw40_52
                case yw40_52 =>
                  refine StepS.pure (fun _ _ _ h => h) (by rfl) (fun w9 => ?_)
                  go_simp
                  try rfl
                try simp only [Act.put, List.setIfInBounds_toArray, List.set_cons_zero, List.set_cons_succ]
                refine Ps.step (i := 13) (d := some 43) (u := ?uw40_53) rfl rfl (by kernel_rfl) (by kernel_rfl) (by kernel_rfl) (by kernel_rfl) ?yw40_53 ?rw40_53
                case yw40_53 =>
                  refine StepS.read [] (by kernel_rfl) (fun _ _ _ h => h) (by rfl) (fun L9 m9 w9 hSh hAt hDn hS => ?_)
                  have x3 : w9.cell? ⟨w.heap.size, 3, none⟩ = some (.int .u64 sent) := (HB.out.ca (show Below _ _ w9 from hS)).cell 3
                  clear hS
                  go_simp
                  try rfl
                try simp only [Act.put, List.setIfInBounds_toArray, List.set_cons_zero, List.set_cons_succ]
                refine Ps.step (i := 14) (d := some 44) (u := ?uw40_54) rfl rfl (by kernel_rfl) (by kernel_rfl) (by kernel_rfl) (by kernel_rfl) ?yw40_54 ?rw40_54
                case yw40_54 =>
                  refine StepS.pure (fun _ _ _ h => h) (by rfl) (fun w9 => ?_)
                  go_simp
                  try rfl
                try simp only [Act.put, List.setIfInBounds_toArray, List.set_cons_zero, List.set_cons_succ]
                refine Ps.step (i := 15) (d := some 45) (u := ?uw40_55) rfl rfl (by kernel_rfl) (by kernel_rfl) (by kernel_rfl) (by kernel_rfl) ?yw40_55 ?rw40_55
                case yw40_55 =>
                  refine StepS.read [] (by kernel_rfl) (fun _ _ _ h => h) (by rfl) (fun L9 m9 w9 hSh hAt hDn hS => ?_)
                  have x1 : w9.cell? ⟨w.heap.size, 1, none⟩ = some (.int .u64 base) := (HB.out.ca (show Below _ _ w9 from hS)).cell 1
                  clear hS
                  go_simp
                  try rfl
                try simp only [Act.put, List.setIfInBounds_toArray, List.set_cons_zero, List.set_cons_succ]
                refine Ps.step (i := 16) (d := some 46) (u := ?uw40_56) rfl rfl (by kernel_rfl) (by kernel_rfl) (by kernel_rfl) (by kernel_rfl) ?yw40_56 ?rw40_56
                case yw40_56 =>
                  refine StepS.pure (fun _ _ _ h => h) (by rfl) (fun w9 => ?_)
                  go_simp
                  try rfl
                try simp only [Act.put, List.setIfInBounds_toArray, List.set_cons_zero, List.set_cons_succ]
                refine Ps.step (i := 17) (d := some 47) (u := ?uw40_57) rfl rfl (by kernel_rfl) (by kernel_rfl) (by kernel_rfl) (by kernel_rfl) ?yw40_57 ?rw40_57
                case yw40_57 =>
                  refine StepS.pure (fun _ _ _ h => h) (by rfl) (fun w9 => ?_)
                  go_simp
                  try rfl
                try simp only [Act.put, List.setIfInBounds_toArray, List.set_cons_zero, List.set_cons_succ]
                refine Ps.step (i := 18) (d := some 48) (u := ?uw40_58) rfl rfl (by kernel_rfl) (by kernel_rfl) (by kernel_rfl) (by kernel_rfl) ?yw40_58 ?rw40_58
                case yw40_58 =>
                  refine StepS.pure (fun _ _ _ h => h) (by rfl) (fun w9 => ?_)
                  go_simp
                  try rfl
                try simp only [Act.put, List.setIfInBounds_toArray, List.set_cons_zero, List.set_cons_succ]
                refine Ps.step (i := 19) (d := some 49) (u := ?uw40_59) rfl rfl (by kernel_rfl) (by kernel_rfl) (by kernel_rfl) (by kernel_rfl) ?yw40_59 ?rw40_59
                case yw40_59 =>
                  refine StepS.pure (fun _ _ _ h => h) (by rfl) (fun w9 => ?_)
                  go_simp
                  try rfl
                try simp only [Act.put, List.setIfInBounds_toArray, List.set_cons_zero, List.set_cons_succ]
                refine Ps.step (i := 20) (d := some 50) (u := ?uw40_60) rfl rfl (by kernel_rfl) (by kernel_rfl) (by kernel_rfl) (by kernel_rfl) ?yw40_60 ?rw40_60
                case yw40_60 =>
                  refine StepS.pure (fun _ _ _ h => h) (by rfl) (fun w9 => ?_)
                  go_simp
                  try rfl
                try simp only [Act.put, List.setIfInBounds_toArray, List.set_cons_zero, List.set_cons_succ]
                refine Ps.step (i := 21) (d := some 51) (u := ?uw40_61) rfl rfl (by kernel_rfl) (by kernel_rfl) (by kernel_rfl) (by kernel_rfl) ?yw40_61 ?rw40_61
                case yw40_61 =>
                  refine StepS.read [] (by kernel_rfl) (fun _ _ _ h => h) (by rfl) (fun L9 m9 w9 hSh hAt hDn hS => ?_)
                  have x3 : w9.cell? ⟨w.heap.size, 3, none⟩ = some (.int .u64 sent) := (HB.out.ca (show Below _ _ w9 from hS)).cell 3
                  clear hS
                  go_simp
                  try rfl
                try simp only [Act.put, List.setIfInBounds_toArray, List.set_cons_zero, List.set_cons_succ]
                refine Ps.step (i := 22) (d := some 52) (u := ?uw40_62) rfl rfl (by kernel_rfl) (by kernel_rfl) (by kernel_rfl) (by kernel_rfl) ?yw40_62 ?rw40_62
                case yw40_62 =>
                  refine StepS.read [] (by kernel_rfl) (fun _ _ _ h => h) (by rfl) (fun L9 m9 w9 hSh hAt hDn hS => ?_)
                  have hT : Below _ _ w9 := hS
                  have x0 : w9.cell? ⟨w.heap.size, 0, none⟩ = some (.int .u32 ses) := (HB.out.ca hT).cell 0
                  have x1 : w9.cell? ⟨w.heap.size, 1, none⟩ = some (.int .u64 base) := (HB.out.ca hT).cell 1
                  have x2 : w9.cell? ⟨w.heap.size, 2, none⟩ = some (.slice A n c) := (HB.out.ca hT).cell 2
                  have x3 : w9.cell? ⟨w.heap.size, 3, none⟩ = some (.int .u64 sent) := (HB.out.ca hT).cell 3
                  have x4 : w9.cell? ⟨w.heap.size, 4, none⟩ = some (.int .u64 lim) := (HB.out.ca hT).cell 4
                  have x5 : w9.cell? ⟨w.heap.size, 5, none⟩ = some (.int .i64 timer) := (HB.out.ca hT).cell 5
                  have x6 : w9.cell? ⟨w.heap.size, 6, none⟩ = some (.bool false) := (HB.out.ca hT).cell 6
                  clear hT hS
                  go_simp
                  try rfl
                try simp only [Act.put, List.setIfInBounds_toArray, List.set_cons_zero, List.set_cons_succ]
                refine Ps.step (i := 23) (d := some 53) (u := (.int .u64 (base - 1 + (n : Int)))) rfl rfl (by kernel_rfl) (by kernel_rfl) (by kernel_rfl) (by kernel_rfl) ?yw40_63 ?rw40_63
                case yw40_63 =>
                  refine StepS.call ?fw40_63 ?aw40_63 [] (by kernel_rfl) (by rfl) (fun w9 => ?hw40_63) (fun L9 m9 w9 hSh hAt hDn hS => ?cw40_63)
                  case hw40_63 => go_simp; refine ⟨?_, ?_⟩ <;> rfl
                  case cw40_63 =>
                    have hT : Below _ _ w9 := hS
                    refine (last_any ⟨ses, base, q, sent, lim, timer, false⟩ A n c w9 (by dsimp only; omega) (by dsimp only; omega) (by omega)).mono ?_
                    rintro e w8 ⟨rfl, q8⟩
                    exact ⟨rfl, bl_ca hT q8⟩
                try simp only [Act.put, List.setIfInBounds_toArray, List.set_cons_zero, List.set_cons_succ]
                refine Ps.step (i := 24) (d := some 54) (u := ?uw40_64) rfl rfl (by kernel_rfl) (by kernel_rfl) (by kernel_rfl) (by kernel_rfl) ?yw40_64 ?rw40_64
                case yw40_64 =>
                  refine StepS.pure (fun _ _ _ h => h) (by rfl) (fun w9 => ?_)
                  go_simp
                  try rfl
                try simp only [Act.put, List.setIfInBounds_toArray, List.set_cons_zero, List.set_cons_succ]
                refine Ps.step (i := 25) (d := some 55) (u := ?uw40_65) rfl rfl (by kernel_rfl) (by kernel_rfl) (by kernel_rfl) (by kernel_rfl) ?yw40_65 ?rw40_65
                case yw40_65 =>
                  refine StepS.pure (fun _ _ _ h => h) (by rfl) (fun w9 => ?_)
                  go_simp
                  try rfl
                try simp only [Act.put, List.setIfInBounds_toArray, List.set_cons_zero, List.set_cons_succ]
                refine Ps.step (i := 26) (d := some 56) (u := ?uw40_66) rfl rfl (by kernel_rfl) (by kernel_rfl) (by kernel_rfl) (by kernel_rfl) ?yw40_66 ?rw40_66
                case yw40_66 =>
                  refine StepS.pure (fun _ _ _ h => h) (by rfl) (fun w9 => ?_)
                  go_simp
                  try rfl
                try simp only [Act.put, List.setIfInBounds_toArray, List.set_cons_zero, List.set_cons_succ]
                refine Ps.step (i := 27) (d := some 57) (u := ?uw40_67) rfl rfl (by kernel_rfl) (by kernel_rfl) (by kernel_rfl) (by kernel_rfl) ?yw40_67 ?rw40_67
                case yw40_67 =>
                  refine StepS.pure (fun _ _ _ h => h) (by rfl) (fun w9 => ?_)
                  go_simp
                  try rfl
                try simp only [Act.put, List.setIfInBounds_toArray, List.set_cons_zero, List.set_cons_succ]
                refine Ps.step (i := 28) (d := some 58) (u := ?uw40_68) rfl rfl (by kernel_rfl) (by kernel_rfl) (by kernel_rfl) (by kernel_rfl) ?yw40_68 ?rw40_68
                case yw40_68 =>
                  refine StepS.read [] (by kernel_rfl) (fun _ _ _ h => h) (by rfl) (fun L9 m9 w9 hSh hAt hDn hS => ?_)
                  have x4 : w9.cell? ⟨w.heap.size, 4, none⟩ = some (.int .u64 lim) := (HB.out.ca (show Below _ _ w9 from hS)).cell 4
                  clear hS
                  go_simp
                  try rfl
                try simp only [Act.put, List.setIfInBounds_toArray, List.set_cons_zero, List.set_cons_succ]
                refine Ps.step (i := 29) (d := some 59) (u := ?uw40_69) rfl rfl (by kernel_rfl) (by kernel_rfl) (by kernel_rfl) (by kernel_rfl) ?yw40_69 ?rw40_69
                case yw40_69 =>
                  refine StepS.pure (fun _ _ _ h => h) (by rfl) (fun w9 => ?_)
                  go_simp
                  try rfl
                try simp only [Act.put, List.setIfInBounds_toArray, List.set_cons_zero, List.set_cons_succ]
                refine Ps.step (i := 30) (d := some 60) (u := ?uw40_70) rfl rfl (by kernel_rfl) (by kernel_rfl) (by kernel_rfl) (by kernel_rfl) ?yw40_70 ?rw40_70
                case yw40_70 =>
                  refine StepS.read [] (by kernel_rfl) (fun _ _ _ h => h) (by rfl) (fun L9 m9 w9 hSh hAt hDn hS => ?_)
                  have x3 : w9.cell? ⟨w.heap.size, 3, none⟩ = some (.int .u64 sent) := (HB.out.ca (show Below _ _ w9 from hS)).cell 3
                  clear hS
                  go_simp
                  try rfl
                try simp only [Act.put, List.setIfInBounds_toArray, List.set_cons_zero, List.set_cons_succ]
                refine Ps.step (i := 31) (d := some 61) (u := ?uw40_71) rfl rfl (by kernel_rfl) (by kernel_rfl) (by kernel_rfl) (by kernel_rfl) ?yw40_71 ?rw40_71
                case yw40_71 =>
                  refine StepS.pure (fun _ _ _ h => h) (by rfl) (fun w9 => ?_)
                  go_simp
                  try rfl
                try simp only [Act.put, List.setIfInBounds_toArray, List.set_cons_zero, List.set_cons_succ]
                refine Ps.step (i := 32) (d := some 62) (u := ?uw40_72) rfl rfl (by kernel_rfl) (by kernel_rfl) (by kernel_rfl) (by kernel_rfl) ?yw40_72 ?rw40_72
                case yw40_72 =>
                  refine StepS.pure (fun _ _ _ h => h) (by rfl) (fun w9 => ?_)
                  go_simp
                  try rfl
                try simp only [Act.put, List.setIfInBounds_toArray, List.set_cons_zero, List.set_cons_succ]
                refine Ps.step (i := 33) (d := some 63) (u := ?uw40_73) rfl rfl (by kernel_rfl) (by kernel_rfl) (by kernel_rfl) (by kernel_rfl) ?yw40_73 ?rw40_73
                case yw40_73 =>
                  refine StepS.pure (fun _ _ _ h => h) (by rfl) (fun w9 => ?_)
                  go_simp
                  try rfl
                try simp only [Act.put, List.setIfInBounds_toArray, List.set_cons_zero, List.set_cons_succ]
                refine Ps.step (i := 34) (d := some 64) (u := ?uw40_74) rfl rfl (by kernel_rfl) (by kernel_rfl) (by kernel_rfl) (by kernel_rfl) ?yw40_74 ?rw40_74
                case yw40_74 =>
                  refine StepS.pure (fun _ _ _ h => h) (by rfl) (fun w9 => ?_)
                  go_simp
                  try rfl
                try simp only [Act.put, List.setIfInBounds_toArray, List.set_cons_zero, List.set_cons_succ]
                refine Ps.step (i := 35) (d := some 65) (u := ?uw40_75) rfl rfl (by kernel_rfl) (by kernel_rfl) (by kernel_rfl) (by kernel_rfl) ?yw40_75 ?rw40_75
                case yw40_75 =>
                  refine StepS.read [] (by kernel_rfl) (fun _ _ _ h => h) (by rfl) (fun L9 m9 w9 hSh hAt hDn hS => ?_)
                  have x4 : w9.cell? ⟨w.heap.size, 4, none⟩ = some (.int .u64 lim) := (HB.out.ca (show Below _ _ w9 from hS)).cell 4
                  clear hS
                  go_simp
                  try rfl
                try simp only [Act.put, List.setIfInBounds_toArray, List.set_cons_zero, List.set_cons_succ]
                refine Ps.step (i := 36) (d := some 66) (u := ?uw40_76) rfl rfl (by kernel_rfl) (by kernel_rfl) (by kernel_rfl) (by kernel_rfl) ?yw40_76 ?rw40_76
                case yw40_76 =>
                  refine StepS.pure (fun _ _ _ h => h) (by rfl) (fun w9 => ?_)
                  go_simp
                  try rfl
                try simp only [Act.put, List.setIfInBounds_toArray, List.set_cons_zero, List.set_cons_succ]
                refine Ps.step (i := 37) (d := some 67) (u := ?uw40_77) rfl rfl (by kernel_rfl) (by kernel_rfl) (by kernel_rfl) (by kernel_rfl) ?yw40_77 ?rw40_77
                case yw40_77 =>
                  refine StepS.pure (fun _ _ _ h => h) (by rfl) (fun w9 => ?_)
                  go_simp
                  try rfl
                try simp only [Act.put, List.setIfInBounds_toArray, List.set_cons_zero, List.set_cons_succ]
                refine Ps.step (i := 38) (d := some 3) (u := ?uw40_78) rfl rfl (by kernel_rfl) (by kernel_rfl) (by kernel_rfl) (by kernel_rfl) ?yw40_78 ?rw40_78
                case yw40_78 =>
                  refine StepS.pure (fun _ _ _ h => h) (by rfl) (fun w9 => ?_)
                  go_simp
                  try rfl
                try simp only [Act.put, List.setIfInBounds_toArray, List.set_cons_zero, List.set_cons_succ]
                refine Ps.done (by kernel_rfl) (fun w40 hS => ?_) _
                have HQ := Lib.hid (show Below w3.heap.size w3 _ from hS)
                clear hS
                obtain ⟨w7, rfl⟩ : ∃ x, x = w40 := ⟨_, rfl⟩
                have x3 : w7.cell? ⟨w.heap.size, 3, none⟩ = some (.int .u64 sent) := (HB.out.ca HQ.out).cell 3
                have x1 : w7.cell? ⟨w.heap.size, 1, none⟩ = some (.int .u64 base) := (HB.out.ca HQ.out).cell 1
                have x5 : w7.cell? ⟨w.heap.size, 5, none⟩ = some (.int .i64 timer) := (HB.out.ca HQ.out).cell 5
                go_wp2
                go_ret
                exact ⟨ret_int (by rw [HRR.out, HSB.out, HF.out]; rfl), bl_ca HBB.out HQ.out⟩
            · have e2 : decide (sent ≤ lim) = false := by simpa using d2
              have HF := Lib.hid (show sendM ⟨ses, base, q, sent, lim, timer, false⟩ = false from by unfold sendM; rw [HL.out, ← HEE.out]; simp [d2])
              go_enter Try.func20, Try.ntmps20
              go_wp2_with fail
              generalize w.alloc (.cells #[.int .u32 ses, .int .u64 base, .slice A n c, .int .u64 sent, .int .u64 lim, .int .i64 timer, .bool false] 29) = w1 at *
              refine (HSS.out _).mono ?_
              rintro e w2 ⟨rfl, rfl⟩
              go_wp2_with fail
              refine HIN.out.mono ?_
              rintro e w3 ⟨rfl, q3⟩
              replace HB := Lib.hid (HB.out.ca q3)
              replace HR := Lib.hid (Lay.rd_below HR.out q3)
              replace HBB := Lib.hid (bl_ca HBB.out q3)
              clear q3 x0 x1 x2 HIN
              go_wp2_with fail
              refine wp_region_ps (S := fun _ _ w' => Below w3.heap.size w3 w') (by kernel_rfl) ?spsw79 ?ppsw79
              case spsw79 =>
                exact (Below.refl _ _).drew
              refine Ps.step (i := 0) (d := some 30) (u := ?uw79_79) rfl rfl (by kernel_rfl) (by kernel_rfl) (by kernel_rfl) (by kernel_rfl) ?yw79_79 ?rw79_79
              case yw79_79 =>
                refine StepS.pure (fun _ _ _ h => h) (by rfl) (fun w9 => ?_)
                go_simp
                try rfl
              try simp only [Act.put, List.setIfInBounds_toArray, List.set_cons_zero, List.set_cons_succ]
              refine Ps.step (i := 1) (d := some 31) (u := ?uw79_80) rfl rfl (by kernel_rfl) (by kernel_rfl) (by kernel_rfl) (by kernel_rfl) ?yw79_80 ?rw79_80
              case yw79_80 =>
                refine StepS.pure (fun _ _ _ h => h) (by rfl) (fun w9 => ?_)
                go_simp
                try rfl
              try simp only [Act.put, List.setIfInBounds_toArray, List.set_cons_zero, List.set_cons_succ]
              refine Ps.step (i := 2) (d := some 32) (u := ?uw79_81) rfl rfl (by kernel_rfl) (by kernel_rfl) (by kernel_rfl) (by kernel_rfl) ?yw79_81 ?rw79_81
              case yw79_81 =>
                refine StepS.pure (fun _ _ _ h => h) (by rfl) (fun w9 => ?_)
                go_simp
                try rfl
              try simp only [Act.put, List.setIfInBounds_toArray, List.set_cons_zero, List.set_cons_succ]
              refine Ps.step (i := 3) (d := some 33) (u := ?uw79_82) rfl rfl (by kernel_rfl) (by kernel_rfl) (by kernel_rfl) (by kernel_rfl) ?yw79_82 ?rw79_82
              case yw79_82 =>
                refine StepS.read [] (by kernel_rfl) (fun _ _ _ h => h) (by rfl) (fun L9 m9 w9 hSh hAt hDn hS => ?_)
                have x6 : w9.cell? ⟨w.heap.size, 6, none⟩ = some (.bool false) := (HB.out.ca (show Below _ _ w9 from hS)).cell 6
                clear hS
                go_simp
                try rfl
              try simp only [Act.put, List.setIfInBounds_toArray, List.set_cons_zero, List.set_cons_succ]
              refine Ps.step (i := 4) (d := some 34) (u := ?uw79_83) rfl rfl (by kernel_rfl) (by kernel_rfl) (by kernel_rfl) (by kernel_rfl) ?yw79_83 ?rw79_83
              case yw79_83 =>
                refine StepS.pure (fun _ _ _ h => h) (by rfl) (fun w9 => ?_)
                go_simp
                try rfl
              try simp only [Act.put, List.setIfInBounds_toArray, List.set_cons_zero, List.set_cons_succ]
              refine Ps.step (i := 5) (d := some 35) (u := ?uw79_84) rfl rfl (by kernel_rfl) (by kernel_rfl) (by kernel_rfl) (by kernel_rfl) ?yw79_84 ?rw79_84
              case yw79_84 =>
                refine StepS.pure (fun _ _ _ h => h) (by rfl) (fun w9 => ?_)
                go_simp
                try rfl
              try simp only [Act.put, List.setIfInBounds_toArray, List.set_cons_zero, List.set_cons_succ]
              refine Ps.step (i := 6) (d := some 36) (u := ?uw79_85) rfl rfl (by kernel_rfl) (by kernel_rfl) (by kernel_rfl) (by kernel_rfl) ?yw79_85 ?rw79_85
              case yw79_85 =>
                refine StepS.read [] (by kernel_rfl) (fun _ _ _ h => h) (by rfl) (fun L9 m9 w9 hSh hAt hDn hS => ?_)
                have x2 : w9.cell? ⟨w.heap.size, 2, none⟩ = some (.slice A n c) := (HB.out.ca (show Below _ _ w9 from hS)).cell 2
                clear hS
                go_simp
                try rfl
              try simp only [Act.put, List.setIfInBounds_toArray, List.set_cons_zero, List.set_cons_succ]
              refine Ps.step (i := 7) (d := some 37) (u := (.bool false)) rfl rfl (by kernel_rfl) (by kernel_rfl) (by kernel_rfl) (by kernel_rfl) ?yw79_86 ?rw79_86
              case yw79_86 =>
                refine StepS.call ?fw79_86 ?aw79_86 [] (by kernel_rfl) (by rfl) (fun w9 => ?hw79_86) (fun L9 m9 w9 hSh hAt hDn hS => ?cw79_86)
                case hw79_86 => go_simp; refine ⟨?_, ?_⟩ <;> rfl
                case cw79_86 =>
                  have hT : Below _ _ w9 := hS
                  refine (ends_any F A n c q w9 (Lay.rd_below HR.out hT) hn).mono ?_
                  rintro e w8 ⟨rfl, rfl⟩
                  exact ⟨by rw [HEE.out], hT⟩
              try simp only [Act.put, List.setIfInBounds_toArray, List.set_cons_zero, List.set_cons_succ]
              refine Ps.step (i := 8) (d := some 38) (u := ?uw79_87) rfl rfl (by kernel_rfl) (by kernel_rfl) (by kernel_rfl) (by kernel_rfl) ?yw79_87 ?rw79_87
              case yw79_87 =>
                refine StepS.pure (fun _ _ _ h => h) (by rfl) (fun w9 => ?_)
                go_simp
                try rfl
              try simp only [Act.put, List.setIfInBounds_toArray, List.set_cons_zero, List.set_cons_succ]
              refine Ps.step (i := 9) (d := some 39) (u := ?uw79_88) rfl rfl (by kernel_rfl) (by kernel_rfl) (by kernel_rfl) (by kernel_rfl) ?yw79_88 ?rw79_88
              case yw79_88 =>
                refine StepS.pure (fun _ _ _ h => h) (by rfl) (fun w9 => ?_)
                go_simp
                try rfl
              try simp only [Act.put, List.setIfInBounds_toArray, List.set_cons_zero, List.set_cons_succ]
              refine Ps.step (i := 10) (d := some 40) (u := ?uw79_89) rfl rfl (by kernel_rfl) (by kernel_rfl) (by kernel_rfl) (by kernel_rfl) ?yw79_89 ?rw79_89
              case yw79_89 =>
                refine StepS.pure (fun _ _ _ h => h) (by rfl) (fun w9 => ?_)
                go_simp
                try rfl
              try simp only [Act.put, List.setIfInBounds_toArray, List.set_cons_zero, List.set_cons_succ]
              refine Ps.step (i := 11) (d := some 41) (u := ?uw79_90) rfl rfl (by kernel_rfl) (by kernel_rfl) (by kernel_rfl) (by kernel_rfl) ?yw79_90 ?rw79_90
              case yw79_90 =>
                refine StepS.pure (fun _ _ _ h => h) (by rfl) (fun w9 => ?_)
                go_simp
                try rfl
              try simp only [Act.put, List.setIfInBounds_toArray, List.set_cons_zero, List.set_cons_succ]
              refine Ps.step (i := 12) (d := some 42) (u := ?uw79_91) rfl rfl (by kernel_rfl) (by kernel_rfl) (by kernel_rfl) (by kernel_rfl) ?yw79_91 ?rw79_91
              case yw79_91 =>
                refine StepS.pure (fun _ _ _ h => h) (by rfl) (fun w9 => ?_)
                go_simp
                try rfl
              try simp only [Act.put, List.setIfInBounds_toArray, List.set_cons_zero, List.set_cons_succ]
              refine Ps.step (i := 13) (d := some 43) (u := ?uw79_92) rfl rfl (by kernel_rfl) (by kernel_rfl) (by kernel_rfl) (by kernel_rfl) ?yw79_92 ?rw79_92
              case yw79_92 =>
                refine StepS.read [] (by kernel_rfl) (fun _ _ _ h => h) (by rfl) (fun L9 m9 w9 hSh hAt hDn hS => ?_)
                have x3 : w9.cell? ⟨w.heap.size, 3, none⟩ = some (.int .u64 sent) := (HB.out.ca (show Below _ _ w9 from hS)).cell 3
                clear hS
                go_simp
                try rfl
              try simp only [Act.put, List.setIfInBounds_toArray, List.set_cons_zero, List.set_cons_succ]
              refine Ps.step (i := 14) (d := some 44) (u := ?uw79_93) rfl rfl (by kernel_rfl) (by kernel_rfl) (by kernel_rfl) (by kernel_rfl) ?yw79_93 ?rw79_93
              case yw79_93 =>
                refine StepS.pure (fun _ _ _ h => h) (by rfl) (fun w9 => ?_)
                go_simp
                try rfl
              try simp only [Act.put, List.setIfInBounds_toArray, List.set_cons_zero, List.set_cons_succ]
              refine Ps.step (i := 15) (d := some 45) (u := ?uw79_94) rfl rfl (by kernel_rfl) (by kernel_rfl) (by kernel_rfl) (by kernel_rfl) ?yw79_94 ?rw79_94
              case yw79_94 =>
                refine StepS.read [] (by kernel_rfl) (fun _ _ _ h => h) (by rfl) (fun L9 m9 w9 hSh hAt hDn hS => ?_)
                have x1 : w9.cell? ⟨w.heap.size, 1, none⟩ = some (.int .u64 base) := (HB.out.ca (show Below _ _ w9 from hS)).cell 1
                clear hS
                go_simp
                try rfl
              try simp only [Act.put, List.setIfInBounds_toArray, List.set_cons_zero, List.set_cons_succ]
              refine Ps.step (i := 16) (d := some 46) (u := ?uw79_95) rfl rfl (by kernel_rfl) (by kernel_rfl) (by kernel_rfl) (by kernel_rfl) ?yw79_95 ?rw79_95
              case yw79_95 =>
                refine StepS.pure (fun _ _ _ h => h) (by rfl) (fun w9 => ?_)
                go_simp
                try rfl
              try simp only [Act.put, List.setIfInBounds_toArray, List.set_cons_zero, List.set_cons_succ]
              refine Ps.step (i := 17) (d := some 47) (u := ?uw79_96) rfl rfl (by kernel_rfl) (by kernel_rfl) (by kernel_rfl) (by kernel_rfl) ?yw79_96 ?rw79_96
              case yw79_96 =>
                refine StepS.pure (fun _ _ _ h => h) (by rfl) (fun w9 => ?_)
                go_simp
                try rfl
              try simp only [Act.put, List.setIfInBounds_toArray, List.set_cons_zero, List.set_cons_succ]
              refine Ps.step (i := 18) (d := some 48) (u := ?uw79_97) rfl rfl (by kernel_rfl) (by kernel_rfl) (by kernel_rfl) (by kernel_rfl) ?yw79_97 ?rw79_97
              case yw79_97 =>
                refine StepS.pure (fun _ _ _ h => h) (by rfl) (fun w9 => ?_)
                go_simp
                try rfl
              try simp only [Act.put, List.setIfInBounds_toArray, List.set_cons_zero, List.set_cons_succ]
              refine Ps.step (i := 19) (d := some 49) (u := ?uw79_98) rfl rfl (by kernel_rfl) (by kernel_rfl) (by kernel_rfl) (by kernel_rfl) ?yw79_98 ?rw79_98
              case yw79_98 =>
                refine StepS.pure (fun _ _ _ h => h) (by rfl) (fun w9 => ?_)
                go_simp
                try rfl
              try simp only [Act.put, List.setIfInBounds_toArray, List.set_cons_zero, List.set_cons_succ]
              refine Ps.step (i := 20) (d := some 50) (u := ?uw79_99) rfl rfl (by kernel_rfl) (by kernel_rfl) (by kernel_rfl) (by kernel_rfl) ?yw79_99 ?rw79_99
              case yw79_99 =>
                refine StepS.pure (fun _ _ _ h => h) (by rfl) (fun w9 => ?_)
                go_simp
                try rfl
              try simp only [Act.put, List.setIfInBounds_toArray, List.set_cons_zero, List.set_cons_succ]
              refine Ps.step (i := 21) (d := some 51) (u := ?uw79_100) rfl rfl (by kernel_rfl) (by kernel_rfl) (by kernel_rfl) (by kernel_rfl) ?yw79_100 ?rw79_100
              case yw79_100 =>
                refine StepS.read [] (by kernel_rfl) (fun _ _ _ h => h) (by rfl) (fun L9 m9 w9 hSh hAt hDn hS => ?_)
                have x3 : w9.cell? ⟨w.heap.size, 3, none⟩ = some (.int .u64 sent) := (HB.out.ca (show Below _ _ w9 from hS)).cell 3
                clear hS
                go_simp
                try rfl
              try simp only [Act.put, List.setIfInBounds_toArray, List.set_cons_zero, List.set_cons_succ]
              refine Ps.step (i := 22) (d := some 52) (u := ?uw79_101) rfl rfl (by kernel_rfl) (by kernel_rfl) (by kernel_rfl) (by kernel_rfl) ?yw79_101 ?rw79_101
              case yw79_101 =>
                refine StepS.read [] (by kernel_rfl) (fun _ _ _ h => h) (by rfl) (fun L9 m9 w9 hSh hAt hDn hS => ?_)
                have hT : Below _ _ w9 := hS
                have x0 : w9.cell? ⟨w.heap.size, 0, none⟩ = some (.int .u32 ses) := (HB.out.ca hT).cell 0
                have x1 : w9.cell? ⟨w.heap.size, 1, none⟩ = some (.int .u64 base) := (HB.out.ca hT).cell 1
                have x2 : w9.cell? ⟨w.heap.size, 2, none⟩ = some (.slice A n c) := (HB.out.ca hT).cell 2
                have x3 : w9.cell? ⟨w.heap.size, 3, none⟩ = some (.int .u64 sent) := (HB.out.ca hT).cell 3
                have x4 : w9.cell? ⟨w.heap.size, 4, none⟩ = some (.int .u64 lim) := (HB.out.ca hT).cell 4
                have x5 : w9.cell? ⟨w.heap.size, 5, none⟩ = some (.int .i64 timer) := (HB.out.ca hT).cell 5
                have x6 : w9.cell? ⟨w.heap.size, 6, none⟩ = some (.bool false) := (HB.out.ca hT).cell 6
                clear hT hS
                go_simp
                try rfl
              try simp only [Act.put, List.setIfInBounds_toArray, List.set_cons_zero, List.set_cons_succ]
              refine Ps.step (i := 23) (d := some 53) (u := (.int .u64 (base - 1 + (n : Int)))) rfl rfl (by kernel_rfl) (by kernel_rfl) (by kernel_rfl) (by kernel_rfl) ?yw79_102 ?rw79_102
              case yw79_102 =>
                refine StepS.call ?fw79_102 ?aw79_102 [] (by kernel_rfl) (by rfl) (fun w9 => ?hw79_102) (fun L9 m9 w9 hSh hAt hDn hS => ?cw79_102)
                case hw79_102 => go_simp; refine ⟨?_, ?_⟩ <;> rfl
                case cw79_102 =>
                  have hT : Below _ _ w9 := hS
                  refine (last_any ⟨ses, base, q, sent, lim, timer, false⟩ A n c w9 (by dsimp only; omega) (by dsimp only; omega) (by omega)).mono ?_
                  rintro e w8 ⟨rfl, q8⟩
                  exact ⟨rfl, bl_ca hT q8⟩
              try simp only [Act.put, List.setIfInBounds_toArray, List.set_cons_zero, List.set_cons_succ]
              refine Ps.step (i := 24) (d := some 54) (u := ?uw79_103) rfl rfl (by kernel_rfl) (by kernel_rfl) (by kernel_rfl) (by kernel_rfl) ?yw79_103 ?rw79_103
              case yw79_103 =>
                refine StepS.pure (fun _ _ _ h => h) (by rfl) (fun w9 => ?_)
                go_simp
                try rfl
              try simp only [Act.put, List.setIfInBounds_toArray, List.set_cons_zero, List.set_cons_succ]
              refine Ps.step (i := 25) (d := some 55) (u := ?uw79_104) rfl rfl (by kernel_rfl) (by kernel_rfl) (by kernel_rfl) (by kernel_rfl) ?yw79_104 ?rw79_104
              case yw79_104 =>
                refine StepS.pure (fun _ _ _ h => h) (by rfl) (fun w9 => ?_)
                go_simp
                try rfl
              try simp only [Act.put, List.setIfInBounds_toArray, List.set_cons_zero, List.set_cons_succ]
              refine Ps.step (i := 26) (d := some 56) (u := ?uw79_105) rfl rfl (by kernel_rfl) (by kernel_rfl) (by kernel_rfl) (by kernel_rfl) ?yw79_105 ?rw79_105
              case yw79_105 =>
                refine StepS.pure (fun _ _ _ h => h) (by rfl) (fun w9 => ?_)
                go_simp
                try rfl
              try simp only [Act.put, List.setIfInBounds_toArray, List.set_cons_zero, List.set_cons_succ]
              refine Ps.step (i := 27) (d := some 57) (u := ?uw79_106) rfl rfl (by kernel_rfl) (by kernel_rfl) (by kernel_rfl) (by kernel_rfl) ?yw79_106 ?rw79_106
              case yw79_106 =>
                refine StepS.pure (fun _ _ _ h => h) (by rfl) (fun w9 => ?_)
                go_simp
                try rfl
              try simp only [Act.put, List.setIfInBounds_toArray, List.set_cons_zero, List.set_cons_succ]
              refine Ps.step (i := 28) (d := some 58) (u := ?uw79_107) rfl rfl (by kernel_rfl) (by kernel_rfl) (by kernel_rfl) (by kernel_rfl) ?yw79_107 ?rw79_107
              case yw79_107 =>
                refine StepS.read [] (by kernel_rfl) (fun _ _ _ h => h) (by rfl) (fun L9 m9 w9 hSh hAt hDn hS => ?_)
                have x4 : w9.cell? ⟨w.heap.size, 4, none⟩ = some (.int .u64 lim) := (HB.out.ca (show Below _ _ w9 from hS)).cell 4
                clear hS
                go_simp
                try rfl
              try simp only [Act.put, List.setIfInBounds_toArray, List.set_cons_zero, List.set_cons_succ]
              refine Ps.step (i := 29) (d := some 59) (u := ?uw79_108) rfl rfl (by kernel_rfl) (by kernel_rfl) (by kernel_rfl) (by kernel_rfl) ?yw79_108 ?rw79_108
              case yw79_108 =>
                refine StepS.pure (fun _ _ _ h => h) (by rfl) (fun w9 => ?_)
                go_simp
                try rfl
              try simp only [Act.put, List.setIfInBounds_toArray, List.set_cons_zero, List.set_cons_succ]
              refine Ps.step (i := 30) (d := some 60) (u := ?uw79_109) rfl rfl (by kernel_rfl) (by kernel_rfl) (by kernel_rfl) (by kernel_rfl) ?yw79_109 ?rw79_109
              case yw79_109 =>
                refine StepS.read [] (by kernel_rfl) (fun _ _ _ h => h) (by rfl) (fun L9 m9 w9 hSh hAt hDn hS => ?_)
                have x3 : w9.cell? ⟨w.heap.size, 3, none⟩ = some (.int .u64 sent) := (HB.out.ca (show Below _ _ w9 from hS)).cell 3
                clear hS
                go_simp
                try rfl
              try simp only [Act.put, List.setIfInBounds_toArray, List.set_cons_zero, List.set_cons_succ]
              refine Ps.step (i := 31) (d := some 61) (u := ?uw79_110) rfl rfl (by kernel_rfl) (by kernel_rfl) (by kernel_rfl) (by kernel_rfl) ?yw79_110 ?rw79_110
              case yw79_110 =>
                refine StepS.pure (fun _ _ _ h => h) (by rfl) (fun w9 => ?_)
                go_simp
                try rfl
              try simp only [Act.put, List.setIfInBounds_toArray, List.set_cons_zero, List.set_cons_succ]
              refine Ps.step (i := 32) (d := some 62) (u := ?uw79_111) rfl rfl (by kernel_rfl) (by kernel_rfl) (by kernel_rfl) (by kernel_rfl) ?yw79_111 ?rw79_111
              case yw79_111 =>
                refine StepS.pure (fun _ _ _ h => h) (by rfl) (fun w9 => ?_)
                go_simp
                try rfl
              try simp only [Act.put, List.setIfInBounds_toArray, List.set_cons_zero, List.set_cons_succ]
              refine Ps.step (i := 33) (d := some 63) (u := ?uw79_112) rfl rfl (by kernel_rfl) (by kernel_rfl) (by kernel_rfl) (by kernel_rfl) ?yw79_112 ?rw79_112
              case yw79_112 =>
                refine StepS.pure (fun _ _ _ h => h) (by rfl) (fun w9 => ?_)
                go_simp
                try rfl
              try simp only [Act.put, List.setIfInBounds_toArray, List.set_cons_zero, List.set_cons_succ]
              refine Ps.step (i := 34) (d := some 64) (u := undef) rfl rfl (by kernel_rfl) (by kernel_rfl) (by kernel_rfl) (by kernel_rfl) ?yw79_113 ?rw79_113
              case yw79_113 =>
                exact StepS.skip (fun _ _ _ h => h) (by rfl)
              try simp only [Act.put, List.setIfInBounds_toArray, List.set_cons_zero, List.set_cons_succ]
              refine Ps.step (i := 35) (d := some 65) (u := undef) rfl rfl (by kernel_rfl) (by kernel_rfl) (by kernel_rfl) (by kernel_rfl) ?yw79_114 ?rw79_114
              case yw79_114 =>
                exact StepS.skip (fun _ _ _ h => h) (by rfl)
              try simp only [Act.put, List.setIfInBounds_toArray, List.set_cons_zero, List.set_cons_succ]
              refine Ps.step (i := 36) (d := some 66) (u := undef) rfl rfl (by kernel_rfl) (by kernel_rfl) (by kernel_rfl) (by kernel_rfl) ?yw79_115 ?rw79_115
              case yw79_115 =>
                exact StepS.skip (fun _ _ _ h => h) (by rfl)
              try simp only [Act.put, List.setIfInBounds_toArray, List.set_cons_zero, List.set_cons_succ]
              refine Ps.step (i := 37) (d := some 67) (u := ?uw79_116) rfl rfl (by kernel_rfl) (by kernel_rfl) (by kernel_rfl) (by kernel_rfl) ?yw79_116 ?rw79_116
              case yw79_116 =>
                refine StepS.pure (fun _ _ _ h => h) (by rfl) (fun w9 => ?_)
                go_simp
                try rfl
              try simp only [Act.put, List.setIfInBounds_toArray, List.set_cons_zero, List.set_cons_succ]
              refine Ps.step (i := 38) (d := some 3) (u := ?uw79_117) rfl rfl (by kernel_rfl) (by kernel_rfl) (by kernel_rfl) (by kernel_rfl) ?yw79_117 ?rw79_117
              case yw79_117 =>
                refine StepS.pure (fun _ _ _ h => h) (by rfl) (fun w9 => ?_)
                go_simp
                try rfl
              try simp only [Act.put, List.setIfInBounds_toArray, List.set_cons_zero, List.set_cons_succ]
              refine Ps.done (by kernel_rfl) (fun w79 hS => ?_) _
              have HQ := Lib.hid (show Below w3.heap.size w3 _ from hS)
              clear hS
              obtain ⟨w7, rfl⟩ : ∃ x, x = w79 := ⟨_, rfl⟩
              have x3 : w7.cell? ⟨w.heap.size, 3, none⟩ = some (.int .u64 sent) := (HB.out.ca HQ.out).cell 3
              have x1 : w7.cell? ⟨w.heap.size, 1, none⟩ = some (.int .u64 base) := (HB.out.ca HQ.out).cell 1
              have x5 : w7.cell? ⟨w.heap.size, 5, none⟩ = some (.int .i64 timer) := (HB.out.ca HQ.out).cell 5
              go_wp2
              go_ret
              exact ⟨ret_int (by rw [HRR.out, HSB.out, HF.out]; rfl), bl_ca HBB.out HQ.out⟩
          · have e1 : decide (sent ≤ base - 1 + (n : Int)) = false := by simpa using d1
            have HF := Lib.hid (show sendM ⟨ses, base, q, sent, lim, timer, false⟩ = false from by unfold sendM; rw [HL.out, ← HEE.out]; simp [d1])
            go_enter Try.func20, Try.ntmps20
            go_wp2_with fail
            generalize w.alloc (.cells #[.int .u32 ses, .int .u64 base, .slice A n c, .int .u64 sent, .int .u64 lim, .int .i64 timer, .bool false] 29) = w1 at *
            refine (HSS.out _).mono ?_
            rintro e w2 ⟨rfl, rfl⟩
            go_wp2_with fail
            refine HIN.out.mono ?_
            rintro e w3 ⟨rfl, q3⟩
            replace HB := Lib.hid (HB.out.ca q3)
            replace HR := Lib.hid (Lay.rd_below HR.out q3)
            replace HBB := Lib.hid (bl_ca HBB.out q3)
            clear q3 x0 x1 x2 HIN
            go_wp2_with fail
            refine wp_region_ps (S := fun _ _ w' => Below w3.heap.size w3 w') (by kernel_rfl) ?spsw118 ?ppsw118
            case spsw118 =>
              exact (Below.refl _ _).drew
            refine Ps.step (i := 0) (d := some 30) (u := ?uw118_118) rfl rfl (by kernel_rfl) (by kernel_rfl) (by kernel_rfl) (by kernel_rfl) ?yw118_118 ?rw118_118
            case yw118_118 =>
              refine StepS.pure (fun _ _ _ h => h) (by rfl) (fun w9 => ?_)
              go_simp
              try rfl
            try simp only [Act.put, List.setIfInBounds_toArray, List.set_cons_zero, List.set_cons_succ]
            refine Ps.step (i := 1) (d := some 31) (u := ?uw118_119) rfl rfl (by kernel_rfl) (by kernel_rfl) (by kernel_rfl) (by kernel_rfl) ?yw118_119 ?rw118_119
            case yw118_119 =>
              refine StepS.pure (fun _ _ _ h => h) (by rfl) (fun w9 => ?_)
              go_simp
              try rfl
            try simp only [Act.put, List.setIfInBounds_toArray, List.set_cons_zero, List.set_cons_succ]
            refine Ps.step (i := 2) (d := some 32) (u := ?uw118_120) rfl rfl (by kernel_rfl) (by kernel_rfl) (by kernel_rfl) (by kernel_rfl) ?yw118_120 ?rw118_120
            case yw118_120 =>
              refine StepS.pure (fun _ _ _ h => h) (by rfl) (fun w9 => ?_)
              go_simp
              try rfl
            try simp only [Act.put, List.setIfInBounds_toArray, List.set_cons_zero, List.set_cons_succ]
            refine Ps.step (i := 3) (d := some 33) (u := ?uw118_121) rfl rfl (by kernel_rfl) (by kernel_rfl) (by kernel_rfl) (by kernel_rfl) ?yw118_121 ?rw118_121
            case yw118_121 =>
              refine StepS.read [] (by kernel_rfl) (fun _ _ _ h => h) (by rfl) (fun L9 m9 w9 hSh hAt hDn hS => ?_)
              have x6 : w9.cell? ⟨w.heap.size, 6, none⟩ = some (.bool false) := (HB.out.ca (show Below _ _ w9 from hS)).cell 6
              clear hS
              go_simp
              try rfl
            try simp only [Act.put, List.setIfInBounds_toArray, List.set_cons_zero, List.set_cons_succ]
            refine Ps.step (i := 4) (d := some 34) (u := ?uw118_122) rfl rfl (by kernel_rfl) (by kernel_rfl) (by kernel_rfl) (by kernel_rfl) ?yw118_122 ?rw118_122
            case yw118_122 =>
              refine StepS.pure (fun _ _ _ h => h) (by rfl) (fun w9 => ?_)
              go_simp
              try rfl
            try simp only [Act.put, List.setIfInBounds_toArray, List.set_cons_zero, List.set_cons_succ]
            refine Ps.step (i := 5) (d := some 35) (u := ?uw118_123) rfl rfl (by kernel_rfl) (by kernel_rfl) (by kernel_rfl) (by kernel_rfl) ?yw118_123 ?rw118_123
            case yw118_123 =>
              refine StepS.pure (fun _ _ _ h => h) (by rfl) (fun w9 => ?_)
              go_simp
              try rfl
            try simp only [Act.put, List.setIfInBounds_toArray, List.set_cons_zero, List.set_cons_succ]
            refine Ps.step (i := 6) (d := some 36) (u := ?uw118_124) rfl rfl (by kernel_rfl) (by kernel_rfl) (by kernel_rfl) (by kernel_rfl) ?yw118_124 ?rw118_124
            case yw118_124 =>
              refine StepS.read [] (by kernel_rfl) (fun _ _ _ h => h) (by rfl) (fun L9 m9 w9 hSh hAt hDn hS => ?_)
              have x2 : w9.cell? ⟨w.heap.size, 2, none⟩ = some (.slice A n c) := (HB.out.ca (show Below _ _ w9 from hS)).cell 2
              clear hS
              go_simp
              try rfl
            try simp only [Act.put, List.setIfInBounds_toArray, List.set_cons_zero, List.set_cons_succ]
            refine Ps.step (i := 7) (d := some 37) (u := (.bool false)) rfl rfl (by kernel_rfl) (by kernel_rfl) (by kernel_rfl) (by kernel_rfl) ?yw118_125 ?rw118_125
            case yw118_125 =>
              refine StepS.call ?fw118_125 ?aw118_125 [] (by kernel_rfl) (by rfl) (fun w9 => ?hw118_125) (fun L9 m9 w9 hSh hAt hDn hS => ?cw118_125)
              case hw118_125 => go_simp; refine ⟨?_, ?_⟩ <;> rfl
              case cw118_125 =>
                have hT : Below _ _ w9 := hS
                refine (ends_any F A n c q w9 (Lay.rd_below HR.out hT) hn).mono ?_
                rintro e w8 ⟨rfl, rfl⟩
                exact ⟨by rw [HEE.out], hT⟩
            try simp only [Act.put, List.setIfInBounds_toArray, List.set_cons_zero, List.set_cons_succ]
            refine Ps.step (i := 8) (d := some 38) (u := ?uw118_126) rfl rfl (by kernel_rfl) (by kernel_rfl) (by kernel_rfl) (by kernel_rfl) ?yw118_126 ?rw118_126
            case yw118_126 =>
              refine StepS.pure (fun _ _ _ h => h) (by rfl) (fun w9 => ?_)
              go_simp
              try rfl
            try simp only [Act.put, List.setIfInBounds_toArray, List.set_cons_zero, List.set_cons_succ]
            refine Ps.step (i := 9) (d := some 39) (u := ?uw118_127) rfl rfl (by kernel_rfl) (by kernel_rfl) (by kernel_rfl) (by kernel_rfl) ?yw118_127 ?rw118_127
            case yw118_127 =>
              refine StepS.pure (fun _ _ _ h => h) (by rfl) (fun w9 => ?_)
              go_simp
              try rfl
            try simp only [Act.put, List.setIfInBounds_toArray, List.set_cons_zero, List.set_cons_succ]
            refine Ps.step (i := 10) (d := some 40) (u := ?uw118_128) rfl rfl (by kernel_rfl) (by kernel_rfl) (by kernel_rfl) (by kernel_rfl) ?yw118_128 ?rw118_128
            case yw118_128 =>
              refine StepS.pure (fun _ _ _ h => h) (by rfl) (fun w9 => ?_)
              go_simp
              try rfl
            try simp only [Act.put, List.setIfInBounds_toArray, List.set_cons_zero, List.set_cons_succ]
            refine Ps.step (i := 11) (d := some 41) (u := ?uw118_129) rfl rfl (by kernel_rfl) (by kernel_rfl) (by kernel_rfl) (by kernel_rfl) ?yw118_129 ?rw118_129
            case yw118_129 =>
              refine StepS.pure (fun _ _ _ h => h) (by rfl) (fun w9 => ?_)
              go_simp
              try rfl
            try simp only [Act.put, List.setIfInBounds_toArray, List.set_cons_zero, List.set_cons_succ]
            refine Ps.step (i := 12) (d := some 42) (u := ?uw118_130) rfl rfl (by kernel_rfl) (by kernel_rfl) (by kernel_rfl) (by kernel_rfl) ?yw118_130 ?rw118_130
            case yw118_130 =>
              refine StepS.pure (fun _ _ _ h => h) (by rfl) (fun w9 => ?_)
              go_simp
              try rfl
            try simp only [Act.put, List.setIfInBounds_toArray, List.set_cons_zero, List.set_cons_succ]
            refine Ps.step (i := 13) (d := some 43) (u := ?uw118_131) rfl rfl (by kernel_rfl) (by kernel_rfl) (by kernel_rfl) (by kernel_rfl) ?yw118_131 ?rw118_131
            case yw118_131 =>
              refine StepS.read [] (by kernel_rfl) (fun _ _ _ h => h) (by rfl) (fun L9 m9 w9 hSh hAt hDn hS => ?_)
              have x3 : w9.cell? ⟨w.heap.size, 3, none⟩ = some (.int .u64 sent) := (HB.out.ca (show Below _ _ w9 from hS)).cell 3
              clear hS
              go_simp
              try rfl
            try simp only [Act.put, List.setIfInBounds_toArray, List.set_cons_zero, List.set_cons_succ]
            refine Ps.step (i := 14) (d := some 44) (u := ?uw118_132) rfl rfl (by kernel_rfl) (by kernel_rfl) (by kernel_rfl) (by kernel_rfl) ?yw118_132 ?rw118_132
            case yw118_132 =>
              refine StepS.pure (fun _ _ _ h => h) (by rfl) (fun w9 => ?_)
              go_simp
              try rfl
            try simp only [Act.put, List.setIfInBounds_toArray, List.set_cons_zero, List.set_cons_succ]
            refine Ps.step (i := 15) (d := some 45) (u := ?uw118_133) rfl rfl (by kernel_rfl) (by kernel_rfl) (by kernel_rfl) (by kernel_rfl) ?yw118_133 ?rw118_133
            case yw118_133 =>
              refine StepS.read [] (by kernel_rfl) (fun _ _ _ h => h) (by rfl) (fun L9 m9 w9 hSh hAt hDn hS => ?_)
              have x1 : w9.cell? ⟨w.heap.size, 1, none⟩ = some (.int .u64 base) := (HB.out.ca (show Below _ _ w9 from hS)).cell 1
              clear hS
              go_simp
              try rfl
            try simp only [Act.put, List.setIfInBounds_toArray, List.set_cons_zero, List.set_cons_succ]
            refine Ps.step (i := 16) (d := some 46) (u := ?uw118_134) rfl rfl (by kernel_rfl) (by kernel_rfl) (by kernel_rfl) (by kernel_rfl) ?yw118_134 ?rw118_134
            case yw118_134 =>
              refine StepS.pure (fun _ _ _ h => h) (by rfl) (fun w9 => ?_)
              go_simp
              try rfl
            try simp only [Act.put, List.setIfInBounds_toArray, List.set_cons_zero, List.set_cons_succ]
            refine Ps.step (i := 17) (d := some 47) (u := ?uw118_135) rfl rfl (by kernel_rfl) (by kernel_rfl) (by kernel_rfl) (by kernel_rfl) ?yw118_135 ?rw118_135
            case yw118_135 =>
              refine StepS.pure (fun _ _ _ h => h) (by rfl) (fun w9 => ?_)
              go_simp
              try rfl
            try simp only [Act.put, List.setIfInBounds_toArray, List.set_cons_zero, List.set_cons_succ]
            refine Ps.step (i := 18) (d := some 48) (u := ?uw118_136) rfl rfl (by kernel_rfl) (by kernel_rfl) (by kernel_rfl) (by kernel_rfl) ?yw118_136 ?rw118_136
            case yw118_136 =>
              refine StepS.pure (fun _ _ _ h => h) (by rfl) (fun w9 => ?_)
              go_simp
              try rfl
            try simp only [Act.put, List.setIfInBounds_toArray, List.set_cons_zero, List.set_cons_succ]
            refine Ps.step (i := 19) (d := some 49) (u := ?uw118_137) rfl rfl (by kernel_rfl) (by kernel_rfl) (by kernel_rfl) (by kernel_rfl) ?yw118_137 ?rw118_137
            case yw118_137 =>
              refine StepS.pure (fun _ _ _ h => h) (by rfl) (fun w9 => ?_)
              go_simp
              try rfl
            try simp only [Act.put, List.setIfInBounds_toArray, List.set_cons_zero, List.set_cons_succ]
            refine Ps.step (i := 20) (d := some 50) (u := ?uw118_138) rfl rfl (by kernel_rfl) (by kernel_rfl) (by kernel_rfl) (by kernel_rfl) ?yw118_138 ?rw118_138
            case yw118_138 =>
              refine StepS.pure (fun _ _ _ h => h) (by rfl) (fun w9 => ?_)
              go_simp
              try rfl
            try simp only [Act.put, List.setIfInBounds_toArray, List.set_cons_zero, List.set_cons_succ]
            refine Ps.step (i := 21) (d := some 51) (u := ?uw118_139) rfl rfl (by kernel_rfl) (by kernel_rfl) (by kernel_rfl) (by kernel_rfl) ?yw118_139 ?rw118_139
            case yw118_139 =>
              refine StepS.read [] (by kernel_rfl) (fun _ _ _ h => h) (by rfl) (fun L9 m9 w9 hSh hAt hDn hS => ?_)
              have x3 : w9.cell? ⟨w.heap.size, 3, none⟩ = some (.int .u64 sent) := (HB.out.ca (show Below _ _ w9 from hS)).cell 3
              clear hS
              go_simp
              try rfl
            try simp only [Act.put, List.setIfInBounds_toArray, List.set_cons_zero, List.set_cons_succ]
            refine Ps.step (i := 22) (d := some 52) (u := ?uw118_140) rfl rfl (by kernel_rfl) (by kernel_rfl) (by kernel_rfl) (by kernel_rfl) ?yw118_140 ?rw118_140
            case yw118_140 =>
              refine StepS.read [] (by kernel_rfl) (fun _ _ _ h => h) (by rfl) (fun L9 m9 w9 hSh hAt hDn hS => ?_)
              have hT : Below _ _ w9 := hS
              have x0 : w9.cell? ⟨w.heap.size, 0, none⟩ = some (.int .u32 ses) := (HB.out.ca hT).cell 0
              have x1 : w9.cell? ⟨w.heap.size, 1, none⟩ = some (.int .u64 base) := (HB.out.ca hT).cell 1
              have x2 : w9.cell? ⟨w.heap.size, 2, none⟩ = some (.slice A n c) := (HB.out.ca hT).cell 2
              have x3 : w9.cell? ⟨w.heap.size, 3, none⟩ = some (.int .u64 sent) := (HB.out.ca hT).cell 3
              have x4 : w9.cell? ⟨w.heap.size, 4, none⟩ = some (.int .u64 lim) := (HB.out.ca hT).cell 4
              have x5 : w9.cell? ⟨w.heap.size, 5, none⟩ = some (.int .i64 timer) := (HB.out.ca hT).cell 5
              have x6 : w9.cell? ⟨w.heap.size, 6, none⟩ = some (.bool false) := (HB.out.ca hT).cell 6
              clear hT hS
              go_simp
              try rfl
            try simp only [Act.put, List.setIfInBounds_toArray, List.set_cons_zero, List.set_cons_succ]
            refine Ps.step (i := 23) (d := some 53) (u := (.int .u64 (base - 1 + (n : Int)))) rfl rfl (by kernel_rfl) (by kernel_rfl) (by kernel_rfl) (by kernel_rfl) ?yw118_141 ?rw118_141
            case yw118_141 =>
              refine StepS.call ?fw118_141 ?aw118_141 [] (by kernel_rfl) (by rfl) (fun w9 => ?hw118_141) (fun L9 m9 w9 hSh hAt hDn hS => ?cw118_141)
              case hw118_141 => go_simp; refine ⟨?_, ?_⟩ <;> rfl
              case cw118_141 =>
                have hT : Below _ _ w9 := hS
                refine (last_any ⟨ses, base, q, sent, lim, timer, false⟩ A n c w9 (by dsimp only; omega) (by dsimp only; omega) (by omega)).mono ?_
                rintro e w8 ⟨rfl, q8⟩
                exact ⟨rfl, bl_ca hT q8⟩
            try simp only [Act.put, List.setIfInBounds_toArray, List.set_cons_zero, List.set_cons_succ]
            refine Ps.step (i := 24) (d := some 54) (u := ?uw118_142) rfl rfl (by kernel_rfl) (by kernel_rfl) (by kernel_rfl) (by kernel_rfl) ?yw118_142 ?rw118_142
            case yw118_142 =>
              refine StepS.pure (fun _ _ _ h => h) (by rfl) (fun w9 => ?_)
              go_simp
              try rfl
            try simp only [Act.put, List.setIfInBounds_toArray, List.set_cons_zero, List.set_cons_succ]
            refine Ps.step (i := 25) (d := some 55) (u := ?uw118_143) rfl rfl (by kernel_rfl) (by kernel_rfl) (by kernel_rfl) (by kernel_rfl) ?yw118_143 ?rw118_143
            case yw118_143 =>
              refine StepS.pure (fun _ _ _ h => h) (by rfl) (fun w9 => ?_)
              go_simp
              try rfl
            try simp only [Act.put, List.setIfInBounds_toArray, List.set_cons_zero, List.set_cons_succ]
            refine Ps.step (i := 26) (d := some 56) (u := ?uw118_144) rfl rfl (by kernel_rfl) (by kernel_rfl) (by kernel_rfl) (by kernel_rfl) ?yw118_144 ?rw118_144
            case yw118_144 =>
              refine StepS.pure (fun _ _ _ h => h) (by rfl) (fun w9 => ?_)
              go_simp
              try rfl
            try simp only [Act.put, List.setIfInBounds_toArray, List.set_cons_zero, List.set_cons_succ]
            refine Ps.step (i := 27) (d := some 57) (u := undef) rfl rfl (by kernel_rfl) (by kernel_rfl) (by kernel_rfl) (by kernel_rfl) ?yw118_145 ?rw118_145
            case yw118_145 =>
              exact StepS.skip (fun _ _ _ h => h) (by rfl)
            try simp only [Act.put, List.setIfInBounds_toArray, List.set_cons_zero, List.set_cons_succ]
            refine Ps.step (i := 28) (d := some 58) (u := undef) rfl rfl (by kernel_rfl) (by kernel_rfl) (by kernel_rfl) (by kernel_rfl) ?yw118_146 ?rw118_146
            case yw118_146 =>
              exact StepS.skip (fun _ _ _ h => h) (by rfl)
            try simp only [Act.put, List.setIfInBounds_toArray, List.set_cons_zero, List.set_cons_succ]
            refine Ps.step (i := 29) (d := some 59) (u := undef) rfl rfl (by kernel_rfl) (by kernel_rfl) (by kernel_rfl) (by kernel_rfl) ?yw118_147 ?rw118_147
            case yw118_147 =>
              exact StepS.skip (fun _ _ _ h => h) (by rfl)
            try simp only [Act.put, List.setIfInBounds_toArray, List.set_cons_zero, List.set_cons_succ]
            refine Ps.step (i := 30) (d := some 60) (u := undef) rfl rfl (by kernel_rfl) (by kernel_rfl) (by kernel_rfl) (by kernel_rfl) ?yw118_148 ?rw118_148
            case yw118_148 =>
              exact StepS.skip (fun _ _ _ h => h) (by rfl)
            try simp only [Act.put, List.setIfInBounds_toArray, List.set_cons_zero, List.set_cons_succ]
            refine Ps.step (i := 31) (d := some 61) (u := undef) rfl rfl (by kernel_rfl) (by kernel_rfl) (by kernel_rfl) (by kernel_rfl) ?yw118_149 ?rw118_149
            case yw118_149 =>
              exact StepS.skip (fun _ _ _ h => h) (by rfl)
            try simp only [Act.put, List.setIfInBounds_toArray, List.set_cons_zero, List.set_cons_succ]
            refine Ps.step (i := 32) (d := some 62) (u := ?uw118_150) rfl rfl (by kernel_rfl) (by kernel_rfl) (by kernel_rfl) (by kernel_rfl) ?yw118_150 ?rw118_150
            case yw118_150 =>
              refine StepS.pure (fun _ _ _ h => h) (by rfl) (fun w9 => ?_)
              go_simp
              try rfl
            try simp only [Act.put, List.setIfInBounds_toArray, List.set_cons_zero, List.set_cons_succ]
            refine Ps.step (i := 33) (d := some 63) (u := ?uw118_151) rfl rfl (by kernel_rfl) (by kernel_rfl) (by kernel_rfl) (by kernel_rfl) ?yw118_151 ?rw118_151
            case yw118_151 =>
              refine StepS.pure (fun _ _ _ h => h) (by rfl) (fun w9 => ?_)
              go_simp
              try rfl
            try simp only [Act.put, List.setIfInBounds_toArray, List.set_cons_zero, List.set_cons_succ]
            refine Ps.step (i := 34) (d := some 64) (u := undef) rfl rfl (by kernel_rfl) (by kernel_rfl) (by kernel_rfl) (by kernel_rfl) ?yw118_152 ?rw118_152
            case yw118_152 =>
              exact StepS.skip (fun _ _ _ h => h) (by rfl)
            try simp only [Act.put, List.setIfInBounds_toArray, List.set_cons_zero, List.set_cons_succ]
            refine Ps.step (i := 35) (d := some 65) (u := undef) rfl rfl (by kernel_rfl) (by kernel_rfl) (by kernel_rfl) (by kernel_rfl) ?yw118_153 ?rw118_153
            case yw118_153 =>
              exact StepS.skip (fun _ _ _ h => h) (by rfl)
            try simp only [Act.put, List.setIfInBounds_toArray, List.set_cons_zero, List.set_cons_succ]
            refine Ps.step (i := 36) (d := some 66) (u := undef) rfl rfl (by kernel_rfl) (by kernel_rfl) (by kernel_rfl) (by kernel_rfl) ?yw118_154 ?rw118_154
            case yw118_154 =>
              exact StepS.skip (fun _ _ _ h => h) (by rfl)
            try simp only [Act.put, List.setIfInBounds_toArray, List.set_cons_zero, List.set_cons_succ]
            refine Ps.step (i := 37) (d := some 67) (u := ?uw118_155) rfl rfl (by kernel_rfl) (by kernel_rfl) (by kernel_rfl) (by kernel_rfl) ?yw118_155 ?rw118_155
            case yw118_155 =>
              refine StepS.pure (fun _ _ _ h => h) (by rfl) (fun w9 => ?_)
              go_simp
              try rfl
            try simp only [Act.put, List.setIfInBounds_toArray, List.set_cons_zero, List.set_cons_succ]
            refine Ps.step (i := 38) (d := some 3) (u := ?uw118_156) rfl rfl (by kernel_rfl) (by kernel_rfl) (by kernel_rfl) (by kernel_rfl) ?yw118_156 ?rw118_156
            case yw118_156 =>
              refine StepS.pure (fun _ _ _ h => h) (by rfl) (fun w9 => ?_)
              go_simp
              try rfl
            try simp only [Act.put, List.setIfInBounds_toArray, List.set_cons_zero, List.set_cons_succ]
            refine Ps.done (by kernel_rfl) (fun w118 hS => ?_) _
            have HQ := Lib.hid (show Below w3.heap.size w3 _ from hS)
            clear hS
            obtain ⟨w7, rfl⟩ : ∃ x, x = w118 := ⟨_, rfl⟩
            have x3 : w7.cell? ⟨w.heap.size, 3, none⟩ = some (.int .u64 sent) := (HB.out.ca HQ.out).cell 3
            have x1 : w7.cell? ⟨w.heap.size, 1, none⟩ = some (.int .u64 base) := (HB.out.ca HQ.out).cell 1
            have x5 : w7.cell? ⟨w.heap.size, 5, none⟩ = some (.int .i64 timer) := (HB.out.ca HQ.out).cell 5
            go_wp2
            go_ret
            exact ⟨ret_int (by rw [HRR.out, HSB.out, HF.out]; rfl), bl_ca HBB.out HQ.out⟩
        · have e0 : decide (base - 1 ≤ sent) = false := by simpa using d0
          have HF := Lib.hid (show sendM ⟨ses, base, q, sent, lim, timer, false⟩ = false from by unfold sendM; rw [HL.out, ← HEE.out]; simp [d0])
          go_enter Try.func20, Try.ntmps20
          go_wp2_with fail
          generalize w.alloc (.cells #[.int .u32 ses, .int .u64 base, .slice A n c, .int .u64 sent, .int .u64 lim, .int .i64 timer, .bool false] 29) = w1 at *
          refine (HSS.out _).mono ?_
          rintro e w2 ⟨rfl, rfl⟩
          go_wp2_with fail
          refine HIN.out.mono ?_
          rintro e w3 ⟨rfl, q3⟩
          replace HB := Lib.hid (HB.out.ca q3)
          replace HR := Lib.hid (Lay.rd_below HR.out q3)
          replace HBB := Lib.hid (bl_ca HBB.out q3)
          clear q3 x0 x1 x2 HIN
          go_wp2_with fail
          refine wp_region_ps (S := fun _ _ w' => Below w3.heap.size w3 w') (by kernel_rfl) ?spsw157 ?ppsw157
          case spsw157 =>
            exact (Below.refl _ _).drew
          refine Ps.step (i := 0) (d := some 30) (u := ?uw157_157) rfl rfl (by kernel_rfl) (by kernel_rfl) (by kernel_rfl) (by kernel_rfl) ?yw157_157 ?rw157_157
          case yw157_157 =>
            refine StepS.pure (fun _ _ _ h => h) (by rfl) (fun w9 => ?_)
            go_simp
            try rfl
          try simp only [Act.put, List.setIfInBounds_toArray, List.set_cons_zero, List.set_cons_succ]
          refine Ps.step (i := 1) (d := some 31) (u := ?uw157_158) rfl rfl (by kernel_rfl) (by kernel_rfl) (by kernel_rfl) (by kernel_rfl) ?yw157_158 ?rw157_158
          case yw157_158 =>
            refine StepS.pure (fun _ _ _ h => h) (by rfl) (fun w9 => ?_)
            go_simp
            try rfl
          try simp only [Act.put, List.setIfInBounds_toArray, List.set_cons_zero, List.set_cons_succ]
          refine Ps.step (i := 2) (d := some 32) (u := ?uw157_159) rfl rfl (by kernel_rfl) (by kernel_rfl) (by kernel_rfl) (by kernel_rfl) ?yw157_159 ?rw157_159
          case yw157_159 =>
            refine StepS.pure (fun _ _ _ h => h) (by rfl) (fun w9 => ?_)
            go_simp
            try rfl
          try simp only [Act.put, List.setIfInBounds_toArray, List.set_cons_zero, List.set_cons_succ]
          refine Ps.step (i := 3) (d := some 33) (u := ?uw157_160) rfl rfl (by kernel_rfl) (by kernel_rfl) (by kernel_rfl) (by kernel_rfl) ?yw157_160 ?rw157_160
          case yw157_160 =>
            refine StepS.read [] (by kernel_rfl) (fun _ _ _ h => h) (by rfl) (fun L9 m9 w9 hSh hAt hDn hS => ?_)
            have x6 : w9.cell? ⟨w.heap.size, 6, none⟩ = some (.bool false) := (HB.out.ca (show Below _ _ w9 from hS)).cell 6
            clear hS
            go_simp
            try rfl
          try simp only [Act.put, List.setIfInBounds_toArray, List.set_cons_zero, List.set_cons_succ]
          refine Ps.step (i := 4) (d := some 34) (u := ?uw157_161) rfl rfl (by kernel_rfl) (by kernel_rfl) (by kernel_rfl) (by kernel_rfl) ?yw157_161 ?rw157_161
          case yw157_161 =>
            refine StepS.pure (fun _ _ _ h => h) (by rfl) (fun w9 => ?_)
            go_simp
            try rfl
          try simp only [Act.put, List.setIfInBounds_toArray, List.set_cons_zero, List.set_cons_succ]
          refine Ps.step (i := 5) (d := some 35) (u := ?uw157_162) rfl rfl (by kernel_rfl) (by kernel_rfl) (by kernel_rfl) (by kernel_rfl) ?yw157_162 ?rw157_162
          case yw157_162 =>
            refine StepS.pure (fun _ _ _ h => h) (by rfl) (fun w9 => ?_)
            go_simp
            try rfl
          try simp only [Act.put, List.setIfInBounds_toArray, List.set_cons_zero, List.set_cons_succ]
          refine Ps.step (i := 6) (d := some 36) (u := ?uw157_163) rfl rfl (by kernel_rfl) (by kernel_rfl) (by kernel_rfl) (by kernel_rfl) ?yw157_163 ?rw157_163
          case yw157_163 =>
            refine StepS.read [] (by kernel_rfl) (fun _ _ _ h => h) (by rfl) (fun L9 m9 w9 hSh hAt hDn hS => ?_)
            have x2 : w9.cell? ⟨w.heap.size, 2, none⟩ = some (.slice A n c) := (HB.out.ca (show Below _ _ w9 from hS)).cell 2
            clear hS
            go_simp
            try rfl
          try simp only [Act.put, List.setIfInBounds_toArray, List.set_cons_zero, List.set_cons_succ]
          refine Ps.step (i := 7) (d := some 37) (u := (.bool false)) rfl rfl (by kernel_rfl) (by kernel_rfl) (by kernel_rfl) (by kernel_rfl) ?yw157_164 ?rw157_164
          case yw157_164 =>
            refine StepS.call ?fw157_164 ?aw157_164 [] (by kernel_rfl) (by rfl) (fun w9 => ?hw157_164) (fun L9 m9 w9 hSh hAt hDn hS => ?cw157_164)
            case hw157_164 => go_simp; refine ⟨?_, ?_⟩ <;> rfl
            case cw157_164 =>
              have hT : Below _ _ w9 := hS
              refine (ends_any F A n c q w9 (Lay.rd_below HR.out hT) hn).mono ?_
              rintro e w8 ⟨rfl, rfl⟩
              exact ⟨by rw [HEE.out], hT⟩
          try simp only [Act.put, List.setIfInBounds_toArray, List.set_cons_zero, List.set_cons_succ]
          refine Ps.step (i := 8) (d := some 38) (u := ?uw157_165) rfl rfl (by kernel_rfl) (by kernel_rfl) (by kernel_rfl) (by kernel_rfl) ?yw157_165 ?rw157_165
          case yw157_165 =>
            refine StepS.pure (fun _ _ _ h => h) (by rfl) (fun w9 => ?_)
            go_simp
            try rfl
          try simp only [Act.put, List.setIfInBounds_toArray, List.set_cons_zero, List.set_cons_succ]
          refine Ps.step (i := 9) (d := some 39) (u := ?uw157_166) rfl rfl (by kernel_rfl) (by kernel_rfl) (by kernel_rfl) (by kernel_rfl) ?yw157_166 ?rw157_166
          case yw157_166 =>
            refine StepS.pure (fun _ _ _ h => h) (by rfl) (fun w9 => ?_)
            go_simp
            try rfl
          try simp only [Act.put, List.setIfInBounds_toArray, List.set_cons_zero, List.set_cons_succ]
          refine Ps.step (i := 10) (d := some 40) (u := ?uw157_167) rfl rfl (by kernel_rfl) (by kernel_rfl) (by kernel_rfl) (by kernel_rfl) ?yw157_167 ?rw157_167
          case yw157_167 =>
            refine StepS.pure (fun _ _ _ h => h) (by rfl) (fun w9 => ?_)
            go_simp
            try rfl
          try simp only [Act.put, List.setIfInBounds_toArray, List.set_cons_zero, List.set_cons_succ]
          refine Ps.step (i := 11) (d := some 41) (u := ?uw157_168) rfl rfl (by kernel_rfl) (by kernel_rfl) (by kernel_rfl) (by kernel_rfl) ?yw157_168 ?rw157_168
          case yw157_168 =>
            refine StepS.pure (fun _ _ _ h => h) (by rfl) (fun w9 => ?_)
            go_simp
            try rfl
          try simp only [Act.put, List.setIfInBounds_toArray, List.set_cons_zero, List.set_cons_succ]
          refine Ps.step (i := 12) (d := some 42) (u := ?uw157_169) rfl rfl (by kernel_rfl) (by kernel_rfl) (by kernel_rfl) (by kernel_rfl) ?yw157_169 ?rw157_169
          case yw157_169 =>
            refine StepS.pure (fun _ _ _ h => h) (by rfl) (fun w9 => ?_)
            go_simp
            try rfl
          try simp only [Act.put, List.setIfInBounds_toArray, List.set_cons_zero, List.set_cons_succ]
          refine Ps.step (i := 13) (d := some 43) (u := ?uw157_170) rfl rfl (by kernel_rfl) (by kernel_rfl) (by kernel_rfl) (by kernel_rfl) ?yw157_170 ?rw157_170
          case yw157_170 =>
            refine StepS.read [] (by kernel_rfl) (fun _ _ _ h => h) (by rfl) (fun L9 m9 w9 hSh hAt hDn hS => ?_)
            have x3 : w9.cell? ⟨w.heap.size, 3, none⟩ = some (.int .u64 sent) := (HB.out.ca (show Below _ _ w9 from hS)).cell 3
            clear hS
            go_simp
            try rfl
          try simp only [Act.put, List.setIfInBounds_toArray, List.set_cons_zero, List.set_cons_succ]
          refine Ps.step (i := 14) (d := some 44) (u := ?uw157_171) rfl rfl (by kernel_rfl) (by kernel_rfl) (by kernel_rfl) (by kernel_rfl) ?yw157_171 ?rw157_171
          case yw157_171 =>
            refine StepS.pure (fun _ _ _ h => h) (by rfl) (fun w9 => ?_)
            go_simp
            try rfl
          try simp only [Act.put, List.setIfInBounds_toArray, List.set_cons_zero, List.set_cons_succ]
          refine Ps.step (i := 15) (d := some 45) (u := ?uw157_172) rfl rfl (by kernel_rfl) (by kernel_rfl) (by kernel_rfl) (by kernel_rfl) ?yw157_172 ?rw157_172
          case yw157_172 =>
            refine StepS.read [] (by kernel_rfl) (fun _ _ _ h => h) (by rfl) (fun L9 m9 w9 hSh hAt hDn hS => ?_)
            have x1 : w9.cell? ⟨w.heap.size, 1, none⟩ = some (.int .u64 base) := (HB.out.ca (show Below _ _ w9 from hS)).cell 1
            clear hS
            go_simp
            try rfl
          try simp only [Act.put, List.setIfInBounds_toArray, List.set_cons_zero, List.set_cons_succ]
          refine Ps.step (i := 16) (d := some 46) (u := ?uw157_173) rfl rfl (by kernel_rfl) (by kernel_rfl) (by kernel_rfl) (by kernel_rfl) ?yw157_173 ?rw157_173
          case yw157_173 =>
            refine StepS.pure (fun _ _ _ h => h) (by rfl) (fun w9 => ?_)
            go_simp
            try rfl
          try simp only [Act.put, List.setIfInBounds_toArray, List.set_cons_zero, List.set_cons_succ]
          refine Ps.step (i := 17) (d := some 47) (u := ?uw157_174) rfl rfl (by kernel_rfl) (by kernel_rfl) (by kernel_rfl) (by kernel_rfl) ?yw157_174 ?rw157_174
          case yw157_174 =>
            refine StepS.pure (fun _ _ _ h => h) (by rfl) (fun w9 => ?_)
            go_simp
            try rfl
          try simp only [Act.put, List.setIfInBounds_toArray, List.set_cons_zero, List.set_cons_succ]
          refine Ps.step (i := 18) (d := some 48) (u := ?uw157_175) rfl rfl (by kernel_rfl) (by kernel_rfl) (by kernel_rfl) (by kernel_rfl) ?yw157_175 ?rw157_175
          case yw157_175 =>
            refine StepS.pure (fun _ _ _ h => h) (by rfl) (fun w9 => ?_)
            go_simp
            try rfl
          try simp only [Act.put, List.setIfInBounds_toArray, List.set_cons_zero, List.set_cons_succ]
          refine Ps.step (i := 19) (d := some 49) (u := ?uw157_176) rfl rfl (by kernel_rfl) (by kernel_rfl) (by kernel_rfl) (by kernel_rfl) ?yw157_176 ?rw157_176
          case yw157_176 =>
            refine StepS.pure (fun _ _ _ h => h) (by rfl) (fun w9 => ?_)
            go_simp
            try rfl
          try simp only [Act.put, List.setIfInBounds_toArray, List.set_cons_zero, List.set_cons_succ]
          refine Ps.step (i := 20) (d := some 50) (u := undef) rfl rfl (by kernel_rfl) (by kernel_rfl) (by kernel_rfl) (by kernel_rfl) ?yw157_177 ?rw157_177
          case yw157_177 =>
            exact StepS.skip (fun _ _ _ h => h) (by rfl)
          try simp only [Act.put, List.setIfInBounds_toArray, List.set_cons_zero, List.set_cons_succ]
          refine Ps.step (i := 21) (d := some 51) (u := undef) rfl rfl (by kernel_rfl) (by kernel_rfl) (by kernel_rfl) (by kernel_rfl) ?yw157_178 ?rw157_178
          case yw157_178 =>
            exact StepS.skip (fun _ _ _ h => h) (by rfl)
          try simp only [Act.put, List.setIfInBounds_toArray, List.set_cons_zero, List.set_cons_succ]
          refine Ps.step (i := 22) (d := some 52) (u := undef) rfl rfl (by kernel_rfl) (by kernel_rfl) (by kernel_rfl) (by kernel_rfl) ?yw157_179 ?rw157_179
          case yw157_179 =>
            exact StepS.skip (fun _ _ _ h => h) (by rfl)
          try simp only [Act.put, List.setIfInBounds_toArray, List.set_cons_zero, List.set_cons_succ]
          refine Ps.step (i := 23) (d := some 53) (u := undef) rfl rfl (by kernel_rfl) (by kernel_rfl) (by kernel_rfl) (by kernel_rfl) ?yw157_180 ?rw157_180
          case yw157_180 =>
            exact StepS.skip (fun _ _ _ h => h) (by rfl)
          try simp only [Act.put, List.setIfInBounds_toArray, List.set_cons_zero, List.set_cons_succ]
          refine Ps.step (i := 24) (d := some 54) (u := undef) rfl rfl (by kernel_rfl) (by kernel_rfl) (by kernel_rfl) (by kernel_rfl) ?yw157_181 ?rw157_181
          case yw157_181 =>
            exact StepS.skip (fun _ _ _ h => h) (by rfl)
          try simp only [Act.put, List.setIfInBounds_toArray, List.set_cons_zero, List.set_cons_succ]
          refine Ps.step (i := 25) (d := some 55) (u := ?uw157_182) rfl rfl (by kernel_rfl) (by kernel_rfl) (by kernel_rfl) (by kernel_rfl) ?yw157_182 ?rw157_182
          case yw157_182 =>
            refine StepS.pure (fun _ _ _ h => h) (by rfl) (fun w9 => ?_)
            go_simp
            try rfl
          try simp only [Act.put, List.setIfInBounds_toArray, List.set_cons_zero, List.set_cons_succ]
          refine Ps.step (i := 26) (d := some 56) (u := ?uw157_183) rfl rfl (by kernel_rfl) (by kernel_rfl) (by kernel_rfl) (by kernel_rfl) ?yw157_183 ?rw157_183
          case yw157_183 =>
            refine StepS.pure (fun _ _ _ h => h) (by rfl) (fun w9 => ?_)
            go_simp
            try rfl
          try simp only [Act.put, List.setIfInBounds_toArray, List.set_cons_zero, List.set_cons_succ]
          refine Ps.step (i := 27) (d := some 57) (u := undef) rfl rfl (by kernel_rfl) (by kernel_rfl) (by kernel_rfl) (by kernel_rfl) ?yw157_184 ?rw157_184
          case yw157_184 =>
            exact StepS.skip (fun _ _ _ h => h) (by rfl)
          try simp only [Act.put, List.setIfInBounds_toArray, List.set_cons_zero, List.set_cons_succ]
          refine Ps.step (i := 28) (d := some 58) (u := undef) rfl rfl (by kernel_rfl) (by kernel_rfl) (by kernel_rfl) (by kernel_rfl) ?yw157_185 ?rw157_185
          case yw157_185 =>
            exact StepS.skip (fun _ _ _ h => h) (by rfl)
          try simp only [Act.put, List.setIfInBounds_toArray, List.set_cons_zero, List.set_cons_succ]
          refine Ps.step (i := 29) (d := some 59) (u := undef) rfl rfl (by kernel_rfl) (by kernel_rfl) (by kernel_rfl) (by kernel_rfl) ?yw157_186 ?rw157_186
          case yw157_186 =>
            exact StepS.skip (fun _ _ _ h => h) (by rfl)
          try simp only [Act.put, List.setIfInBounds_toArray, List.set_cons_zero, List.set_cons_succ]
          refine Ps.step (i := 30) (d := some 60) (u := undef) rfl rfl (by kernel_rfl) (by kernel_rfl) (by kernel_rfl) (by kernel_rfl) ?yw157_187 ?rw157_187
          case yw157_187 =>
            exact StepS.skip (fun _ _ _ h => h) (by rfl)
          try simp only [Act.put, List.setIfInBounds_toArray, List.set_cons_zero, List.set_cons_succ]
          refine Ps.step (i := 31) (d := some 61) (u := undef) rfl rfl (by kernel_rfl) (by kernel_rfl) (by kernel_rfl) (by kernel_rfl) ?yw157_188 ?rw157_188
          case yw157_188 =>
            exact StepS.skip (fun _ _ _ h => h) (by rfl)
          try simp only [Act.put, List.setIfInBounds_toArray, List.set_cons_zero, List.set_cons_succ]
          refine Ps.step (i := 32) (d := some 62) (u := ?uw157_189) rfl rfl (by kernel_rfl) (by kernel_rfl) (by kernel_rfl) (by kernel_rfl) ?yw157_189 ?rw157_189
          case yw157_189 =>
            refine StepS.pure (fun _ _ _ h => h) (by rfl) (fun w9 => ?_)
            go_simp
            try rfl
          try simp only [Act.put, List.setIfInBounds_toArray, List.set_cons_zero, List.set_cons_succ]
          refine Ps.step (i := 33) (d := some 63) (u := ?uw157_190) rfl rfl (by kernel_rfl) (by kernel_rfl) (by kernel_rfl) (by kernel_rfl) ?yw157_190 ?rw157_190
          case yw157_190 =>
            refine StepS.pure (fun _ _ _ h => h) (by rfl) (fun w9 => ?_)
            go_simp
            try rfl
          try simp only [Act.put, List.setIfInBounds_toArray, List.set_cons_zero, List.set_cons_succ]
          refine Ps.step (i := 34) (d := some 64) (u := undef) rfl rfl (by kernel_rfl) (by kernel_rfl) (by kernel_rfl) (by kernel_rfl) ?yw157_191 ?rw157_191
          case yw157_191 =>
            exact StepS.skip (fun _ _ _ h => h) (by rfl)
          try simp only [Act.put, List.setIfInBounds_toArray, List.set_cons_zero, List.set_cons_succ]
          refine Ps.step (i := 35) (d := some 65) (u := undef) rfl rfl (by kernel_rfl) (by kernel_rfl) (by kernel_rfl) (by kernel_rfl) ?yw157_192 ?rw157_192
          case yw157_192 =>
            exact StepS.skip (fun _ _ _ h => h) (by rfl)
          try simp only [Act.put, List.setIfInBounds_toArray, List.set_cons_zero, List.set_cons_succ]
          refine Ps.step (i := 36) (d := some 66) (u := undef) rfl rfl (by kernel_rfl) (by kernel_rfl) (by kernel_rfl) (by kernel_rfl) ?yw157_193 ?rw157_193
          case yw157_193 =>
            exact StepS.skip (fun _ _ _ h => h) (by rfl)
          try simp only [Act.put, List.setIfInBounds_toArray, List.set_cons_zero, List.set_cons_succ]
          refine Ps.step (i := 37) (d := some 67) (u := ?uw157_194) rfl rfl (by kernel_rfl) (by kernel_rfl) (by kernel_rfl) (by kernel_rfl) ?yw157_194 ?rw157_194
          case yw157_194 =>
            refine StepS.pure (fun _ _ _ h => h) (by rfl) (fun w9 => ?_)
            go_simp
            try rfl
          try simp only [Act.put, List.setIfInBounds_toArray, List.set_cons_zero, List.set_cons_succ]
          refine Ps.step (i := 38) (d := some 3) (u := ?uw157_195) rfl rfl (by kernel_rfl) (by kernel_rfl) (by kernel_rfl) (by kernel_rfl) ?yw157_195 ?rw157_195
          case yw157_195 =>
            refine StepS.pure (fun _ _ _ h => h) (by rfl) (fun w9 => ?_)
            go_simp
            try rfl
          try simp only [Act.put, List.setIfInBounds_toArray, List.set_cons_zero, List.set_cons_succ]
          refine Ps.done (by kernel_rfl) (fun w157 hS => ?_) _
          have HQ := Lib.hid (show Below w3.heap.size w3 _ from hS)
          clear hS
          obtain ⟨w7, rfl⟩ : ∃ x, x = w157 := ⟨_, rfl⟩
          have x3 : w7.cell? ⟨w.heap.size, 3, none⟩ = some (.int .u64 sent) := (HB.out.ca HQ.out).cell 3
          have x1 : w7.cell? ⟨w.heap.size, 1, none⟩ = some (.int .u64 base) := (HB.out.ca HQ.out).cell 1
          have x5 : w7.cell? ⟨w.heap.size, 5, none⟩ = some (.int .i64 timer) := (HB.out.ca HQ.out).cell 5
          go_wp2
          go_ret
          exact ⟨ret_int (by rw [HRR.out, HSB.out, HF.out]; rfl), bl_ca HBB.out HQ.out⟩
      · have HF := Lib.hid (show sendM ⟨ses, base, q, sent, lim, timer, false⟩ = false from by unfold sendM; rw [← HEE.out]; simp)
        go_enter Try.func20, Try.ntmps20
        go_wp2_with fail
        generalize w.alloc (.cells #[.int .u32 ses, .int .u64 base, .slice A n c, .int .u64 sent, .int .u64 lim, .int .i64 timer, .bool false] 29) = w1 at *
        refine (HSS.out _).mono ?_
        rintro e w2 ⟨rfl, rfl⟩
        go_wp2_with fail
        refine HIN.out.mono ?_
        rintro e w3 ⟨rfl, q3⟩
        replace HB := Lib.hid (HB.out.ca q3)
        replace HR := Lib.hid (Lay.rd_below HR.out q3)
        replace HBB := Lib.hid (bl_ca HBB.out q3)
        clear q3 x0 x1 x2 HIN
        go_wp2_with fail
        refine wp_region_ps (S := fun _ _ w' => Below w3.heap.size w3 w') (by kernel_rfl) ?spsw196 ?ppsw196
        case spsw196 =>
          exact (Below.refl _ _).drew
        refine Ps.step (i := 0) (d := some 30) (u := ?uw196_196) rfl rfl (by kernel_rfl) (by kernel_rfl) (by kernel_rfl) (by kernel_rfl) ?yw196_196 ?rw196_196
        case yw196_196 =>
          refine StepS.pure (fun _ _ _ h => h) (by rfl) (fun w9 => ?_)
          go_simp
          try rfl
        try simp only [Act.put, List.setIfInBounds_toArray, List.set_cons_zero, List.set_cons_succ]
        refine Ps.step (i := 1) (d := some 31) (u := ?uw196_197) rfl rfl (by kernel_rfl) (by kernel_rfl) (by kernel_rfl) (by kernel_rfl) ?yw196_197 ?rw196_197
        case yw196_197 =>
          refine StepS.pure (fun _ _ _ h => h) (by rfl) (fun w9 => ?_)
          go_simp
          try rfl
        try simp only [Act.put, List.setIfInBounds_toArray, List.set_cons_zero, List.set_cons_succ]
        refine Ps.step (i := 2) (d := some 32) (u := ?uw196_198) rfl rfl (by kernel_rfl) (by kernel_rfl) (by kernel_rfl) (by kernel_rfl) ?yw196_198 ?rw196_198
        case yw196_198 =>
          refine StepS.pure (fun _ _ _ h => h) (by rfl) (fun w9 => ?_)
          go_simp
          try rfl
        try simp only [Act.put, List.setIfInBounds_toArray, List.set_cons_zero, List.set_cons_succ]
        refine Ps.step (i := 3) (d := some 33) (u := ?uw196_199) rfl rfl (by kernel_rfl) (by kernel_rfl) (by kernel_rfl) (by kernel_rfl) ?yw196_199 ?rw196_199
        case yw196_199 =>
          refine StepS.read [] (by kernel_rfl) (fun _ _ _ h => h) (by rfl) (fun L9 m9 w9 hSh hAt hDn hS => ?_)
          have x6 : w9.cell? ⟨w.heap.size, 6, none⟩ = some (.bool false) := (HB.out.ca (show Below _ _ w9 from hS)).cell 6
          clear hS
          go_simp
          try rfl
        try simp only [Act.put, List.setIfInBounds_toArray, List.set_cons_zero, List.set_cons_succ]
        refine Ps.step (i := 4) (d := some 34) (u := ?uw196_200) rfl rfl (by kernel_rfl) (by kernel_rfl) (by kernel_rfl) (by kernel_rfl) ?yw196_200 ?rw196_200
        case yw196_200 =>
          refine StepS.pure (fun _ _ _ h => h) (by rfl) (fun w9 => ?_)
          go_simp
          try rfl
        try simp only [Act.put, List.setIfInBounds_toArray, List.set_cons_zero, List.set_cons_succ]
        refine Ps.step (i := 5) (d := some 35) (u := ?uw196_201) rfl rfl (by kernel_rfl) (by kernel_rfl) (by kernel_rfl) (by kernel_rfl) ?yw196_201 ?rw196_201
        case yw196_201 =>
          refine StepS.pure (fun _ _ _ h => h) (by rfl) (fun w9 => ?_)
          go_simp
          try rfl
        try simp only [Act.put, List.setIfInBounds_toArray, List.set_cons_zero, List.set_cons_succ]
        refine Ps.step (i := 6) (d := some 36) (u := ?uw196_202) rfl rfl (by kernel_rfl) (by kernel_rfl) (by kernel_rfl) (by kernel_rfl) ?yw196_202 ?rw196_202
        case yw196_202 =>
          refine StepS.read [] (by kernel_rfl) (fun _ _ _ h => h) (by rfl) (fun L9 m9 w9 hSh hAt hDn hS => ?_)
          have x2 : w9.cell? ⟨w.heap.size, 2, none⟩ = some (.slice A n c) := (HB.out.ca (show Below _ _ w9 from hS)).cell 2
          clear hS
          go_simp
          try rfl
        try simp only [Act.put, List.setIfInBounds_toArray, List.set_cons_zero, List.set_cons_succ]
        refine Ps.step (i := 7) (d := some 37) (u := (.bool true)) rfl rfl (by kernel_rfl) (by kernel_rfl) (by kernel_rfl) (by kernel_rfl) ?yw196_203 ?rw196_203
        case yw196_203 =>
          refine StepS.call ?fw196_203 ?aw196_203 [] (by kernel_rfl) (by rfl) (fun w9 => ?hw196_203) (fun L9 m9 w9 hSh hAt hDn hS => ?cw196_203)
          case hw196_203 => go_simp; refine ⟨?_, ?_⟩ <;> rfl
          case cw196_203 =>
            have hT : Below _ _ w9 := hS
            refine (ends_any F A n c q w9 (Lay.rd_below HR.out hT) hn).mono ?_
            rintro e w8 ⟨rfl, rfl⟩
            exact ⟨by rw [HEE.out], hT⟩
        try simp only [Act.put, List.setIfInBounds_toArray, List.set_cons_zero, List.set_cons_succ]
        refine Ps.step (i := 8) (d := some 38) (u := ?uw196_204) rfl rfl (by kernel_rfl) (by kernel_rfl) (by kernel_rfl) (by kernel_rfl) ?yw196_204 ?rw196_204
        case yw196_204 =>
          refine StepS.pure (fun _ _ _ h => h) (by rfl) (fun w9 => ?_)
          go_simp
          try rfl
        try simp only [Act.put, List.setIfInBounds_toArray, List.set_cons_zero, List.set_cons_succ]
        refine Ps.step (i := 9) (d := some 39) (u := ?uw196_205) rfl rfl (by kernel_rfl) (by kernel_rfl) (by kernel_rfl) (by kernel_rfl) ?yw196_205 ?rw196_205
        case yw196_205 =>
          refine StepS.pure (fun _ _ _ h => h) (by rfl) (fun w9 => ?_)
          go_simp
          try rfl
        try simp only [Act.put, List.setIfInBounds_toArray, List.set_cons_zero, List.set_cons_succ]
        refine Ps.step (i := 10) (d := some 40) (u := ?uw196_206) rfl rfl (by kernel_rfl) (by kernel_rfl) (by kernel_rfl) (by kernel_rfl) ?yw196_206 ?rw196_206
        case yw196_206 =>
          refine StepS.pure (fun _ _ _ h => h) (by rfl) (fun w9 => ?_)
          go_simp
          try rfl
        try simp only [Act.put, List.setIfInBounds_toArray, List.set_cons_zero, List.set_cons_succ]
        refine Ps.step (i := 11) (d := some 41) (u := ?uw196_207) rfl rfl (by kernel_rfl) (by kernel_rfl) (by kernel_rfl) (by kernel_rfl) ?yw196_207 ?rw196_207
        case yw196_207 =>
          refine StepS.pure (fun _ _ _ h => h) (by rfl) (fun w9 => ?_)
          go_simp
          try rfl
        try simp only [Act.put, List.setIfInBounds_toArray, List.set_cons_zero, List.set_cons_succ]
        refine Ps.step (i := 12) (d := some 42) (u := undef) rfl rfl (by kernel_rfl) (by kernel_rfl) (by kernel_rfl) (by kernel_rfl) ?yw196_208 ?rw196_208
        case yw196_208 =>
          exact StepS.skip (fun _ _ _ h => h) (by rfl)
        try simp only [Act.put, List.setIfInBounds_toArray, List.set_cons_zero, List.set_cons_succ]
        refine Ps.step (i := 13) (d := some 43) (u := undef) rfl rfl (by kernel_rfl) (by kernel_rfl) (by kernel_rfl) (by kernel_rfl) ?yw196_209 ?rw196_209
        case yw196_209 =>
          exact StepS.skip (fun _ _ _ h => h) (by rfl)
        try simp only [Act.put, List.setIfInBounds_toArray, List.set_cons_zero, List.set_cons_succ]
        refine Ps.step (i := 14) (d := some 44) (u := undef) rfl rfl (by kernel_rfl) (by kernel_rfl) (by kernel_rfl) (by kernel_rfl) ?yw196_210 ?rw196_210
        case yw196_210 =>
          exact StepS.skip (fun _ _ _ h => h) (by rfl)
        try simp only [Act.put, List.setIfInBounds_toArray, List.set_cons_zero, List.set_cons_succ]
        refine Ps.step (i := 15) (d := some 45) (u := undef) rfl rfl (by kernel_rfl) (by kernel_rfl) (by kernel_rfl) (by kernel_rfl) ?yw196_211 ?rw196_211
        case yw196_211 =>
          exact StepS.skip (fun _ _ _ h => h) (by rfl)
        try simp only [Act.put, List.setIfInBounds_toArray, List.set_cons_zero, List.set_cons_succ]
        refine Ps.step (i := 16) (d := some 46) (u := undef) rfl rfl (by kernel_rfl) (by kernel_rfl) (by kernel_rfl) (by kernel_rfl) ?yw196_212 ?rw196_212
        case yw196_212 =>
          exact StepS.skip (fun _ _ _ h => h) (by rfl)
        try simp only [Act.put, List.setIfInBounds_toArray, List.set_cons_zero, List.set_cons_succ]
        refine Ps.step (i := 17) (d := some 47) (u := undef) rfl rfl (by kernel_rfl) (by kernel_rfl) (by kernel_rfl) (by kernel_rfl) ?yw196_213 ?rw196_213
        case yw196_213 =>
          exact StepS.skip (fun _ _ _ h => h) (by rfl)
        try simp only [Act.put, List.setIfInBounds_toArray, List.set_cons_zero, List.set_cons_succ]
        refine Ps.step (i := 18) (d := some 48) (u := ?uw196_214) rfl rfl (by kernel_rfl) (by kernel_rfl) (by kernel_rfl) (by kernel_rfl) ?yw196_214 ?rw196_214
        case yw196_214 =>
          refine StepS.pure (fun _ _ _ h => h) (by rfl) (fun w9 => ?_)
          go_simp
          try rfl
        try simp only [Act.put, List.setIfInBounds_toArray, List.set_cons_zero, List.set_cons_succ]
        refine Ps.step (i := 19) (d := some 49) (u := ?uw196_215) rfl rfl (by kernel_rfl) (by kernel_rfl) (by kernel_rfl) (by kernel_rfl) ?yw196_215 ?rw196_215
        case yw196_215 =>
          refine StepS.pure (fun _ _ _ h => h) (by rfl) (fun w9 => ?_)
          go_simp
          try rfl
        try simp only [Act.put, List.setIfInBounds_toArray, List.set_cons_zero, List.set_cons_succ]
        refine Ps.step (i := 20) (d := some 50) (u := undef) rfl rfl (by kernel_rfl) (by kernel_rfl) (by kernel_rfl) (by kernel_rfl) ?yw196_216 ?rw196_216
        case yw196_216 =>
          exact StepS.skip (fun _ _ _ h => h) (by rfl)
        try simp only [Act.put, List.setIfInBounds_toArray, List.set_cons_zero, List.set_cons_succ]
        refine Ps.step (i := 21) (d := some 51) (u := undef) rfl rfl (by kernel_rfl) (by kernel_rfl) (by kernel_rfl) (by kernel_rfl) ?yw196_217 ?rw196_217
        case yw196_217 =>
          exact StepS.skip (fun _ _ _ h => h) (by rfl)
        try simp only [Act.put, List.setIfInBounds_toArray, List.set_cons_zero, List.set_cons_succ]
        refine Ps.step (i := 22) (d := some 52) (u := undef) rfl rfl (by kernel_rfl) (by kernel_rfl) (by kernel_rfl) (by kernel_rfl) ?yw196_218 ?rw196_218
        case yw196_218 =>
          exact StepS.skip (fun _ _ _ h => h) (by rfl)
        try simp only [Act.put, List.setIfInBounds_toArray, List.set_cons_zero, List.set_cons_succ]
        refine Ps.step (i := 23) (d := some 53) (u := undef) rfl rfl (by kernel_rfl) (by kernel_rfl) (by kernel_rfl) (by kernel_rfl) ?yw196_219 ?rw196_219
        case yw196_219 =>
          exact StepS.skip (fun _ _ _ h => h) (by rfl)
        try simp only [Act.put, List.setIfInBounds_toArray, List.set_cons_zero, List.set_cons_succ]
        refine Ps.step (i := 24) (d := some 54) (u := undef) rfl rfl (by kernel_rfl) (by kernel_rfl) (by kernel_rfl) (by kernel_rfl) ?yw196_220 ?rw196_220
        case yw196_220 =>
          exact StepS.skip (fun _ _ _ h => h) (by rfl)
        try simp only [Act.put, List.setIfInBounds_toArray, List.set_cons_zero, List.set_cons_succ]
        refine Ps.step (i := 25) (d := some 55) (u := ?uw196_221) rfl rfl (by kernel_rfl) (by kernel_rfl) (by kernel_rfl) (by kernel_rfl) ?yw196_221 ?rw196_221
        case yw196_221 =>
          refine StepS.pure (fun _ _ _ h => h) (by rfl) (fun w9 => ?_)
          go_simp
          try rfl
        try simp only [Act.put, List.setIfInBounds_toArray, List.set_cons_zero, List.set_cons_succ]
        refine Ps.step (i := 26) (d := some 56) (u := ?uw196_222) rfl rfl (by kernel_rfl) (by kernel_rfl) (by kernel_rfl) (by kernel_rfl) ?yw196_222 ?rw196_222
        case yw196_222 =>
          refine StepS.pure (fun _ _ _ h => h) (by rfl) (fun w9 => ?_)
          go_simp
          try rfl
        try simp only [Act.put, List.setIfInBounds_toArray, List.set_cons_zero, List.set_cons_succ]
        refine Ps.step (i := 27) (d := some 57) (u := undef) rfl rfl (by kernel_rfl) (by kernel_rfl) (by kernel_rfl) (by kernel_rfl) ?yw196_223 ?rw196_223
        case yw196_223 =>
          exact StepS.skip (fun _ _ _ h => h) (by rfl)
        try simp only [Act.put, List.setIfInBounds_toArray, List.set_cons_zero, List.set_cons_succ]
        refine Ps.step (i := 28) (d := some 58) (u := undef) rfl rfl (by kernel_rfl) (by kernel_rfl) (by kernel_rfl) (by kernel_rfl) ?yw196_224 ?rw196_224
        case yw196_224 =>
          exact StepS.skip (fun _ _ _ h => h) (by rfl)
        try simp only [Act.put, List.setIfInBounds_toArray, List.set_cons_zero, List.set_cons_succ]
        refine Ps.step (i := 29) (d := some 59) (u := undef) rfl rfl (by kernel_rfl) (by kernel_rfl) (by kernel_rfl) (by kernel_rfl) ?yw196_225 ?rw196_225
        case yw196_225 =>
          exact StepS.skip (fun _ _ _ h => h) (by rfl)
        try simp only [Act.put, List.setIfInBounds_toArray, List.set_cons_zero, List.set_cons_succ]
        refine Ps.step (i := 30) (d := some 60) (u := undef) rfl rfl (by kernel_rfl) (by kernel_rfl) (by kernel_rfl) (by kernel_rfl) ?yw196_226 ?rw196_226
        case yw196_226 =>
          exact StepS.skip (fun _ _ _ h => h) (by rfl)
        try simp only [Act.put, List.setIfInBounds_toArray, List.set_cons_zero, List.set_cons_succ]
        refine Ps.step (i := 31) (d := some 61) (u := undef) rfl rfl (by kernel_rfl) (by kernel_rfl) (by kernel_rfl) (by kernel_rfl) ?yw196_227 ?rw196_227
        case yw196_227 =>
          exact StepS.skip (fun _ _ _ h => h) (by rfl)
        try simp only [Act.put, List.setIfInBounds_toArray, List.set_cons_zero, List.set_cons_succ]
        refine Ps.step (i := 32) (d := some 62) (u := ?uw196_228) rfl rfl (by kernel_rfl) (by kernel_rfl) (by kernel_rfl) (by kernel_rfl) ?yw196_228 ?rw196_228
        case yw196_228 =>
          refine StepS.pure (fun _ _ _ h => h) (by rfl) (fun w9 => ?_)
          go_simp
          try rfl
        try simp only [Act.put, List.setIfInBounds_toArray, List.set_cons_zero, List.set_cons_succ]
        refine Ps.step (i := 33) (d := some 63) (u := ?uw196_229) rfl rfl (by kernel_rfl) (by kernel_rfl) (by kernel_rfl) (by kernel_rfl) ?yw196_229 ?rw196_229
        case yw196_229 =>
          refine StepS.pure (fun _ _ _ h => h) (by rfl) (fun w9 => ?_)
          go_simp
          try rfl
        try simp only [Act.put, List.setIfInBounds_toArray, List.set_cons_zero, List.set_cons_succ]
        refine Ps.step (i := 34) (d := some 64) (u := undef) rfl rfl (by kernel_rfl) (by kernel_rfl) (by kernel_rfl) (by kernel_rfl) ?yw196_230 ?rw196_230
        case yw196_230 =>
          exact StepS.skip (fun _ _ _ h => h) (by rfl)
        try simp only [Act.put, List.setIfInBounds_toArray, List.set_cons_zero, List.set_cons_succ]
        refine Ps.step (i := 35) (d := some 65) (u := undef) rfl rfl (by kernel_rfl) (by kernel_rfl) (by kernel_rfl) (by kernel_rfl) ?yw196_231 ?rw196_231
        case yw196_231 =>
          exact StepS.skip (fun _ _ _ h => h) (by rfl)
        try simp only [Act.put, List.setIfInBounds_toArray, List.set_cons_zero, List.set_cons_succ]
        refine Ps.step (i := 36) (d := some 66) (u := undef) rfl rfl (by kernel_rfl) (by kernel_rfl) (by kernel_rfl) (by kernel_rfl) ?yw196_232 ?rw196_232
        case yw196_232 =>
          exact StepS.skip (fun _ _ _ h => h) (by rfl)
        try simp only [Act.put, List.setIfInBounds_toArray, List.set_cons_zero, List.set_cons_succ]
        refine Ps.step (i := 37) (d := some 67) (u := ?uw196_233) rfl rfl (by kernel_rfl) (by kernel_rfl) (by kernel_rfl) (by kernel_rfl) ?yw196_233 ?rw196_233
        case yw196_233 =>
          refine StepS.pure (fun _ _ _ h => h) (by rfl) (fun w9 => ?_)
          go_simp
          try rfl
        try simp only [Act.put, List.setIfInBounds_toArray, List.set_cons_zero, List.set_cons_succ]
        refine Ps.step (i := 38) (d := some 3) (u := ?uw196_234) rfl rfl (by kernel_rfl) (by kernel_rfl) (by kernel_rfl) (by kernel_rfl) ?yw196_234 ?rw196_234
        case yw196_234 =>
          refine StepS.pure (fun _ _ _ h => h) (by rfl) (fun w9 => ?_)
          go_simp
          try rfl
        try simp only [Act.put, List.setIfInBounds_toArray, List.set_cons_zero, List.set_cons_succ]
        refine Ps.done (by kernel_rfl) (fun w196 hS => ?_) _
        have HQ := Lib.hid (show Below w3.heap.size w3 _ from hS)
        clear hS
        obtain ⟨w7, rfl⟩ : ∃ x, x = w196 := ⟨_, rfl⟩
        have x3 : w7.cell? ⟨w.heap.size, 3, none⟩ = some (.int .u64 sent) := (HB.out.ca HQ.out).cell 3
        have x1 : w7.cell? ⟨w.heap.size, 1, none⟩ = some (.int .u64 base) := (HB.out.ca HQ.out).cell 1
        have x5 : w7.cell? ⟨w.heap.size, 5, none⟩ = some (.int .i64 timer) := (HB.out.ca HQ.out).cell 5
        go_wp2
        go_ret
        exact ⟨ret_int (by rw [HRR.out, HSB.out, HF.out]; rfl), bl_ca HBB.out HQ.out⟩
    · skip
      by_cases d0 : base - 1 ≤ sent
      · have e0 : decide (base - 1 ≤ sent) = true := by simpa using d0
        by_cases d1 : sent ≤ base - 1 + (n : Int)
        · have e1 : decide (sent ≤ base - 1 + (n : Int)) = true := by simpa using d1
          by_cases d2 : sent ≤ lim
          · have e2 : decide (sent ≤ lim) = true := by simpa using d2
            by_cases d3 : lim ≤ 1099511627776
            · have e3 : decide (lim ≤ 1099511627776) = true := by simpa using d3
              have HM := Lib.hid (show sendM ⟨ses, base, q, sent, lim, timer, true⟩ = true from by unfold sendM; rw [HL.out, ← HEE.out]; simp [d0, d1, d2, d3])
              have HT := Lib.hid (show sendT ⟨ses, base, q, sent, lim, timer, true⟩ = (decide (0 ≤ timer) && decide (timer < 3) && (decide (timer ≤ 0) || decide (base ≤ sent))) from rfl)
              go_enter Try.func20, Try.ntmps20
              go_wp2_with fail
              generalize w.alloc (.cells #[.int .u32 ses, .int .u64 base, .slice A n c, .int .u64 sent, .int .u64 lim, .int .i64 timer, .bool true] 29) = w1 at *
              refine (HSS.out _).mono ?_
              rintro e w2 ⟨rfl, rfl⟩
              go_wp2_with fail
              refine HIN.out.mono ?_
              rintro e w3 ⟨rfl, q3⟩
              replace HB := Lib.hid (HB.out.ca q3)
              replace HR := Lib.hid (Lay.rd_below HR.out q3)
              replace HBB := Lib.hid (bl_ca HBB.out q3)
              clear q3 x0 x1 x2 HIN
              go_wp2_with fail
              refine wp_region_ps (S := fun _ _ w' => Below w3.heap.size w3 w') (by kernel_rfl) ?spsw235 ?ppsw235
              case spsw235 =>
                exact (Below.refl _ _).drew
              refine Ps.step (i := 0) (d := some 30) (u := ?uw235_235) rfl rfl (by kernel_rfl) (by kernel_rfl) (by kernel_rfl) (by kernel_rfl) ?yw235_235 ?rw235_235
              case yw235_235 =>
                refine StepS.pure (fun _ _ _ h => h) (by rfl) (fun w9 => ?_)
                go_simp
                try rfl
              try simp only [Act.put, List.setIfInBounds_toArray, List.set_cons_zero, List.set_cons_succ]
              refine Ps.step (i := 1) (d := some 31) (u := ?uw235_236) rfl rfl (by kernel_rfl) (by kernel_rfl) (by kernel_rfl) (by kernel_rfl) ?yw235_236 ?rw235_236
              case yw235_236 =>
                refine StepS.pure (fun _ _ _ h => h) (by rfl) (fun w9 => ?_)
                go_simp
                try rfl
              try simp only [Act.put, List.setIfInBounds_toArray, List.set_cons_zero, List.set_cons_succ]
              refine Ps.step (i := 2) (d := some 32) (u := ?uw235_237) rfl rfl (by kernel_rfl) (by kernel_rfl) (by kernel_rfl) (by kernel_rfl) ?yw235_237 ?rw235_237
              case yw235_237 =>
                refine StepS.pure (fun _ _ _ h => h) (by rfl) (fun w9 => ?_)
                go_simp
                try rfl
              try simp only [Act.put, List.setIfInBounds_toArray, List.set_cons_zero, List.set_cons_succ]
              refine Ps.step (i := 3) (d := some 33) (u := ?uw235_238) rfl rfl (by kernel_rfl) (by kernel_rfl) (by kernel_rfl) (by kernel_rfl) ?yw235_238 ?rw235_238
              case yw235_238 =>
                refine StepS.read [] (by kernel_rfl) (fun _ _ _ h => h) (by rfl) (fun L9 m9 w9 hSh hAt hDn hS => ?_)
                have x6 : w9.cell? ⟨w.heap.size, 6, none⟩ = some (.bool true) := (HB.out.ca (show Below _ _ w9 from hS)).cell 6
                clear hS
                go_simp
                try rfl
              try simp only [Act.put, List.setIfInBounds_toArray, List.set_cons_zero, List.set_cons_succ]
              refine Ps.step (i := 4) (d := some 34) (u := ?uw235_239) rfl rfl (by kernel_rfl) (by kernel_rfl) (by kernel_rfl) (by kernel_rfl) ?yw235_239 ?rw235_239
              case yw235_239 =>
                refine StepS.pure (fun _ _ _ h => h) (by rfl) (fun w9 => ?_)
                go_simp
                try rfl
              try simp only [Act.put, List.setIfInBounds_toArray, List.set_cons_zero, List.set_cons_succ]
              refine Ps.step (i := 5) (d := some 35) (u := undef) rfl rfl (by kernel_rfl) (by kernel_rfl) (by kernel_rfl) (by kernel_rfl) ?yw235_240 ?rw235_240
              case yw235_240 =>
                exact StepS.skip (fun _ _ _ h => h) (by rfl)
              try simp only [Act.put, List.setIfInBounds_toArray, List.set_cons_zero, List.set_cons_succ]
              refine Ps.step (i := 6) (d := some 36) (u := undef) rfl rfl (by kernel_rfl) (by kernel_rfl) (by kernel_rfl) (by kernel_rfl) ?yw235_241 ?rw235_241
              case yw235_241 =>
                exact StepS.skip (fun _ _ _ h => h) (by rfl)
              try simp only [Act.put, List.setIfInBounds_toArray, List.set_cons_zero, List.set_cons_succ]
              refine Ps.step (i := 7) (d := some 37) (u := undef) rfl rfl (by kernel_rfl) (by kernel_rfl) (by kernel_rfl) (by kernel_rfl) ?yw235_242 ?rw235_242
              case yw235_242 =>
                exact StepS.skip (fun _ _ _ h => h) (by rfl)
              try simp only [Act.put, List.setIfInBounds_toArray, List.set_cons_zero, List.set_cons_succ]
              refine Ps.step (i := 8) (d := some 38) (u := undef) rfl rfl (by kernel_rfl) (by kernel_rfl) (by kernel_rfl) (by kernel_rfl) ?yw235_243 ?rw235_243
              case yw235_243 =>
                exact StepS.skip (fun _ _ _ h => h) (by rfl)
              try simp only [Act.put, List.setIfInBounds_toArray, List.set_cons_zero, List.set_cons_succ]
              refine Ps.step (i := 9) (d := some 39) (u := ?uw235_244) rfl rfl (by kernel_rfl) (by kernel_rfl) (by kernel_rfl) (by kernel_rfl) ?yw235_244 ?rw235_244
              case yw235_244 =>
                refine StepS.pure (fun _ _ _ h => h) (by rfl) (fun w9 => ?_)
                go_simp
                try rfl
              try simp only [Act.put, List.setIfInBounds_toArray, List.set_cons_zero, List.set_cons_succ]
              refine Ps.step (i := 10) (d := some 40) (u := ?uw235_245) rfl rfl (by kernel_rfl) (by kernel_rfl) (by kernel_rfl) (by kernel_rfl) ?yw235_245 ?rw235_245
              case yw235_245 =>
                refine StepS.pure (fun _ _ _ h => h) (by rfl) (fun w9 => ?_)
                go_simp
                try rfl
              try simp only [Act.put, List.setIfInBounds_toArray, List.set_cons_zero, List.set_cons_succ]
              refine Ps.step (i := 11) (d := some 41) (u := ?uw235_246) rfl rfl (by kernel_rfl) (by kernel_rfl) (by kernel_rfl) (by kernel_rfl) ?yw235_246 ?rw235_246
              case yw235_246 =>
                refine StepS.pure (fun _ _ _ h => h) (by rfl) (fun w9 => ?_)
                go_simp
                try rfl
              try simp only [Act.put, List.setIfInBounds_toArray, List.set_cons_zero, List.set_cons_succ]
              refine Ps.step (i := 12) (d := some 42) (u := ?uw235_247) rfl rfl (by kernel_rfl) (by kernel_rfl) (by kernel_rfl) (by kernel_rfl) ?yw235_247 ?rw235_247
              case yw235_247 =>
                refine StepS.pure (fun _ _ _ h => h) (by rfl) (fun w9 => ?_)
                go_simp
                try rfl
              try simp only [Act.put, List.setIfInBounds_toArray, List.set_cons_zero, List.set_cons_succ]
              refine Ps.step (i := 13) (d := some 43) (u := ?uw235_248) rfl rfl (by kernel_rfl) (by kernel_rfl) (by kernel_rfl) (by kernel_rfl) ?yw235_248 ?rw235_248
              case yw235_248 =>
                refine StepS.read [] (by kernel_rfl) (fun _ _ _ h => h) (by rfl) (fun L9 m9 w9 hSh hAt hDn hS => ?_)
                have x3 : w9.cell? ⟨w.heap.size, 3, none⟩ = some (.int .u64 sent) := (HB.out.ca (show Below _ _ w9 from hS)).cell 3
                clear hS
                go_simp
                try rfl
              try simp only [Act.put, List.setIfInBounds_toArray, List.set_cons_zero, List.set_cons_succ]
              refine Ps.step (i := 14) (d := some 44) (u := ?uw235_249) rfl rfl (by kernel_rfl) (by kernel_rfl) (by kernel_rfl) (by kernel_rfl) ?yw235_249 ?rw235_249
              case yw235_249 =>
                refine StepS.pure (fun _ _ _ h => h) (by rfl) (fun w9 => ?_)
                go_simp
                try rfl
              try simp only [Act.put, List.setIfInBounds_toArray, List.set_cons_zero, List.set_cons_succ]
              refine Ps.step (i := 15) (d := some 45) (u := ?uw235_250) rfl rfl (by kernel_rfl) (by kernel_rfl) (by kernel_rfl) (by kernel_rfl) ?yw235_250 ?rw235_250
              case yw235_250 =>
                refine StepS.read [] (by kernel_rfl) (fun _ _ _ h => h) (by rfl) (fun L9 m9 w9 hSh hAt hDn hS => ?_)
                have x1 : w9.cell? ⟨w.heap.size, 1, none⟩ = some (.int .u64 base) := (HB.out.ca (show Below _ _ w9 from hS)).cell 1
                clear hS
                go_simp
                try rfl
              try simp only [Act.put, List.setIfInBounds_toArray, List.set_cons_zero, List.set_cons_succ]
              refine Ps.step (i := 16) (d := some 46) (u := ?uw235_251) rfl rfl (by kernel_rfl) (by kernel_rfl) (by kernel_rfl) (by kernel_rfl) ?yw235_251 ?rw235_251
              case yw235_251 =>
                refine StepS.pure (fun _ _ _ h => h) (by rfl) (fun w9 => ?_)
                go_simp
                try rfl
              try simp only [Act.put, List.setIfInBounds_toArray, List.set_cons_zero, List.set_cons_succ]
              refine Ps.step (i := 17) (d := some 47) (u := ?uw235_252) rfl rfl (by kernel_rfl) (by kernel_rfl) (by kernel_rfl) (by kernel_rfl) ?yw235_252 ?rw235_252
              case yw235_252 =>
                refine StepS.pure (fun _ _ _ h => h) (by rfl) (fun w9 => ?_)
                go_simp
                try rfl
              try simp only [Act.put, List.setIfInBounds_toArray, List.set_cons_zero, List.set_cons_succ]
              refine Ps.step (i := 18) (d := some 48) (u := ?uw235_253) rfl rfl (by kernel_rfl) (by kernel_rfl) (by kernel_rfl) (by kernel_rfl) ?yw235_253 ?rw235_253
              case yw235_253 =>
                refine StepS.pure (fun _ _ _ h => h) (by rfl) (fun w9 => ?_)
                go_simp
                try rfl
              try simp only [Act.put, List.setIfInBounds_toArray, List.set_cons_zero, List.set_cons_succ]
              refine Ps.step (i := 19) (d := some 49) (u := ?uw235_254) rfl rfl (by kernel_rfl) (by kernel_rfl) (by kernel_rfl) (by kernel_rfl) ?yw235_254 ?rw235_254
              case yw235_254 =>
                refine StepS.pure (fun _ _ _ h => h) (by rfl) (fun w9 => ?_)
                go_simp
                try rfl
              try simp only [Act.put, List.setIfInBounds_toArray, List.set_cons_zero, List.set_cons_succ]
              refine Ps.step (i := 20) (d := some 50) (u := ?uw235_255) rfl rfl (by kernel_rfl) (by kernel_rfl) (by kernel_rfl) (by kernel_rfl) ?yw235_255 ?rw235_255
              case yw235_255 =>
                refine StepS.pure (fun _ _ _ h => h) (by rfl) (fun w9 => ?_)
                go_simp
                try rfl
              try simp only [Act.put, List.setIfInBounds_toArray, List.set_cons_zero, List.set_cons_succ]
              refine Ps.step (i := 21) (d := some 51) (u := ?uw235_256) rfl rfl (by kernel_rfl) (by kernel_rfl) (by kernel_rfl) (by kernel_rfl) ?yw235_256 ?rw235_256
              case yw235_256 =>
                refine StepS.read [] (by kernel_rfl) (fun _ _ _ h => h) (by rfl) (fun L9 m9 w9 hSh hAt hDn hS => ?_)
                have x3 : w9.cell? ⟨w.heap.size, 3, none⟩ = some (.int .u64 sent) := (HB.out.ca (show Below _ _ w9 from hS)).cell 3
                clear hS
                go_simp
                try rfl
              try simp only [Act.put, List.setIfInBounds_toArray, List.set_cons_zero, List.set_cons_succ]
              refine Ps.step (i := 22) (d := some 52) (u := ?uw235_257) rfl rfl (by kernel_rfl) (by kernel_rfl) (by kernel_rfl) (by kernel_rfl) ?yw235_257 ?rw235_257
              case yw235_257 =>
                refine StepS.read [] (by kernel_rfl) (fun _ _ _ h => h) (by rfl) (fun L9 m9 w9 hSh hAt hDn hS => ?_)
                have hT : Below _ _ w9 := hS
                have x0 : w9.cell? ⟨w.heap.size, 0, none⟩ = some (.int .u32 ses) := (HB.out.ca hT).cell 0
                have x1 : w9.cell? ⟨w.heap.size, 1, none⟩ = some (.int .u64 base) := (HB.out.ca hT).cell 1
                have x2 : w9.cell? ⟨w.heap.size, 2, none⟩ = some (.slice A n c) := (HB.out.ca hT).cell 2
                have x3 : w9.cell? ⟨w.heap.size, 3, none⟩ = some (.int .u64 sent) := (HB.out.ca hT).cell 3
                have x4 : w9.cell? ⟨w.heap.size, 4, none⟩ = some (.int .u64 lim) := (HB.out.ca hT).cell 4
                have x5 : w9.cell? ⟨w.heap.size, 5, none⟩ = some (.int .i64 timer) := (HB.out.ca hT).cell 5
                have x6 : w9.cell? ⟨w.heap.size, 6, none⟩ = some (.bool true) := (HB.out.ca hT).cell 6
                clear hT hS
                go_simp
                try rfl
              try simp only [Act.put, List.setIfInBounds_toArray, List.set_cons_zero, List.set_cons_succ]
              refine Ps.step (i := 23) (d := some 53) (u := (.int .u64 (base - 1 + (n : Int)))) rfl rfl (by kernel_rfl) (by kernel_rfl) (by kernel_rfl) (by kernel_rfl) ?yw235_258 ?rw235_258
              case yw235_258 =>
                refine StepS.call ?fw235_258 ?aw235_258 [] (by kernel_rfl) (by rfl) (fun w9 => ?hw235_258) (fun L9 m9 w9 hSh hAt hDn hS => ?cw235_258)
                case hw235_258 => go_simp; refine ⟨?_, ?_⟩ <;> rfl
                case cw235_258 =>
                  have hT : Below _ _ w9 := hS
                  refine (last_any ⟨ses, base, q, sent, lim, timer, true⟩ A n c w9 (by dsimp only; omega) (by dsimp only; omega) (by omega)).mono ?_
                  rintro e w8 ⟨rfl, q8⟩
                  exact ⟨rfl, bl_ca hT q8⟩
              try simp only [Act.put, List.setIfInBounds_toArray, List.set_cons_zero, List.set_cons_succ]
              refine Ps.step (i := 24) (d := some 54) (u := ?uw235_259) rfl rfl (by kernel_rfl) (by kernel_rfl) (by kernel_rfl) (by kernel_rfl) ?yw235_259 ?rw235_259
              case yw235_259 =>
                refine StepS.pure (fun _ _ _ h => h) (by rfl) (fun w9 => ?_)
                go_simp
                try rfl
              try simp only [Act.put, List.setIfInBounds_toArray, List.set_cons_zero, List.set_cons_succ]
              refine Ps.step (i := 25) (d := some 55) (u := ?uw235_260) rfl rfl (by kernel_rfl) (by kernel_rfl) (by kernel_rfl) (by kernel_rfl) ?yw235_260 ?rw235_260
              case yw235_260 =>
                refine StepS.pure (fun _ _ _ h => h) (by rfl) (fun w9 => ?_)
                go_simp
                try rfl
              try simp only [Act.put, List.setIfInBounds_toArray, List.set_cons_zero, List.set_cons_succ]
              refine Ps.step (i := 26) (d := some 56) (u := ?uw235_261) rfl rfl (by kernel_rfl) (by kernel_rfl) (by kernel_rfl) (by kernel_rfl) ?yw235_261 ?rw235_261
              case yw235_261 =>
                refine StepS.pure (fun _ _ _ h => h) (by rfl) (fun w9 => ?_)
                go_simp
                try rfl
              try simp only [Act.put, List.setIfInBounds_toArray, List.set_cons_zero, List.set_cons_succ]
              refine Ps.step (i := 27) (d := some 57) (u := ?uw235_262) rfl rfl (by kernel_rfl) (by kernel_rfl) (by kernel_rfl) (by kernel_rfl) ?yw235_262 ?rw235_262
              case yw235_262 =>
                refine StepS.pure (fun _ _ _ h => h) (by rfl) (fun w9 => ?_)
                go_simp
                try rfl
              try simp only [Act.put, List.setIfInBounds_toArray, List.set_cons_zero, List.set_cons_succ]
              refine Ps.step (i := 28) (d := some 58) (u := ?uw235_263) rfl rfl (by kernel_rfl) (by kernel_rfl) (by kernel_rfl) (by kernel_rfl) ?yw235_263 ?rw235_263
              case yw235_263 =>
                refine StepS.read [] (by kernel_rfl) (fun _ _ _ h => h) (by rfl) (fun L9 m9 w9 hSh hAt hDn hS => ?_)
                have x4 : w9.cell? ⟨w.heap.size, 4, none⟩ = some (.int .u64 lim) := (HB.out.ca (show Below _ _ w9 from hS)).cell 4
                clear hS
                go_simp
                try rfl
              try simp only [Act.put, List.setIfInBounds_toArray, List.set_cons_zero, List.set_cons_succ]
              refine Ps.step (i := 29) (d := some 59) (u := ?uw235_264) rfl rfl (by kernel_rfl) (by kernel_rfl) (by kernel_rfl) (by kernel_rfl) ?yw235_264 ?rw235_264
              case yw235_264 =>
                refine StepS.pure (fun _ _ _ h => h) (by rfl) (fun w9 => ?_)
                go_simp
                try rfl
              try simp only [Act.put, List.setIfInBounds_toArray, List.set_cons_zero, List.set_cons_succ]
              refine Ps.step (i := 30) (d := some 60) (u := ?uw235_265) rfl rfl (by kernel_rfl) (by kernel_rfl) (by kernel_rfl) (by kernel_rfl) ?yw235_265 ?rw235_265
              case yw235_265 =>
                refine StepS.read [] (by kernel_rfl) (fun _ _ _ h => h) (by rfl) (fun L9 m9 w9 hSh hAt hDn hS => ?_)
                have x3 : w9.cell? ⟨w.heap.size, 3, none⟩ = some (.int .u64 sent) := (HB.out.ca (show Below _ _ w9 from hS)).cell 3
                clear hS
                go_simp
                try rfl
              try simp only [Act.put, List.setIfInBounds_toArray, List.set_cons_zero, List.set_cons_succ]
              refine Ps.step (i := 31) (d := some 61) (u := ?uw235_266) rfl rfl (by kernel_rfl) (by kernel_rfl) (by kernel_rfl) (by kernel_rfl) ?yw235_266 ?rw235_266
              case yw235_266 =>
                refine StepS.pure (fun _ _ _ h => h) (by rfl) (fun w9 => ?_)
                go_simp
                try rfl
              try simp only [Act.put, List.setIfInBounds_toArray, List.set_cons_zero, List.set_cons_succ]
              refine Ps.step (i := 32) (d := some 62) (u := ?uw235_267) rfl rfl (by kernel_rfl) (by kernel_rfl) (by kernel_rfl) (by kernel_rfl) ?yw235_267 ?rw235_267
              case yw235_267 =>
                refine StepS.pure (fun _ _ _ h => h) (by rfl) (fun w9 => ?_)
                go_simp
                try rfl
              try simp only [Act.put, List.setIfInBounds_toArray, List.set_cons_zero, List.set_cons_succ]
              refine Ps.step (i := 33) (d := some 63) (u := ?uw235_268) rfl rfl (by kernel_rfl) (by kernel_rfl) (by kernel_rfl) (by kernel_rfl) ?yw235_268 ?rw235_268
              case yw235_268 =>
                refine StepS.pure (fun _ _ _ h => h) (by rfl) (fun w9 => ?_)
                go_simp
                try rfl
              try simp only [Act.put, List.setIfInBounds_toArray, List.set_cons_zero, List.set_cons_succ]
              refine Ps.step (i := 34) (d := some 64) (u := ?uw235_269) rfl rfl (by kernel_rfl) (by kernel_rfl) (by kernel_rfl) (by kernel_rfl) ?yw235_269 ?rw235_269
              case yw235_269 =>
                refine StepS.pure (fun _ _ _ h => h) (by rfl) (fun w9 => ?_)
                go_simp
                try rfl
              try simp only [Act.put, List.setIfInBounds_toArray, List.set_cons_zero, List.set_cons_succ]
              refine Ps.step (i := 35) (d := some 65) (u := ?uw235_270) rfl rfl (by kernel_rfl) (by kernel_rfl) (by kernel_rfl) (by kernel_rfl) ?yw235_270 ?rw235_270
              case yw235_270 =>
                refine StepS.read [] (by kernel_rfl) (fun _ _ _ h => h) (by rfl) (fun L9 m9 w9 hSh hAt hDn hS => ?_)
                have x4 : w9.cell? ⟨w.heap.size, 4, none⟩ = some (.int .u64 lim) := (HB.out.ca (show Below _ _ w9 from hS)).cell 4
                clear hS
                go_simp
                try rfl
              try simp only [Act.put, List.setIfInBounds_toArray, List.set_cons_zero, List.set_cons_succ]
              refine Ps.step (i := 36) (d := some 66) (u := ?uw235_271) rfl rfl (by kernel_rfl) (by kernel_rfl) (by kernel_rfl) (by kernel_rfl) ?yw235_271 ?rw235_271
              case yw235_271 =>
                refine StepS.pure (fun _ _ _ h => h) (by rfl) (fun w9 => ?_)
                go_simp
                try rfl
              try simp only [Act.put, List.setIfInBounds_toArray, List.set_cons_zero, List.set_cons_succ]
              refine Ps.step (i := 37) (d := some 67) (u := ?uw235_272) rfl rfl (by kernel_rfl) (by kernel_rfl) (by kernel_rfl) (by kernel_rfl) ?yw235_272 ?rw235_272
              case yw235_272 =>
                refine StepS.pure (fun _ _ _ h => h) (by rfl) (fun w9 => ?_)
                go_simp
                try rfl
              try simp only [Act.put, List.setIfInBounds_toArray, List.set_cons_zero, List.set_cons_succ]
              refine Ps.step (i := 38) (d := some 3) (u := ?uw235_273) rfl rfl (by kernel_rfl) (by kernel_rfl) (by kernel_rfl) (by kernel_rfl) ?yw235_273 ?rw235_273
              case yw235_273 =>
                refine StepS.pure (fun _ _ _ h => h) (by rfl) (fun w9 => ?_)
                go_simp
                try rfl
              try simp only [Act.put, List.setIfInBounds_toArray, List.set_cons_zero, List.set_cons_succ]
              refine Ps.done (by kernel_rfl) (fun w235 hS => ?_) _
              have HQ := Lib.hid (show Below w3.heap.size w3 _ from hS)
              clear hS
              obtain ⟨w7, rfl⟩ : ∃ x, x = w235 := ⟨_, rfl⟩
              have x3 : w7.cell? ⟨w.heap.size, 3, none⟩ = some (.int .u64 sent) := (HB.out.ca HQ.out).cell 3
              have x1 : w7.cell? ⟨w.heap.size, 1, none⟩ = some (.int .u64 base) := (HB.out.ca HQ.out).cell 1
              have x5 : w7.cell? ⟨w.heap.size, 5, none⟩ = some (.int .i64 timer) := (HB.out.ca HQ.out).cell 5
              go_wp2
              all_goals go_ret
              all_goals exact ⟨ret_int (by rw [HRR.out, HSB.out, HM.out, HT.out]; simp [*] <;> omega), bl_ca HBB.out HQ.out⟩
            · have e3 : decide (lim ≤ 1099511627776) = false := by simpa using d3
              have HF := Lib.hid (show sendM ⟨ses, base, q, sent, lim, timer, true⟩ = false from by unfold sendM; rw [HL.out, ← HEE.out]; simp [d3])
              go_enter Try.func20, Try.ntmps20
              go_wp2_with fail
              generalize w.alloc (.cells #[.int .u32 ses, .int .u64 base, .slice A n c, .int .u64 sent, .int .u64 lim, .int .i64 timer, .bool true] 29) = w1 at *
              refine (HSS.out _).mono ?_
              rintro e w2 ⟨rfl, rfl⟩
              go_wp2_with fail
              refine HIN.out.mono ?_
              rintro e w3 ⟨rfl, q3⟩
              replace HB := Lib.hid (HB.out.ca q3)
              replace HR := Lib.hid (Lay.rd_below HR.out q3)
              replace HBB := Lib.hid (bl_ca HBB.out q3)
              clear q3 x0 x1 x2 HIN
              go_wp2_with fail
              refine wp_region_ps (S := fun _ _ w' => Below w3.heap.size w3 w') (by kernel_rfl) ?spsw274 ?ppsw274
              case spsw274 =>
                exact (Below.refl _ _).drew
              refine Ps.step (i := 0) (d := some 30) (u := ?uw274_274) rfl rfl (by kernel_rfl) (by kernel_rfl) (by kernel_rfl) (by kernel_rfl) ?yw274_274 ?rw274_274
              case yw274_274 =>
                refine StepS.pure (fun _ _ _ h => h) (by rfl) (fun w9 => ?_)
                go_simp
                try rfl
              try simp only [Act.put, List.setIfInBounds_toArray, List.set_cons_zero, List.set_cons_succ]
              refine Ps.step (i := 1) (d := some 31) (u := ?uw274_275) rfl rfl (by kernel_rfl) (by kernel_rfl) (by kernel_rfl) (by kernel_rfl) ?yw274_275 ?rw274_275
              case yw274_275 =>
                refine StepS.pure (fun _ _ _ h => h) (by rfl) (fun w9 => ?_)
                go_simp
                try rfl
              try simp only [Act.put, List.setIfInBounds_toArray, List.set_cons_zero, List.set_cons_succ]
              refine Ps.step (i := 2) (d := some 32) (u := ?uw274_276) rfl rfl (by kernel_rfl) (by kernel_rfl) (by kernel_rfl) (by kernel_rfl) ?yw274_276 ?rw274_276
              case yw274_276 =>
                refine StepS.pure (fun _ _ _ h => h) (by rfl) (fun w9 => ?_)
                go_simp
                try rfl
              try simp only [Act.put, List.setIfInBounds_toArray, List.set_cons_zero, List.set_cons_succ]
              refine Ps.step (i := 3) (d := some 33) (u := ?uw274_277) rfl rfl (by kernel_rfl) (by kernel_rfl) (by kernel_rfl) (by kernel_rfl) ?yw274_277 ?rw274_277
              case yw274_277 =>
                refine StepS.read [] (by kernel_rfl) (fun _ _ _ h => h) (by rfl) (fun L9 m9 w9 hSh hAt hDn hS => ?_)
                have x6 : w9.cell? ⟨w.heap.size, 6, none⟩ = some (.bool true) := (HB.out.ca (show Below _ _ w9 from hS)).cell 6
                clear hS
                go_simp
                try rfl
              try simp only [Act.put, List.setIfInBounds_toArray, List.set_cons_zero, List.set_cons_succ]
              refine Ps.step (i := 4) (d := some 34) (u := ?uw274_278) rfl rfl (by kernel_rfl) (by kernel_rfl) (by kernel_rfl) (by kernel_rfl) ?yw274_278 ?rw274_278
              case yw274_278 =>
                refine StepS.pure (fun _ _ _ h => h) (by rfl) (fun w9 => ?_)
                go_simp
                try rfl
              try simp only [Act.put, List.setIfInBounds_toArray, List.set_cons_zero, List.set_cons_succ]
              refine Ps.step (i := 5) (d := some 35) (u := undef) rfl rfl (by kernel_rfl) (by kernel_rfl) (by kernel_rfl) (by kernel_rfl) ?yw274_279 ?rw274_279
              case yw274_279 =>
                exact StepS.skip (fun _ _ _ h => h) (by rfl)
              try simp only [Act.put, List.setIfInBounds_toArray, List.set_cons_zero, List.set_cons_succ]
              refine Ps.step (i := 6) (d := some 36) (u := undef) rfl rfl (by kernel_rfl) (by kernel_rfl) (by kernel_rfl) (by kernel_rfl) ?yw274_280 ?rw274_280
              case yw274_280 =>
                exact StepS.skip (fun _ _ _ h => h) (by rfl)
              try simp only [Act.put, List.setIfInBounds_toArray, List.set_cons_zero, List.set_cons_succ]
              refine Ps.step (i := 7) (d := some 37) (u := undef) rfl rfl (by kernel_rfl) (by kernel_rfl) (by kernel_rfl) (by kernel_rfl) ?yw274_281 ?rw274_281
              case yw274_281 =>
                exact StepS.skip (fun _ _ _ h => h) (by rfl)
              try simp only [Act.put, List.setIfInBounds_toArray, List.set_cons_zero, List.set_cons_succ]
              refine Ps.step (i := 8) (d := some 38) (u := undef) rfl rfl (by kernel_rfl) (by kernel_rfl) (by kernel_rfl) (by kernel_rfl) ?yw274_282 ?rw274_282
              case yw274_282 =>
                exact StepS.skip (fun _ _ _ h => h) (by rfl)
              try simp only [Act.put, List.setIfInBounds_toArray, List.set_cons_zero, List.set_cons_succ]
              refine Ps.step (i := 9) (d := some 39) (u := ?uw274_283) rfl rfl (by kernel_rfl) (by kernel_rfl) (by kernel_rfl) (by kernel_rfl) ?yw274_283 ?rw274_283
              case yw274_283 =>
                refine StepS.pure (fun _ _ _ h => h) (by rfl) (fun w9 => ?_)
                go_simp
                try rfl
              try simp only [Act.put, List.setIfInBounds_toArray, List.set_cons_zero, List.set_cons_succ]
              refine Ps.step (i := 10) (d := some 40) (u := ?uw274_284) rfl rfl (by kernel_rfl) (by kernel_rfl) (by kernel_rfl) (by kernel_rfl) ?yw274_284 ?rw274_284
              case yw274_284 =>
                refine StepS.pure (fun _ _ _ h => h) (by rfl) (fun w9 => ?_)
                go_simp
                try rfl
              try simp only [Act.put, List.setIfInBounds_toArray, List.set_cons_zero, List.set_cons_succ]
              refine Ps.step (i := 11) (d := some 41) (u := ?uw274_285) rfl rfl (by kernel_rfl) (by kernel_rfl) (by kernel_rfl) (by kernel_rfl) ?yw274_285 ?rw274_285
              case yw274_285 =>
                refine StepS.pure (fun _ _ _ h => h) (by rfl) (fun w9 => ?_)
                go_simp
                try rfl
              try simp only [Act.put, List.setIfInBounds_toArray, List.set_cons_zero, List.set_cons_succ]
              refine Ps.step (i := 12) (d := some 42) (u := ?uw274_286) rfl rfl (by kernel_rfl) (by kernel_rfl) (by kernel_rfl) (by kernel_rfl) ?yw274_286 ?rw274_286
              case yw274_286 =>
                refine StepS.pure (fun _ _ _ h => h) (by rfl) (fun w9 => ?_)
                go_simp
                try rfl
              try simp only [Act.put, List.setIfInBounds_toArray, List.set_cons_zero, List.set_cons_succ]
              refine Ps.step (i := 13) (d := some 43) (u := ?uw274_287) rfl rfl (by kernel_rfl) (by kernel_rfl) (by kernel_rfl) (by kernel_rfl) ?yw274_287 ?rw274_287
              case yw274_287 =>
                refine StepS.read [] (by kernel_rfl) (fun _ _ _ h => h) (by rfl) (fun L9 m9 w9 hSh hAt hDn hS => ?_)
                have x3 : w9.cell? ⟨w.heap.size, 3, none⟩ = some (.int .u64 sent) := (HB.out.ca (show Below _ _ w9 from hS)).cell 3
                clear hS
                go_simp
                try rfl
              try simp only [Act.put, List.setIfInBounds_toArray, List.set_cons_zero, List.set_cons_succ]
              refine Ps.step (i := 14) (d := some 44) (u := ?uw274_288) rfl rfl (by kernel_rfl) (by kernel_rfl) (by kernel_rfl) (by kernel_rfl) ?yw274_288 ?rw274_288
              case yw274_288 =>
                refine StepS.pure (fun _ _ _ h => h) (by rfl) (fun w9 => ?_)
                go_simp
                try rfl
              try simp only [Act.put, List.setIfInBounds_toArray, List.set_cons_zero, List.set_cons_succ]
              refine Ps.step (i := 15) (d := some 45) (u := ?uw274_289) rfl rfl (by kernel_rfl) (by kernel_rfl) (by kernel_rfl) (by kernel_rfl) ?yw274_289 ?rw274_289
              case yw274_289 =>
                refine StepS.read [] (by kernel_rfl) (fun _ _ _ h => h) (by rfl) (fun L9 m9 w9 hSh hAt hDn hS => ?_)
                have x1 : w9.cell? ⟨w.heap.size, 1, none⟩ = some (.int .u64 base) := (HB.out.ca (show Below _ _ w9 from hS)).cell 1
                clear hS
                go_simp
                try rfl
              try simp only [Act.put, List.setIfInBounds_toArray, List.set_cons_zero, List.set_cons_succ]
              refine Ps.step (i := 16) (d := some 46) (u := ?uw274_290) rfl rfl (by kernel_rfl) (by kernel_rfl) (by kernel_rfl) (by kernel_rfl) ?yw274_290 ?rw274_290
              case yw274_290 =>
                refine StepS.pure (fun _ _ _ h => h) (by rfl) (fun w9 => ?_)
                go_simp
                try rfl
              try simp only [Act.put, List.setIfInBounds_toArray, List.set_cons_zero, List.set_cons_succ]
              refine Ps.step (i := 17) (d := some 47) (u := ?uw274_291) rfl rfl (by kernel_rfl) (by kernel_rfl) (by kernel_rfl) (by kernel_rfl) ?yw274_291 ?rw274_291
              case yw274_291 =>
                refine StepS.pure (fun _ _ _ h => h) (by rfl) (fun w9 => ?_)
                go_simp
                try rfl
              try simp only [Act.put, List.setIfInBounds_toArray, List.set_cons_zero, List.set_cons_succ]
              refine Ps.step (i := 18) (d := some 48) (u := ?uw274_292) rfl rfl (by kernel_rfl) (by kernel_rfl) (by kernel_rfl) (by kernel_rfl) ?yw274_292 ?rw274_292
              case yw274_292 =>
                refine StepS.pure (fun _ _ _ h => h) (by rfl) (fun w9 => ?_)
                go_simp
                try rfl
              try simp only [Act.put, List.setIfInBounds_toArray, List.set_cons_zero, List.set_cons_succ]
              refine Ps.step (i := 19) (d := some 49) (u := ?uw274_293) rfl rfl (by kernel_rfl) (by kernel_rfl) (by kernel_rfl) (by kernel_rfl) ?yw274_293 ?rw274_293
              case yw274_293 =>
                refine StepS.pure (fun _ _ _ h => h) (by rfl) (fun w9 => ?_)
                go_simp
                try rfl
              try simp only [Act.put, List.setIfInBounds_toArray, List.set_cons_zero, List.set_cons_succ]
              refine Ps.step (i := 20) (d := some 50) (u := ?uw274_294) rfl rfl (by kernel_rfl) (by kernel_rfl) (by kernel_rfl) (by kernel_rfl) ?yw274_294 ?rw274_294
              case yw274_294 =>
                refine StepS.pure (fun _ _ _ h => h) (by rfl) (fun w9 => ?_)
                go_simp
                try rfl
              try simp only [Act.put, List.setIfInBounds_toArray, List.set_cons_zero, List.set_cons_succ]
              refine Ps.step (i := 21) (d := some 51) (u := ?uw274_295) rfl rfl (by kernel_rfl) (by kernel_rfl) (by kernel_rfl) (by kernel_rfl) ?yw274_295 ?rw274_295
              case yw274_295 =>
                refine StepS.read [] (by kernel_rfl) (fun _ _ _ h => h) (by rfl) (fun L9 m9 w9 hSh hAt hDn hS => ?_)
                have x3 : w9.cell? ⟨w.heap.size, 3, none⟩ = some (.int .u64 sent) := (HB.out.ca (show Below _ _ w9 from hS)).cell 3
                clear hS
                go_simp
                try rfl
              try simp only [Act.put, List.setIfInBounds_toArray, List.set_cons_zero, List.set_cons_succ]
              refine Ps.step (i := 22) (d := some 52) (u := ?uw274_296) rfl rfl (by kernel_rfl) (by kernel_rfl) (by kernel_rfl) (by kernel_rfl) ?yw274_296 ?rw274_296
              case yw274_296 =>
                refine StepS.read [] (by kernel_rfl) (fun _ _ _ h => h) (by rfl) (fun L9 m9 w9 hSh hAt hDn hS => ?_)
                have hT : Below _ _ w9 := hS
                have x0 : w9.cell? ⟨w.heap.size, 0, none⟩ = some (.int .u32 ses) := (HB.out.ca hT).cell 0
                have x1 : w9.cell? ⟨w.heap.size, 1, none⟩ = some (.int .u64 base) := (HB.out.ca hT).cell 1
                have x2 : w9.cell? ⟨w.heap.size, 2, none⟩ = some (.slice A n c) := (HB.out.ca hT).cell 2
                have x3 : w9.cell? ⟨w.heap.size, 3, none⟩ = some (.int .u64 sent) := (HB.out.ca hT).cell 3
                have x4 : w9.cell? ⟨w.heap.size, 4, none⟩ = some (.int .u64 lim) := (HB.out.ca hT).cell 4
                have x5 : w9.cell? ⟨w.heap.size, 5, none⟩ = some (.int .i64 timer) := (HB.out.ca hT).cell 5
                have x6 : w9.cell? ⟨w.heap.size, 6, none⟩ = some (.bool true) := (HB.out.ca hT).cell 6
                clear hT hS
                go_simp
                try rfl
              try simp only [Act.put, List.setIfInBounds_toArray, List.set_cons_zero, List.set_cons_succ]
              refine Ps.step (i := 23) (d := some 53) (u := (.int .u64 (base - 1 + (n : Int)))) rfl rfl (by kernel_rfl) (by kernel_rfl) (by kernel_rfl) (by kernel_rfl) ?yw274_297 ?rw274_297
              case yw274_297 =>
                refine StepS.call ?fw274_297 ?aw274_297 [] (by kernel_rfl) (by rfl) (fun w9 => ?hw274_297) (fun L9 m9 w9 hSh hAt hDn hS => ?cw274_297)
                case hw274_297 => go_simp; refine ⟨?_, ?_⟩ <;> rfl
                case cw274_297 =>
                  have hT : Below _ _ w9 := hS
                  refine (last_any ⟨ses, base, q, sent, lim, timer, true⟩ A n c w9 (by dsimp only; omega) (by dsimp only; omega) (by omega)).mono ?_
                  rintro e w8 ⟨rfl, q8⟩
                  exact ⟨rfl, bl_ca hT q8⟩
              try simp only [Act.put, List.setIfInBounds_toArray, List.set_cons_zero, List.set_cons_succ]
              refine Ps.step (i := 24) (d := some 54) (u := ?uw274_298) rfl rfl (by kernel_rfl) (by kernel_rfl) (by kernel_rfl) (by kernel_rfl) ?yw274_298 ?rw274_298
              case yw274_298 =>
                refine StepS.pure (fun _ _ _ h => h) (by rfl) (fun w9 => ?_)
                go_simp
                try rfl
              try simp only [Act.put, List.setIfInBounds_toArray, List.set_cons_zero, List.set_cons_succ]
              refine Ps.step (i := 25) (d := some 55) (u := ?uw274_299) rfl rfl (by kernel_rfl) (by kernel_rfl) (by kernel_rfl) (by kernel_rfl) ?yw274_299 ?rw274_299
              case yw274_299 =>
                refine StepS.pure (fun _ _ _ h => h) (by rfl) (fun w9 => ?_)
                go_simp
                try rfl
              try simp only [Act.put, List.setIfInBounds_toArray, List.set_cons_zero, List.set_cons_succ]
              refine Ps.step (i := 26) (d := some 56) (u := ?uw274_300) rfl rfl (by kernel_rfl) (by kernel_rfl) (by kernel_rfl) (by kernel_rfl) ?yw274_300 ?rw274_300
              case yw274_300 =>
                refine StepS.pure (fun _ _ _ h => h) (by rfl) (fun w9 => ?_)
                go_simp
                try rfl
              try simp only [Act.put, List.setIfInBounds_toArray, List.set_cons_zero, List.set_cons_succ]
              refine Ps.step (i := 27) (d := some 57) (u := ?uw274_301) rfl rfl (by kernel_rfl) (by kernel_rfl) (by kernel_rfl) (by kernel_rfl) ?yw274_301 ?rw274_301
              case yw274_301 =>
                refine StepS.pure (fun _ _ _ h => h) (by rfl) (fun w9 => ?_)
                go_simp
                try rfl
              try simp only [Act.put, List.setIfInBounds_toArray, List.set_cons_zero, List.set_cons_succ]
              refine Ps.step (i := 28) (d := some 58) (u := ?uw274_302) rfl rfl (by kernel_rfl) (by kernel_rfl) (by kernel_rfl) (by kernel_rfl) ?yw274_302 ?rw274_302
              case yw274_302 =>
                refine StepS.read [] (by kernel_rfl) (fun _ _ _ h => h) (by rfl) (fun L9 m9 w9 hSh hAt hDn hS => ?_)
                have x4 : w9.cell? ⟨w.heap.size, 4, none⟩ = some (.int .u64 lim) := (HB.out.ca (show Below _ _ w9 from hS)).cell 4
                clear hS
                go_simp
                try rfl
              try simp only [Act.put, List.setIfInBounds_toArray, List.set_cons_zero, List.set_cons_succ]
              refine Ps.step (i := 29) (d := some 59) (u := ?uw274_303) rfl rfl (by kernel_rfl) (by kernel_rfl) (by kernel_rfl) (by kernel_rfl) ?yw274_303 ?rw274_303
              case yw274_303 =>
                refine StepS.pure (fun _ _ _ h => h) (by rfl) (fun w9 => ?_)
                go_simp
                try rfl
              try simp only [Act.put, List.setIfInBounds_toArray, List.set_cons_zero, List.set_cons_succ]
              refine Ps.step (i := 30) (d := some 60) (u := ?uw274_304) rfl rfl (by kernel_rfl) (by kernel_rfl) (by kernel_rfl) (by kernel_rfl) ?yw274_304 ?rw274_304
              case yw274_304 =>
                refine StepS.read [] (by kernel_rfl) (fun _ _ _ h => h) (by rfl) (fun L9 m9 w9 hSh hAt hDn hS => ?_)
                have x3 : w9.cell? ⟨w.heap.size, 3, none⟩ = some (.int .u64 sent) := (HB.out.ca (show Below _ _ w9 from hS)).cell 3
                clear hS
                go_simp
                try rfl
              try simp only [Act.put, List.setIfInBounds_toArray, List.set_cons_zero, List.set_cons_succ]
              refine Ps.step (i := 31) (d := some 61) (u := ?uw274_305) rfl rfl (by kernel_rfl) (by kernel_rfl) (by kernel_rfl) (by kernel_rfl) ?yw274_305 ?rw274_305
              case yw274_305 =>
                refine StepS.pure (fun _ _ _ h => h) (by rfl) (fun w9 => ?_)
                go_simp
                try rfl
              try simp only [Act.put, List.setIfInBounds_toArray, List.set_cons_zero, List.set_cons_succ]
              refine Ps.step (i := 32) (d := some 62) (u := ?uw274_306) rfl rfl (by kernel_rfl) (by kernel_rfl) (by kernel_rfl) (by kernel_rfl) ?yw274_306 ?rw274_306
              case yw274_306 =>
                refine StepS.pure (fun _ _ _ h => h) (by rfl) (fun w9 => ?_)
                go_simp
                try rfl
              try simp only [Act.put, List.setIfInBounds_toArray, List.set_cons_zero, List.set_cons_succ]
              refine Ps.step (i := 33) (d := some 63) (u := ?uw274_307) rfl rfl (by kernel_rfl) (by kernel_rfl) (by kernel_rfl) (by kernel_rfl) ?yw274_307 ?rw274_307
              case yw274_307 =>
                refine StepS.pure (fun _ _ _ h => h) (by rfl) (fun w9 => ?_)
                go_simp
                try rfl
              try simp only [Act.put, List.setIfInBounds_toArray, List.set_cons_zero, List.set_cons_succ]
              refine Ps.step (i := 34) (d := some 64) (u := ?uw274_308) rfl rfl (by kernel_rfl) (by kernel_rfl) (by kernel_rfl) (by kernel_rfl) ?yw274_308 ?rw274_308
              case yw274_308 =>
                refine StepS.pure (fun _ _ _ h => h) (by rfl) (fun w9 => ?_)
                go_simp
                try rfl
              try simp only [Act.put, List.setIfInBounds_toArray, List.set_cons_zero, List.set_cons_succ]
              refine Ps.step (i := 35) (d := some 65) (u := ?uw274_309) rfl rfl (by kernel_rfl) (by kernel_rfl) (by kernel_rfl) (by kernel_rfl) ?yw274_309 ?rw274_309
              case yw274_309 =>
                refine StepS.read [] (by kernel_rfl) (fun _ _ _ h => h) (by rfl) (fun L9 m9 w9 hSh hAt hDn hS => ?_)
                have x4 : w9.cell? ⟨w.heap.size, 4, none⟩ = some (.int .u64 lim) := (HB.out.ca (show Below _ _ w9 from hS)).cell 4
                clear hS
                go_simp
                try rfl
              try simp only [Act.put, List.setIfInBounds_toArray, List.set_cons_zero, List.set_cons_succ]
              refine Ps.step (i := 36) (d := some 66) (u := ?uw274_310) rfl rfl (by kernel_rfl) (by kernel_rfl) (by kernel_rfl) (by kernel_rfl) ?yw274_310 ?rw274_310
              case yw274_310 =>
                refine StepS.pure (fun _ _ _ h => h) (by rfl) (fun w9 => ?_)
                go_simp
                try rfl
              try simp only [Act.put, List.setIfInBounds_toArray, List.set_cons_zero, List.set_cons_succ]
              refine Ps.step (i := 37) (d := some 67) (u := ?uw274_311) rfl rfl (by kernel_rfl) (by kernel_rfl) (by kernel_rfl) (by kernel_rfl) ?yw274_311 ?rw274_311
              case yw274_311 =>
                refine StepS.pure (fun _ _ _ h => h) (by rfl) (fun w9 => ?_)
                go_simp
                try rfl
              try simp only [Act.put, List.setIfInBounds_toArray, List.set_cons_zero, List.set_cons_succ]
              refine Ps.step (i := 38) (d := some 3) (u := ?uw274_312) rfl rfl (by kernel_rfl) (by kernel_rfl) (by kernel_rfl) (by kernel_rfl) ?yw274_312 ?rw274_312
              case yw274_312 =>
                refine StepS.pure (fun _ _ _ h => h) (by rfl) (fun w9 => ?_)
                go_simp
                try rfl
              try simp only [Act.put, List.setIfInBounds_toArray, List.set_cons_zero, List.set_cons_succ]
              refine Ps.done (by kernel_rfl) (fun w274 hS => ?_) _
              have HQ := Lib.hid (show Below w3.heap.size w3 _ from hS)
              clear hS
              obtain ⟨w7, rfl⟩ : ∃ x, x = w274 := ⟨_, rfl⟩
              have x3 : w7.cell? ⟨w.heap.size, 3, none⟩ = some (.int .u64 sent) := (HB.out.ca HQ.out).cell 3
              have x1 : w7.cell? ⟨w.heap.size, 1, none⟩ = some (.int .u64 base) := (HB.out.ca HQ.out).cell 1
              have x5 : w7.cell? ⟨w.heap.size, 5, none⟩ = some (.int .i64 timer) := (HB.out.ca HQ.out).cell 5
              go_wp2
              go_ret
              exact ⟨ret_int (by rw [HRR.out, HSB.out, HF.out]; rfl), bl_ca HBB.out HQ.out⟩
          · have e2 : decide (sent ≤ lim) = false := by simpa using d2
            have HF := Lib.hid (show sendM ⟨ses, base, q, sent, lim, timer, true⟩ = false from by unfold sendM; rw [HL.out, ← HEE.out]; simp [d2])
            go_enter Try.func20, Try.ntmps20
            go_wp2_with fail
            generalize w.alloc (.cells #[.int .u32 ses, .int .u64 base, .slice A n c, .int .u64 sent, .int .u64 lim, .int .i64 timer, .bool true] 29) = w1 at *
            refine (HSS.out _).mono ?_
            rintro e w2 ⟨rfl, rfl⟩
            go_wp2_with fail
            refine HIN.out.mono ?_
            rintro e w3 ⟨rfl, q3⟩
            replace HB := Lib.hid (HB.out.ca q3)
            replace HR := Lib.hid (Lay.rd_below HR.out q3)
            replace HBB := Lib.hid (bl_ca HBB.out q3)
            clear q3 x0 x1 x2 HIN
            go_wp2_with fail
            refine wp_region_ps (S := fun _ _ w' => Below w3.heap.size w3 w') (by kernel_rfl) ?spsw313 ?ppsw313
            case spsw313 =>
              exact (Below.refl _ _).drew
            refine Ps.step (i := 0) (d := some 30) (u := ?uw313_313) rfl rfl (by kernel_rfl) (by kernel_rfl) (by kernel_rfl) (by kernel_rfl) ?yw313_313 ?rw313_313
            case yw313_313 =>
              refine StepS.pure (fun _ _ _ h => h) (by rfl) (fun w9 => ?_)
              go_simp
              try rfl
            try simp only [Act.put, List.setIfInBounds_toArray, List.set_cons_zero, List.set_cons_succ]
            refine Ps.step (i := 1) (d := some 31) (u := ?uw313_314) rfl rfl (by kernel_rfl) (by kernel_rfl) (by kernel_rfl) (by kernel_rfl) ?yw313_314 ?rw313_314
            case yw313_314 =>
              refine StepS.pure (fun _ _ _ h => h) (by rfl) (fun w9 => ?_)
              go_simp
              try rfl
            try simp only [Act.put, List.setIfInBounds_toArray, List.set_cons_zero, List.set_cons_succ]
            refine Ps.step (i := 2) (d := some 32) (u := ?uw313_315) rfl rfl (by kernel_rfl) (by kernel_rfl) (by kernel_rfl) (by kernel_rfl) ?yw313_315 ?rw313_315
            case yw313_315 =>
              refine StepS.pure (fun _ _ _ h => h) (by rfl) (fun w9 => ?_)
              go_simp
              try rfl
            try simp only [Act.put, List.setIfInBounds_toArray, List.set_cons_zero, List.set_cons_succ]
            refine Ps.step (i := 3) (d := some 33) (u := ?uw313_316) rfl rfl (by kernel_rfl) (by kernel_rfl) (by kernel_rfl) (by kernel_rfl) ?yw313_316 ?rw313_316
            case yw313_316 =>
              refine StepS.read [] (by kernel_rfl) (fun _ _ _ h => h) (by rfl) (fun L9 m9 w9 hSh hAt hDn hS => ?_)
              have x6 : w9.cell? ⟨w.heap.size, 6, none⟩ = some (.bool true) := (HB.out.ca (show Below _ _ w9 from hS)).cell 6
              clear hS
              go_simp
              try rfl
            try simp only [Act.put, List.setIfInBounds_toArray, List.set_cons_zero, List.set_cons_succ]
            refine Ps.step (i := 4) (d := some 34) (u := ?uw313_317) rfl rfl (by kernel_rfl) (by kernel_rfl) (by kernel_rfl) (by kernel_rfl) ?yw313_317 ?rw313_317
            case yw313_317 =>
              refine StepS.pure (fun _ _ _ h => h) (by rfl) (fun w9 => ?_)
              go_simp
              try rfl
            try simp only [Act.put, List.setIfInBounds_toArray, List.set_cons_zero, List.set_cons_succ]
            refine Ps.step (i := 5) (d := some 35) (u := undef) rfl rfl (by kernel_rfl) (by kernel_rfl) (by kernel_rfl) (by kernel_rfl) ?yw313_318 ?rw313_318
            case yw313_318 =>
              exact StepS.skip (fun _ _ _ h => h) (by rfl)
            try simp only [Act.put, List.setIfInBounds_toArray, List.set_cons_zero, List.set_cons_succ]
            refine Ps.step (i := 6) (d := some 36) (u := undef) rfl rfl (by kernel_rfl) (by kernel_rfl) (by kernel_rfl) (by kernel_rfl) ?yw313_319 ?rw313_319
            case yw313_319 =>
              exact StepS.skip (fun _ _ _ h => h) (by rfl)
            try simp only [Act.put, List.setIfInBounds_toArray, List.set_cons_zero, List.set_cons_succ]
            refine Ps.step (i := 7) (d := some 37) (u := undef) rfl rfl (by kernel_rfl) (by kernel_rfl) (by kernel_rfl) (by kernel_rfl) ?yw313_320 ?rw313_320
            case yw313_320 =>
              exact StepS.skip (fun _ _ _ h => h) (by rfl)
            try simp only [Act.put, List.setIfInBounds_toArray, List.set_cons_zero, List.set_cons_succ]
            refine Ps.step (i := 8) (d := some 38) (u := undef) rfl rfl (by kernel_rfl) (by kernel_rfl) (by kernel_rfl) (by kernel_rfl) ?yw313_321 ?rw313_321
            case yw313_321 =>
              exact StepS.skip (fun _ _ _ h => h) (by rfl)
            try simp only [Act.put, List.setIfInBounds_toArray, List.set_cons_zero, List.set_cons_succ]
            refine Ps.step (i := 9) (d := some 39) (u := ?uw313_322) rfl rfl (by kernel_rfl) (by kernel_rfl) (by kernel_rfl) (by kernel_rfl) ?yw313_322 ?rw313_322
            case yw313_322 =>
              refine StepS.pure (fun _ _ _ h => h) (by rfl) (fun w9 => ?_)
              go_simp
              try rfl
            try simp only [Act.put, List.setIfInBounds_toArray, List.set_cons_zero, List.set_cons_succ]
            refine Ps.step (i := 10) (d := some 40) (u := ?uw313_323) rfl rfl (by kernel_rfl) (by kernel_rfl) (by kernel_rfl) (by kernel_rfl) ?yw313_323 ?rw313_323
            case yw313_323 =>
              refine StepS.pure (fun _ _ _ h => h) (by rfl) (fun w9 => ?_)
              go_simp
              try rfl
            try simp only [Act.put, List.setIfInBounds_toArray, List.set_cons_zero, List.set_cons_succ]
            refine Ps.step (i := 11) (d := some 41) (u := ?uw313_324) rfl rfl (by kernel_rfl) (by kernel_rfl) (by kernel_rfl) (by kernel_rfl) ?yw313_324 ?rw313_324
            case yw313_324 =>
              refine StepS.pure (fun _ _ _ h => h) (by rfl) (fun w9 => ?_)
              go_simp
              try rfl
            try simp only [Act.put, List.setIfInBounds_toArray, List.set_cons_zero, List.set_cons_succ]
            refine Ps.step (i := 12) (d := some 42) (u := ?uw313_325) rfl rfl (by kernel_rfl) (by kernel_rfl) (by kernel_rfl) (by kernel_rfl) ?yw313_325 ?rw313_325
            case yw313_325 =>
              refine StepS.pure (fun _ _ _ h => h) (by rfl) (fun w9 => ?_)
              go_simp
              try rfl
            try simp only [Act.put, List.setIfInBounds_toArray, List.set_cons_zero, List.set_cons_succ]
            refine Ps.step (i := 13) (d := some 43) (u := ?uw313_326) rfl rfl (by kernel_rfl) (by kernel_rfl) (by kernel_rfl) (by kernel_rfl) ?yw313_326 ?rw313_326
            case yw313_326 =>
              refine StepS.read [] (by kernel_rfl) (fun _ _ _ h => h) (by rfl) (fun L9 m9 w9 hSh hAt hDn hS => ?_)
              have x3 : w9.cell? ⟨w.heap.size, 3, none⟩ = some (.int .u64 sent) := (HB.out.ca (show Below _ _ w9 from hS)).cell 3
              clear hS
              go_simp
              try rfl
            try simp only [Act.put, List.setIfInBounds_toArray, List.set_cons_zero, List.set_cons_succ]
            refine Ps.step (i := 14) (d := some 44) (u := ?uw313_327) rfl rfl (by kernel_rfl) (by kernel_rfl) (by kernel_rfl) (by kernel_rfl) ?yw313_327 ?rw313_327
            case yw313_327 =>
              refine StepS.pure (fun _ _ _ h => h) (by rfl) (fun w9 => ?_)
              go_simp
              try rfl
            try simp only [Act.put, List.setIfInBounds_toArray, List.set_cons_zero, List.set_cons_succ]
            refine Ps.step (i := 15) (d := some 45) (u := ?uw313_328) rfl rfl (by kernel_rfl) (by kernel_rfl) (by kernel_rfl) (by kernel_rfl) ?yw313_328 ?rw313_328
            case yw313_328 =>
              refine StepS.read [] (by kernel_rfl) (fun _ _ _ h => h) (by rfl) (fun L9 m9 w9 hSh hAt hDn hS => ?_)
              have x1 : w9.cell? ⟨w.heap.size, 1, none⟩ = some (.int .u64 base) := (HB.out.ca (show Below _ _ w9 from hS)).cell 1
              clear hS
              go_simp
              try rfl
            try simp only [Act.put, List.setIfInBounds_toArray, List.set_cons_zero, List.set_cons_succ]
            refine Ps.step (i := 16) (d := some 46) (u := ?uw313_329) rfl rfl (by kernel_rfl) (by kernel_rfl) (by kernel_rfl) (by kernel_rfl) ?yw313_329 ?rw313_329
            case yw313_329 =>
              refine StepS.pure (fun _ _ _ h => h) (by rfl) (fun w9 => ?_)
              go_simp
              try rfl
            try simp only [Act.put, List.setIfInBounds_toArray, List.set_cons_zero, List.set_cons_succ]
            refine Ps.step (i := 17) (d := some 47) (u := ?uw313_330) rfl rfl (by kernel_rfl) (by kernel_rfl) (by kernel_rfl) (by kernel_rfl) ?yw313_330 ?rw313_330
            case yw313_330 =>
              refine StepS.pure (fun _ _ _ h => h) (by rfl) (fun w9 => ?_)
              go_simp
              try rfl
            try simp only [Act.put, List.setIfInBounds_toArray, List.set_cons_zero, List.set_cons_succ]
            refine Ps.step (i := 18) (d := some 48) (u := ?uw313_331) rfl rfl (by kernel_rfl) (by kernel_rfl) (by kernel_rfl) (by kernel_rfl) ?yw313_331 ?rw313_331
            case yw313_331 =>
              refine StepS.pure (fun _ _ _ h => h) (by rfl) (fun w9 => ?_)
              go_simp
              try rfl
            try simp only [Act.put, List.setIfInBounds_toArray, List.set_cons_zero, List.set_cons_succ]
            refine Ps.step (i := 19) (d := some 49) (u := ?uw313_332) rfl rfl (by kernel_rfl) (by kernel_rfl) (by kernel_rfl) (by kernel_rfl) ?yw313_332 ?rw313_332
            case yw313_332 =>
              refine StepS.pure (fun _ _ _ h => h) (by rfl) (fun w9 => ?_)
              go_simp
              try rfl
            try simp only [Act.put, List.setIfInBounds_toArray, List.set_cons_zero, List.set_cons_succ]
            refine Ps.step (i := 20) (d := some 50) (u := ?uw313_333) rfl rfl (by kernel_rfl) (by kernel_rfl) (by kernel_rfl) (by kernel_rfl) ?yw313_333 ?rw313_333
            case yw313_333 =>
              refine StepS.pure (fun _ _ _ h => h) (by rfl) (fun w9 => ?_)
              go_simp
              try rfl
            try simp only [Act.put, List.setIfInBounds_toArray, List.set_cons_zero, List.set_cons_succ]
            refine Ps.step (i := 21) (d := some 51) (u := ?uw313_334) rfl rfl (by kernel_rfl) (by kernel_rfl) (by kernel_rfl) (by kernel_rfl) ?yw313_334 ?rw313_334
            case yw313_334 =>
              refine StepS.read [] (by kernel_rfl) (fun _ _ _ h => h) (by rfl) (fun L9 m9 w9 hSh hAt hDn hS => ?_)
              have x3 : w9.cell? ⟨w.heap.size, 3, none⟩ = some (.int .u64 sent) := (HB.out.ca (show Below _ _ w9 from hS)).cell 3
              clear hS
              go_simp
              try rfl
            try simp only [Act.put, List.setIfInBounds_toArray, List.set_cons_zero, List.set_cons_succ]
            refine Ps.step (i := 22) (d := some 52) (u := ?uw313_335) rfl rfl (by kernel_rfl) (by kernel_rfl) (by kernel_rfl) (by kernel_rfl) ?yw313_335 ?rw313_335
            case yw313_335 =>
              refine StepS.read [] (by kernel_rfl) (fun _ _ _ h => h) (by rfl) (fun L9 m9 w9 hSh hAt hDn hS => ?_)
              have hT : Below _ _ w9 := hS
              have x0 : w9.cell? ⟨w.heap.size, 0, none⟩ = some (.int .u32 ses) := (HB.out.ca hT).cell 0
              have x1 : w9.cell? ⟨w.heap.size, 1, none⟩ = some (.int .u64 base) := (HB.out.ca hT).cell 1
              have x2 : w9.cell? ⟨w.heap.size, 2, none⟩ = some (.slice A n c) := (HB.out.ca hT).cell 2
              have x3 : w9.cell? ⟨w.heap.size, 3, none⟩ = some (.int .u64 sent) := (HB.out.ca hT).cell 3
              have x4 : w9.cell? ⟨w.heap.size, 4, none⟩ = some (.int .u64 lim) := (HB.out.ca hT).cell 4
              have x5 : w9.cell? ⟨w.heap.size, 5, none⟩ = some (.int .i64 timer) := (HB.out.ca hT).cell 5
              have x6 : w9.cell? ⟨w.heap.size, 6, none⟩ = some (.bool true) := (HB.out.ca hT).cell 6
              clear hT hS
              go_simp
              try rfl
            try simp only [Act.put, List.setIfInBounds_toArray, List.set_cons_zero, List.set_cons_succ]
            refine Ps.step (i := 23) (d := some 53) (u := (.int .u64 (base - 1 + (n : Int)))) rfl rfl (by kernel_rfl) (by kernel_rfl) (by kernel_rfl) (by kernel_rfl) ?yw313_336 ?rw313_336
            case yw313_336 =>
              refine StepS.call ?fw313_336 ?aw313_336 [] (by kernel_rfl) (by rfl) (fun w9 => ?hw313_336) (fun L9 m9 w9 hSh hAt hDn hS => ?cw313_336)
              case hw313_336 => go_simp; refine ⟨?_, ?_⟩ <;> rfl
              case cw313_336 =>
                have hT : Below _ _ w9 := hS
                refine (last_any ⟨ses, base, q, sent, lim, timer, true⟩ A n c w9 (by dsimp only; omega) (by dsimp only; omega) (by omega)).mono ?_
                rintro e w8 ⟨rfl, q8⟩
                exact ⟨rfl, bl_ca hT q8⟩
            try simp only [Act.put, List.setIfInBounds_toArray, List.set_cons_zero, List.set_cons_succ]
            refine Ps.step (i := 24) (d := some 54) (u := ?uw313_337) rfl rfl (by kernel_rfl) (by kernel_rfl) (by kernel_rfl) (by kernel_rfl) ?yw313_337 ?rw313_337
            case yw313_337 =>
              refine StepS.pure (fun _ _ _ h => h) (by rfl) (fun w9 => ?_)
              go_simp
              try rfl
            try simp only [Act.put, List.setIfInBounds_toArray, List.set_cons_zero, List.set_cons_succ]
            refine Ps.step (i := 25) (d := some 55) (u := ?uw313_338) rfl rfl (by kernel_rfl) (by kernel_rfl) (by kernel_rfl) (by kernel_rfl) ?yw313_338 ?rw313_338
            case yw313_338 =>
              refine StepS.pure (fun _ _ _ h => h) (by rfl) (fun w9 => ?_)
              go_simp
              try rfl
            try simp only [Act.put, List.setIfInBounds_toArray, List.set_cons_zero, List.set_cons_succ]
            refine Ps.step (i := 26) (d := some 56) (u := ?uw313_339) rfl rfl (by kernel_rfl) (by kernel_rfl) (by kernel_rfl) (by kernel_rfl) ?yw313_339 ?rw313_339
            case yw313_339 =>
              refine StepS.pure (fun _ _ _ h => h) (by rfl) (fun w9 => ?_)
              go_simp
              try rfl
            try simp only [Act.put, List.setIfInBounds_toArray, List.set_cons_zero, List.set_cons_succ]
            refine Ps.step (i := 27) (d := some 57) (u := ?uw313_340) rfl rfl (by kernel_rfl) (by kernel_rfl) (by kernel_rfl) (by kernel_rfl) ?yw313_340 ?rw313_340
            case yw313_340 =>
              refine StepS.pure (fun _ _ _ h => h) (by rfl) (fun w9 => ?_)
              go_simp
              try rfl
            try simp only [Act.put, List.setIfInBounds_toArray, List.set_cons_zero, List.set_cons_succ]
            refine Ps.step (i := 28) (d := some 58) (u := ?uw313_341) rfl rfl (by kernel_rfl) (by kernel_rfl) (by kernel_rfl) (by kernel_rfl) ?yw313_341 ?rw313_341
            case yw313_341 =>
              refine StepS.read [] (by kernel_rfl) (fun _ _ _ h => h) (by rfl) (fun L9 m9 w9 hSh hAt hDn hS => ?_)
              have x4 : w9.cell? ⟨w.heap.size, 4, none⟩ = some (.int .u64 lim) := (HB.out.ca (show Below _ _ w9 from hS)).cell 4
              clear hS
              go_simp
              try rfl
            try simp only [Act.put, List.setIfInBounds_toArray, List.set_cons_zero, List.set_cons_succ]
            refine Ps.step (i := 29) (d := some 59) (u := ?uw313_342) rfl rfl (by kernel_rfl) (by kernel_rfl) (by kernel_rfl) (by kernel_rfl) ?yw313_342 ?rw313_342
            case yw313_342 =>
              refine StepS.pure (fun _ _ _ h => h) (by rfl) (fun w9 => ?_)
              go_simp
              try rfl
            try simp only [Act.put, List.setIfInBounds_toArray, List.set_cons_zero, List.set_cons_succ]
            refine Ps.step (i := 30) (d := some 60) (u := ?uw313_343) rfl rfl (by kernel_rfl) (by kernel_rfl) (by kernel_rfl) (by kernel_rfl) ?yw313_343 ?rw313_343
            case yw313_343 =>
              refine StepS.read [] (by kernel_rfl) (fun _ _ _ h => h) (by rfl) (fun L9 m9 w9 hSh hAt hDn hS => ?_)
              have x3 : w9.cell? ⟨w.heap.size, 3, none⟩ = some (.int .u64 sent) := (HB.out.ca (show Below _ _ w9 from hS)).cell 3
              clear hS
              go_simp
              try rfl
            try simp only [Act.put, List.setIfInBounds_toArray, List.set_cons_zero, List.set_cons_succ]
            refine Ps.step (i := 31) (d := some 61) (u := ?uw313_344) rfl rfl (by kernel_rfl) (by kernel_rfl) (by kernel_rfl) (by kernel_rfl) ?yw313_344 ?rw313_344
            case yw313_344 =>
              refine StepS.pure (fun _ _ _ h => h) (by rfl) (fun w9 => ?_)
              go_simp
              try rfl
            try simp only [Act.put, List.setIfInBounds_toArray, List.set_cons_zero, List.set_cons_succ]
            refine Ps.step (i := 32) (d := some 62) (u := ?uw313_345) rfl rfl (by kernel_rfl) (by kernel_rfl) (by kernel_rfl) (by kernel_rfl) ?yw313_345 ?rw313_345
            case yw313_345 =>
              refine StepS.pure (fun _ _ _ h => h) (by rfl) (fun w9 => ?_)
              go_simp
              try rfl
            try simp only [Act.put, List.setIfInBounds_toArray, List.set_cons_zero, List.set_cons_succ]
            refine Ps.step (i := 33) (d := some 63) (u := ?uw313_346) rfl rfl (by kernel_rfl) (by kernel_rfl) (by kernel_rfl) (by kernel_rfl) ?yw313_346 ?rw313_346
            case yw313_346 =>
              refine StepS.pure (fun _ _ _ h => h) (by rfl) (fun w9 => ?_)
              go_simp
              try rfl
            try simp only [Act.put, List.setIfInBounds_toArray, List.set_cons_zero, List.set_cons_succ]
            refine Ps.step (i := 34) (d := some 64) (u := undef) rfl rfl (by kernel_rfl) (by kernel_rfl) (by kernel_rfl) (by kernel_rfl) ?yw313_347 ?rw313_347
            case yw313_347 =>
              exact StepS.skip (fun _ _ _ h => h) (by rfl)
            try simp only [Act.put, List.setIfInBounds_toArray, List.set_cons_zero, List.set_cons_succ]
            refine Ps.step (i := 35) (d := some 65) (u := undef) rfl rfl (by kernel_rfl) (by kernel_rfl) (by kernel_rfl) (by kernel_rfl) ?yw313_348 ?rw313_348
            case yw313_348 =>
              exact StepS.skip (fun _ _ _ h => h) (by rfl)
            try simp only [Act.put, List.setIfInBounds_toArray, List.set_cons_zero, List.set_cons_succ]
            refine Ps.step (i := 36) (d := some 66) (u := undef) rfl rfl (by kernel_rfl) (by kernel_rfl) (by kernel_rfl) (by kernel_rfl) ?yw313_349 ?rw313_349
            case yw313_349 =>
              exact StepS.skip (fun _ _ _ h => h) (by rfl)
            try simp only [Act.put, List.setIfInBounds_toArray, List.set_cons_zero, List.set_cons_succ]
            refine Ps.step (i := 37) (d := some 67) (u := ?uw313_350) rfl rfl (by kernel_rfl) (by kernel_rfl) (by kernel_rfl) (by kernel_rfl) ?yw313_350 ?rw313_350
            case yw313_350 =>
              refine StepS.pure (fun _ _ _ h => h) (by rfl) (fun w9 => ?_)
              go_simp
              try rfl
            try simp only [Act.put, List.setIfInBounds_toArray, List.set_cons_zero, List.set_cons_succ]
            refine Ps.step (i := 38) (d := some 3) (u := ?uw313_351) rfl rfl (by kernel_rfl) (by kernel_rfl) (by kernel_rfl) (by kernel_rfl) ?yw313_351 ?rw313_351
            case yw313_351 =>
              refine StepS.pure (fun _ _ _ h => h) (by rfl) (fun w9 => ?_)
              go_simp
              try rfl
            try simp only [Act.put, List.setIfInBounds_toArray, List.set_cons_zero, List.set_cons_succ]
            refine Ps.done (by kernel_rfl) (fun w313 hS => ?_) _
            have HQ := Lib.hid (show Below w3.heap.size w3 _ from hS)
            clear hS
            obtain ⟨w7, rfl⟩ : ∃ x, x = w313 := ⟨_, rfl⟩
            have x3 : w7.cell? ⟨w.heap.size, 3, none⟩ = some (.int .u64 sent) := (HB.out.ca HQ.out).cell 3
            have x1 : w7.cell? ⟨w.heap.size, 1, none⟩ = some (.int .u64 base) := (HB.out.ca HQ.out).cell 1
            have x5 : w7.cell? ⟨w.heap.size, 5, none⟩ = some (.int .i64 timer) := (HB.out.ca HQ.out).cell 5
            go_wp2
            go_ret
            exact ⟨ret_int (by rw [HRR.out, HSB.out, HF.out]; rfl), bl_ca HBB.out HQ.out⟩
        · have e1 : decide (sent ≤ base - 1 + (n : Int)) = false := by simpa using d1
          have HF := Lib.hid (show sendM ⟨ses, base, q, sent, lim, timer, true⟩ = false from by unfold sendM; rw [HL.out, ← HEE.out]; simp [d1])
          go_enter Try.func20, Try.ntmps20
          go_wp2_with fail
          generalize w.alloc (.cells #[.int .u32 ses, .int .u64 base, .slice A n c, .int .u64 sent, .int .u64 lim, .int .i64 timer, .bool true] 29) = w1 at *
          refine (HSS.out _).mono ?_
          rintro e w2 ⟨rfl, rfl⟩
          go_wp2_with fail
          refine HIN.out.mono ?_
          rintro e w3 ⟨rfl, q3⟩
          replace HB := Lib.hid (HB.out.ca q3)
          replace HR := Lib.hid (Lay.rd_below HR.out q3)
          replace HBB := Lib.hid (bl_ca HBB.out q3)
          clear q3 x0 x1 x2 HIN
          go_wp2_with fail
          refine wp_region_ps (S := fun _ _ w' => Below w3.heap.size w3 w') (by kernel_rfl) ?spsw352 ?ppsw352
          case spsw352 =>
            exact (Below.refl _ _).drew
          refine Ps.step (i := 0) (d := some 30) (u := ?uw352_352) rfl rfl (by kernel_rfl) (by kernel_rfl) (by kernel_rfl) (by kernel_rfl) ?yw352_352 ?rw352_352
          case yw352_352 =>
            refine StepS.pure (fun _ _ _ h => h) (by rfl) (fun w9 => ?_)
            go_simp
            try rfl
          try simp only [Act.put, List.setIfInBounds_toArray, List.set_cons_zero, List.set_cons_succ]
          refine Ps.step (i := 1) (d := some 31) (u := ?uw352_353) rfl rfl (by kernel_rfl) (by kernel_rfl) (by kernel_rfl) (by kernel_rfl) ?yw352_353 ?rw352_353
          case yw352_353 =>
            refine StepS.pure (fun _ _ _ h => h) (by rfl) (fun w9 => ?_)
            go_simp
            try rfl
          try simp only [Act.put, List.setIfInBounds_toArray, List.set_cons_zero, List.set_cons_succ]
          refine Ps.step (i := 2) (d := some 32) (u := ?uw352_354) rfl rfl (by kernel_rfl) (by kernel_rfl) (by kernel_rfl) (by kernel_rfl) ?yw352_354 ?rw352_354
          case yw352_354 =>
            refine StepS.pure (fun _ _ _ h => h) (by rfl) (fun w9 => ?_)
            go_simp
            try rfl
          try simp only [Act.put, List.setIfInBounds_toArray, List.set_cons_zero, List.set_cons_succ]
          refine Ps.step (i := 3) (d := some 33) (u := ?uw352_355) rfl rfl (by kernel_rfl) (by kernel_rfl) (by kernel_rfl) (by kernel_rfl) ?yw352_355 ?rw352_355
          case yw352_355 =>
            refine StepS.read [] (by kernel_rfl) (fun _ _ _ h => h) (by rfl) (fun L9 m9 w9 hSh hAt hDn hS => ?_)
            have x6 : w9.cell? ⟨w.heap.size, 6, none⟩ = some (.bool true) := (HB.out.ca (show Below _ _ w9 from hS)).cell 6
            clear hS
            go_simp
            try rfl
          try simp only [Act.put, List.setIfInBounds_toArray, List.set_cons_zero, List.set_cons_succ]
          refine Ps.step (i := 4) (d := some 34) (u := ?uw352_356) rfl rfl (by kernel_rfl) (by kernel_rfl) (by kernel_rfl) (by kernel_rfl) ?yw352_356 ?rw352_356
          case yw352_356 =>
            refine StepS.pure (fun _ _ _ h => h) (by rfl) (fun w9 => ?_)
            go_simp
            try rfl
          try simp only [Act.put, List.setIfInBounds_toArray, List.set_cons_zero, List.set_cons_succ]
          refine Ps.step (i := 5) (d := some 35) (u := undef) rfl rfl (by kernel_rfl) (by kernel_rfl) (by kernel_rfl) (by kernel_rfl) ?yw352_357 ?rw352_357
          case yw352_357 =>
            exact StepS.skip (fun _ _ _ h => h) (by rfl)
          try simp only [Act.put, List.setIfInBounds_toArray, List.set_cons_zero, List.set_cons_succ]
          refine Ps.step (i := 6) (d := some 36) (u := undef) rfl rfl (by kernel_rfl) (by kernel_rfl) (by kernel_rfl) (by kernel_rfl) ?yw352_358 ?rw352_358
          case yw352_358 =>
            exact StepS.skip (fun _ _ _ h => h) (by rfl)
          try simp only [Act.put, List.setIfInBounds_toArray, List.set_cons_zero, List.set_cons_succ]
          refine Ps.step (i := 7) (d := some 37) (u := undef) rfl rfl (by kernel_rfl) (by kernel_rfl) (by kernel_rfl) (by kernel_rfl) ?yw352_359 ?rw352_359
          case yw352_359 =>
            exact StepS.skip (fun _ _ _ h => h) (by rfl)
          try simp only [Act.put, List.setIfInBounds_toArray, List.set_cons_zero, List.set_cons_succ]
          refine Ps.step (i := 8) (d := some 38) (u := undef) rfl rfl (by kernel_rfl) (by kernel_rfl) (by kernel_rfl) (by kernel_rfl) ?yw352_360 ?rw352_360
          case yw352_360 =>
            exact StepS.skip (fun _ _ _ h => h) (by rfl)
          try simp only [Act.put, List.setIfInBounds_toArray, List.set_cons_zero, List.set_cons_succ]
          refine Ps.step (i := 9) (d := some 39) (u := ?uw352_361) rfl rfl (by kernel_rfl) (by kernel_rfl) (by kernel_rfl) (by kernel_rfl) ?yw352_361 ?rw352_361
          case yw352_361 =>
            refine StepS.pure (fun _ _ _ h => h) (by rfl) (fun w9 => ?_)
            go_simp
            try rfl
          try simp only [Act.put, List.setIfInBounds_toArray, List.set_cons_zero, List.set_cons_succ]
          refine Ps.step (i := 10) (d := some 40) (u := ?uw352_362) rfl rfl (by kernel_rfl) (by kernel_rfl) (by kernel_rfl) (by kernel_rfl) ?yw352_362 ?rw352_362
          case yw352_362 =>
            refine StepS.pure (fun _ _ _ h => h) (by rfl) (fun w9 => ?_)
            go_simp
            try rfl
          try simp only [Act.put, List.setIfInBounds_toArray, List.set_cons_zero, List.set_cons_succ]
          refine Ps.step (i := 11) (d := some 41) (u := ?uw352_363) rfl rfl (by kernel_rfl) (by kernel_rfl) (by kernel_rfl) (by kernel_rfl) ?yw352_363 ?rw352_363
          case yw352_363 =>
            refine StepS.pure (fun _ _ _ h => h) (by rfl) (fun w9 => ?_)
            go_simp
            try rfl
          try simp only [Act.put, List.setIfInBounds_toArray, List.set_cons_zero, List.set_cons_succ]
          refine Ps.step (i := 12) (d := some 42) (u := ?uw352_364) rfl rfl (by kernel_rfl) (by kernel_rfl) (by kernel_rfl) (by kernel_rfl) ?yw352_364 ?rw352_364
          case yw352_364 =>
            refine StepS.pure (fun _ _ _ h => h) (by rfl) (fun w9 => ?_)
            go_simp
            try rfl
          try simp only [Act.put, List.setIfInBounds_toArray, List.set_cons_zero, List.set_cons_succ]
          refine Ps.step (i := 13) (d := some 43) (u := ?uw352_365) rfl rfl (by kernel_rfl) (by kernel_rfl) (by kernel_rfl) (by kernel_rfl) ?yw352_365 ?rw352_365
          case yw352_365 =>
            refine StepS.read [] (by kernel_rfl) (fun _ _ _ h => h) (by rfl) (fun L9 m9 w9 hSh hAt hDn hS => ?_)
            have x3 : w9.cell? ⟨w.heap.size, 3, none⟩ = some (.int .u64 sent) := (HB.out.ca (show Below _ _ w9 from hS)).cell 3
            clear hS
            go_simp
            try rfl
          try simp only [Act.put, List.setIfInBounds_toArray, List.set_cons_zero, List.set_cons_succ]
          refine Ps.step (i := 14) (d := some 44) (u := ?uw352_366) rfl rfl (by kernel_rfl) (by kernel_rfl) (by kernel_rfl) (by kernel_rfl) ?yw352_366 ?rw352_366
          case yw352_366 =>
            refine StepS.pure (fun _ _ _ h => h) (by rfl) (fun w9 => ?_)
            go_simp
            try rfl
          try simp only [Act.put, List.setIfInBounds_toArray, List.set_cons_zero, List.set_cons_succ]
          refine Ps.step (i := 15) (d := some 45) (u := ?uw352_367) rfl rfl (by kernel_rfl) (by kernel_rfl) (by kernel_rfl) (by kernel_rfl) ?yw352_367 ?rw352_367
          case yw352_367 =>
            refine StepS.read [] (by kernel_rfl) (fun _ _ _ h => h) (by rfl) (fun L9 m9 w9 hSh hAt hDn hS => ?_)
            have x1 : w9.cell? ⟨w.heap.size, 1, none⟩ = some (.int .u64 base) := (HB.out.ca (show Below _ _ w9 from hS)).cell 1
            clear hS
            go_simp
            try rfl
          try simp only [Act.put, List.setIfInBounds_toArray, List.set_cons_zero, List.set_cons_succ]
          refine Ps.step (i := 16) (d := some 46) (u := ?uw352_368) rfl rfl (by kernel_rfl) (by kernel_rfl) (by kernel_rfl) (by kernel_rfl) ?yw352_368 ?rw352_368
          case yw352_368 =>
            refine StepS.pure (fun _ _ _ h => h) (by rfl) (fun w9 => ?_)
            go_simp
            try rfl
          try simp only [Act.put, List.setIfInBounds_toArray, List.set_cons_zero, List.set_cons_succ]
          refine Ps.step (i := 17) (d := some 47) (u := ?uw352_369) rfl rfl (by kernel_rfl) (by kernel_rfl) (by kernel_rfl) (by kernel_rfl) ?yw352_369 ?rw352_369
          case yw352_369 =>
            refine StepS.pure (fun _ _ _ h => h) (by rfl) (fun w9 => ?_)
            go_simp
            try rfl
          try simp only [Act.put, List.setIfInBounds_toArray, List.set_cons_zero, List.set_cons_succ]
          refine Ps.step (i := 18) (d := some 48) (u := ?uw352_370) rfl rfl (by kernel_rfl) (by kernel_rfl) (by kernel_rfl) (by kernel_rfl) ?yw352_370 ?rw352_370
          case yw352_370 =>
            refine StepS.pure (fun _ _ _ h => h) (by rfl) (fun w9 => ?_)
            go_simp
            try rfl
          try simp only [Act.put, List.setIfInBounds_toArray, List.set_cons_zero, List.set_cons_succ]
          refine Ps.step (i := 19) (d := some 49) (u := ?uw352_371) rfl rfl (by kernel_rfl) (by kernel_rfl) (by kernel_rfl) (by kernel_rfl) ?yw352_371 ?rw352_371
          case yw352_371 =>
            refine StepS.pure (fun _ _ _ h => h) (by rfl) (fun w9 => ?_)
            go_simp
            try rfl
          try simp only [Act.put, List.setIfInBounds_toArray, List.set_cons_zero, List.set_cons_succ]
          refine Ps.step (i := 20) (d := some 50) (u := ?uw352_372) rfl rfl (by kernel_rfl) (by kernel_rfl) (by kernel_rfl) (by kernel_rfl) ?yw352_372 ?rw352_372
          case yw352_372 =>
            refine StepS.pure (fun _ _ _ h => h) (by rfl) (fun w9 => ?_)
            go_simp
            try rfl
          try simp only [Act.put, List.setIfInBounds_toArray, List.set_cons_zero, List.set_cons_succ]
          refine Ps.step (i := 21) (d := some 51) (u := ?uw352_373) rfl rfl (by kernel_rfl) (by kernel_rfl) (by kernel_rfl) (by kernel_rfl) ?yw352_373 ?rw352_373
          case yw352_373 =>
            refine StepS.read [] (by kernel_rfl) (fun _ _ _ h => h) (by rfl) (fun L9 m9 w9 hSh hAt hDn hS => ?_)
            have x3 : w9.cell? ⟨w.heap.size, 3, none⟩ = some (.int .u64 sent) := (HB.out.ca (show Below _ _ w9 from hS)).cell 3
            clear hS
            go_simp
            try rfl
          try simp only [Act.put, List.setIfInBounds_toArray, List.set_cons_zero, List.set_cons_succ]
          refine Ps.step (i := 22) (d := some 52) (u := ?uw352_374) rfl rfl (by kernel_rfl) (by kernel_rfl) (by kernel_rfl) (by kernel_rfl) ?yw352_374 ?rw352_374
          case yw352_374 =>
            refine StepS.read [] (by kernel_rfl) (fun _ _ _ h => h) (by rfl) (fun L9 m9 w9 hSh hAt hDn hS => ?_)
            have hT : Below _ _ w9 := hS
            have x0 : w9.cell? ⟨w.heap.size, 0, none⟩ = some (.int .u32 ses) := (HB.out.ca hT).cell 0
            have x1 : w9.cell? ⟨w.heap.size, 1, none⟩ = some (.int .u64 base) := (HB.out.ca hT).cell 1
            have x2 : w9.cell? ⟨w.heap.size, 2, none⟩ = some (.slice A n c) := (HB.out.ca hT).cell 2
            have x3 : w9.cell? ⟨w.heap.size, 3, none⟩ = some (.int .u64 sent) := (HB.out.ca hT).cell 3
            have x4 : w9.cell? ⟨w.heap.size, 4, none⟩ = some (.int .u64 lim) := (HB.out.ca hT).cell 4
            have x5 : w9.cell? ⟨w.heap.size, 5, none⟩ = some (.int .i64 timer) := (HB.out.ca hT).cell 5
            have x6 : w9.cell? ⟨w.heap.size, 6, none⟩ = some (.bool true) := (HB.out.ca hT).cell 6
            clear hT hS
            go_simp
            try rfl
          try simp only [Act.put, List.setIfInBounds_toArray, List.set_cons_zero, List.set_cons_succ]
          refine Ps.step (i := 23) (d := some 53) (u := (.int .u64 (base - 1 + (n : Int)))) rfl rfl (by kernel_rfl) (by kernel_rfl) (by kernel_rfl) (by kernel_rfl) ?yw352_375 ?rw352_375
          case yw352_375 =>
            refine StepS.call ?fw352_375 ?aw352_375 [] (by kernel_rfl) (by rfl) (fun w9 => ?hw352_375) (fun L9 m9 w9 hSh hAt hDn hS => ?cw352_375)
            case hw352_375 => go_simp; refine ⟨?_, ?_⟩ <;> rfl
            case cw352_375 =>
              have hT : Below _ _ w9 := hS
              refine (last_any ⟨ses, base, q, sent, lim, timer, true⟩ A n c w9 (by dsimp only; omega) (by dsimp only; omega) (by omega)).mono ?_
              rintro e w8 ⟨rfl, q8⟩
              exact ⟨rfl, bl_ca hT q8⟩
          try simp only [Act.put, List.setIfInBounds_toArray, List.set_cons_zero, List.set_cons_succ]
          refine Ps.step (i := 24) (d := some 54) (u := ?uw352_376) rfl rfl (by kernel_rfl) (by kernel_rfl) (by kernel_rfl) (by kernel_rfl) ?yw352_376 ?rw352_376
          case yw352_376 =>
            refine StepS.pure (fun _ _ _ h => h) (by rfl) (fun w9 => ?_)
            go_simp
            try rfl
          try simp only [Act.put, List.setIfInBounds_toArray, List.set_cons_zero, List.set_cons_succ]
          refine Ps.step (i := 25) (d := some 55) (u := ?uw352_377) rfl rfl (by kernel_rfl) (by kernel_rfl) (by kernel_rfl) (by kernel_rfl) ?yw352_377 ?rw352_377
          case yw352_377 =>
            refine StepS.pure (fun _ _ _ h => h) (by rfl) (fun w9 => ?_)
            go_simp
            try rfl
          try simp only [Act.put, List.setIfInBounds_toArray, List.set_cons_zero, List.set_cons_succ]
          refine Ps.step (i := 26) (d := some 56) (u := ?uw352_378) rfl rfl (by kernel_rfl) (by kernel_rfl) (by kernel_rfl) (by kernel_rfl) ?yw352_378 ?rw352_378
          case yw352_378 =>
            refine StepS.pure (fun _ _ _ h => h) (by rfl) (fun w9 => ?_)
            go_simp
            try rfl
          try simp only [Act.put, List.setIfInBounds_toArray, List.set_cons_zero, List.set_cons_succ]
          refine Ps.step (i := 27) (d := some 57) (u := undef) rfl rfl (by kernel_rfl) (by kernel_rfl) (by kernel_rfl) (by kernel_rfl) ?yw352_379 ?rw352_379
          case yw352_379 =>
            exact StepS.skip (fun _ _ _ h => h) (by rfl)
          try simp only [Act.put, List.setIfInBounds_toArray, List.set_cons_zero, List.set_cons_succ]
          refine Ps.step (i := 28) (d := some 58) (u := undef) rfl rfl (by kernel_rfl) (by kernel_rfl) (by kernel_rfl) (by kernel_rfl) ?yw352_380 ?rw352_380
          case yw352_380 =>
            exact StepS.skip (fun _ _ _ h => h) (by rfl)
          try simp only [Act.put, List.setIfInBounds_toArray, List.set_cons_zero, List.set_cons_succ]
          refine Ps.step (i := 29) (d := some 59) (u := undef) rfl rfl (by kernel_rfl) (by kernel_rfl) (by kernel_rfl) (by kernel_rfl) ?yw352_381 ?rw352_381
          case yw352_381 =>
            exact StepS.skip (fun _ _ _ h => h) (by rfl)
          try simp only [Act.put, List.setIfInBounds_toArray, List.set_cons_zero, List.set_cons_succ]
          refine Ps.step (i := 30) (d := some 60) (u := undef) rfl rfl (by kernel_rfl) (by kernel_rfl) (by kernel_rfl) (by kernel_rfl) ?yw352_382 ?rw352_382
          case yw352_382 =>
            exact StepS.skip (fun _ _ _ h => h) (by rfl)
          try simp only [Act.put, List.setIfInBounds_toArray, List.set_cons_zero, List.set_cons_succ]
          refine Ps.step (i := 31) (d := some 61) (u := undef) rfl rfl (by kernel_rfl) (by kernel_rfl) (by kernel_rfl) (by kernel_rfl) ?yw352_383 ?rw352_383
          case yw352_383 =>
            exact StepS.skip (fun _ _ _ h => h) (by rfl)
          try simp only [Act.put, List.setIfInBounds_toArray, List.set_cons_zero, List.set_cons_succ]
          refine Ps.step (i := 32) (d := some 62) (u := ?uw352_384) rfl rfl (by kernel_rfl) (by kernel_rfl) (by kernel_rfl) (by kernel_rfl) ?yw352_384 ?rw352_384
          case yw352_384 =>
            refine StepS.pure (fun _ _ _ h => h) (by rfl) (fun w9 => ?_)
            go_simp
            try rfl
          try simp only [Act.put, List.setIfInBounds_toArray, List.set_cons_zero, List.set_cons_succ]
          refine Ps.step (i := 33) (d := some 63) (u := ?uw352_385) rfl rfl (by kernel_rfl) (by kernel_rfl) (by kernel_rfl) (by kernel_rfl) ?yw352_385 ?rw352_385
          case yw352_385 =>
            refine StepS.pure (fun _ _ _ h => h) (by rfl) (fun w9 => ?_)
            go_simp
            try rfl
          try simp only [Act.put, List.setIfInBounds_toArray, List.set_cons_zero, List.set_cons_succ]
          refine Ps.step (i := 34) (d := some 64) (u := undef) rfl rfl (by kernel_rfl) (by kernel_rfl) (by kernel_rfl) (by kernel_rfl) ?yw352_386 ?rw352_386
          case yw352_386 =>
            exact StepS.skip (fun _ _ _ h => h) (by rfl)
          try simp only [Act.put, List.setIfInBounds_toArray, List.set_cons_zero, List.set_cons_succ]
          refine Ps.step (i := 35) (d := some 65) (u := undef) rfl rfl (by kernel_rfl) (by kernel_rfl) (by kernel_rfl) (by kernel_rfl) ?yw352_387 ?rw352_387
          case yw352_387 =>
            exact StepS.skip (fun _ _ _ h => h) (by rfl)
          try simp only [Act.put, List.setIfInBounds_toArray, List.set_cons_zero, List.set_cons_succ]
          refine Ps.step (i := 36) (d := some 66) (u := undef) rfl rfl (by kernel_rfl) (by kernel_rfl) (by kernel_rfl) (by kernel_rfl) ?yw352_388 ?rw352_388
          case yw352_388 =>
            exact StepS.skip (fun _ _ _ h => h) (by rfl)
          try simp only [Act.put, List.setIfInBounds_toArray, List.set_cons_zero, List.set_cons_succ]
          refine Ps.step (i := 37) (d := some 67) (u := ?uw352_389) rfl rfl (by kernel_rfl) (by kernel_rfl) (by kernel_rfl) (by kernel_rfl) ?yw352_389 ?rw352_389
          case yw352_389 =>
            refine StepS.pure (fun _ _ _ h => h) (by rfl) (fun w9 => ?_)
            go_simp
            try rfl
          try simp only [Act.put, List.setIfInBounds_toArray, List.set_cons_zero, List.set_cons_succ]
          refine Ps.step (i := 38) (d := some 3) (u := ?uw352_390) rfl rfl (by kernel_rfl) (by kernel_rfl) (by kernel_rfl) (by kernel_rfl) ?yw352_390 ?rw352_390
          case yw352_390 =>
            refine StepS.pure (fun _ _ _ h => h) (by rfl) (fun w9 => ?_)
            go_simp
            try rfl
          try simp only [Act.put, List.setIfInBounds_toArray, List.set_cons_zero, List.set_cons_succ]
          refine Ps.done (by kernel_rfl) (fun w352 hS => ?_) _
          have HQ := Lib.hid (show Below w3.heap.size w3 _ from hS)
          clear hS
          obtain ⟨w7, rfl⟩ : ∃ x, x = w352 := ⟨_, rfl⟩
          have x3 : w7.cell? ⟨w.heap.size, 3, none⟩ = some (.int .u64 sent) := (HB.out.ca HQ.out).cell 3
          have x1 : w7.cell? ⟨w.heap.size, 1, none⟩ = some (.int .u64 base) := (HB.out.ca HQ.out).cell 1
          have x5 : w7.cell? ⟨w.heap.size, 5, none⟩ = some (.int .i64 timer) := (HB.out.ca HQ.out).cell 5
          go_wp2
          go_ret
          exact ⟨ret_int (by rw [HRR.out, HSB.out, HF.out]; rfl), bl_ca HBB.out HQ.out⟩
      · have e0 : decide (base - 1 ≤ sent) = false := by simpa using d0
        have HF := Lib.hid (show sendM ⟨ses, base, q, sent, lim, timer, true⟩ = false from by unfold sendM; rw [HL.out, ← HEE.out]; simp [d0])
        go_enter Try.func20, Try.ntmps20
        go_wp2_with fail
        generalize w.alloc (.cells #[.int .u32 ses, .int .u64 base, .slice A n c, .int .u64 sent, .int .u64 lim, .int .i64 timer, .bool true] 29) = w1 at *
        refine (HSS.out _).mono ?_
        rintro e w2 ⟨rfl, rfl⟩
        go_wp2_with fail
        refine HIN.out.mono ?_
        rintro e w3 ⟨rfl, q3⟩
        replace HB := Lib.hid (HB.out.ca q3)
        replace HR := Lib.hid (Lay.rd_below HR.out q3)
        replace HBB := Lib.hid (bl_ca HBB.out q3)
        clear q3 x0 x1 x2 HIN
        go_wp2_with fail
        refine wp_region_ps (S := fun _ _ w' => Below w3.heap.size w3 w') (by kernel_rfl) ?spsw391 ?ppsw391
        case spsw391 =>
          exact (Below.refl _ _).drew
        refine Ps.step (i := 0) (d := some 30) (u := ?uw391_391) rfl rfl (by kernel_rfl) (by kernel_rfl) (by kernel_rfl) (by kernel_rfl) ?yw391_391 ?rw391_391
        case yw391_391 =>
          refine StepS.pure (fun _ _ _ h => h) (by rfl) (fun w9 => ?_)
          go_simp
          try rfl
        try simp only [Act.put, List.setIfInBounds_toArray, List.set_cons_zero, List.set_cons_succ]
        refine Ps.step (i := 1) (d := some 31) (u := ?uw391_392) rfl rfl (by kernel_rfl) (by kernel_rfl) (by kernel_rfl) (by kernel_rfl) ?yw391_392 ?rw391_392
        case yw391_392 =>
          refine StepS.pure (fun _ _ _ h => h) (by rfl) (fun w9 => ?_)
          go_simp
          try rfl
        try simp only [Act.put, List.setIfInBounds_toArray, List.set_cons_zero, List.set_cons_succ]
        refine Ps.step (i := 2) (d := some 32) (u := ?uw391_393) rfl rfl (by kernel_rfl) (by kernel_rfl) (by kernel_rfl) (by kernel_rfl) ?yw391_393 ?rw391_393
        case yw391_393 =>
          refine StepS.pure (fun _ _ _ h => h) (by rfl) (fun w9 => ?_)
          go_simp
          try rfl
        try simp only [Act.put, List.setIfInBounds_toArray, List.set_cons_zero, List.set_cons_succ]
        refine Ps.step (i := 3) (d := some 33) (u := ?uw391_394) rfl rfl (by kernel_rfl) (by kernel_rfl) (by kernel_rfl) (by kernel_rfl) ?yw391_394 ?rw391_394
        case yw391_394 =>
          refine StepS.read [] (by kernel_rfl) (fun _ _ _ h => h) (by rfl) (fun L9 m9 w9 hSh hAt hDn hS => ?_)
          have x6 : w9.cell? ⟨w.heap.size, 6, none⟩ = some (.bool true) := (HB.out.ca (show Below _ _ w9 from hS)).cell 6
          clear hS
          go_simp
          try rfl
        try simp only [Act.put, List.setIfInBounds_toArray, List.set_cons_zero, List.set_cons_succ]
        refine Ps.step (i := 4) (d := some 34) (u := ?uw391_395) rfl rfl (by kernel_rfl) (by kernel_rfl) (by kernel_rfl) (by kernel_rfl) ?yw391_395 ?rw391_395
        case yw391_395 =>
          refine StepS.pure (fun _ _ _ h => h) (by rfl) (fun w9 => ?_)
          go_simp
          try rfl
        try simp only [Act.put, List.setIfInBounds_toArray, List.set_cons_zero, List.set_cons_succ]
        refine Ps.step (i := 5) (d := some 35) (u := undef) rfl rfl (by kernel_rfl) (by kernel_rfl) (by kernel_rfl) (by kernel_rfl) ?yw391_396 ?rw391_396
        case yw391_396 =>
          exact StepS.skip (fun _ _ _ h => h) (by rfl)
        try simp only [Act.put, List.setIfInBounds_toArray, List.set_cons_zero, List.set_cons_succ]
        refine Ps.step (i := 6) (d := some 36) (u := undef) rfl rfl (by kernel_rfl) (by kernel_rfl) (by kernel_rfl) (by kernel_rfl) ?yw391_397 ?rw391_397
        case yw391_397 =>
          exact StepS.skip (fun _ _ _ h => h) (by rfl)
        try simp only [Act.put, List.setIfInBounds_toArray, List.set_cons_zero, List.set_cons_succ]
        refine Ps.step (i := 7) (d := some 37) (u := undef) rfl rfl (by kernel_rfl) (by kernel_rfl) (by kernel_rfl) (by kernel_rfl) ?yw391_398 ?rw391_398
        case yw391_398 =>
          exact StepS.skip (fun _ _ _ h => h) (by rfl)
        try simp only [Act.put, List.setIfInBounds_toArray, List.set_cons_zero, List.set_cons_succ]
        refine Ps.step (i := 8) (d := some 38) (u := undef) rfl rfl (by kernel_rfl) (by kernel_rfl) (by kernel_rfl) (by kernel_rfl) ?yw391_399 ?rw391_399
        case yw391_399 =>
          exact StepS.skip (fun _ _ _ h => h) (by rfl)
        try simp only [Act.put, List.setIfInBounds_toArray, List.set_cons_zero, List.set_cons_succ]
        refine Ps.step (i := 9) (d := some 39) (u := ?uw391_400) rfl rfl (by kernel_rfl) (by kernel_rfl) (by kernel_rfl) (by kernel_rfl) ?yw391_400 ?rw391_400
        case yw391_400 =>
          refine StepS.pure (fun _ _ _ h => h) (by rfl) (fun w9 => ?_)
          go_simp
          try rfl
        try simp only [Act.put, List.setIfInBounds_toArray, List.set_cons_zero, List.set_cons_succ]
        refine Ps.step (i := 10) (d := some 40) (u := ?uw391_401) rfl rfl (by kernel_rfl) (by kernel_rfl) (by kernel_rfl) (by kernel_rfl) ?yw391_401 ?rw391_401
        case yw391_401 =>
          refine StepS.pure (fun _ _ _ h => h) (by rfl) (fun w9 => ?_)
          go_simp
          try rfl
        try simp only [Act.put, List.setIfInBounds_toArray, List.set_cons_zero, List.set_cons_succ]
        refine Ps.step (i := 11) (d := some 41) (u := ?uw391_402) rfl rfl (by kernel_rfl) (by kernel_rfl) (by kernel_rfl) (by kernel_rfl) ?yw391_402 ?rw391_402
        case yw391_402 =>
          refine StepS.pure (fun _ _ _ h => h) (by rfl) (fun w9 => ?_)
          go_simp
          try rfl
        try simp only [Act.put, List.setIfInBounds_toArray, List.set_cons_zero, List.set_cons_succ]
        refine Ps.step (i := 12) (d := some 42) (u := ?uw391_403) rfl rfl (by kernel_rfl) (by kernel_rfl) (by kernel_rfl) (by kernel_rfl) ?yw391_403 ?rw391_403
        case yw391_403 =>
          refine StepS.pure (fun _ _ _ h => h) (by rfl) (fun w9 => ?_)
          go_simp
          try rfl
        try simp only [Act.put, List.setIfInBounds_toArray, List.set_cons_zero, List.set_cons_succ]
        refine Ps.step (i := 13) (d := some 43) (u := ?uw391_404) rfl rfl (by kernel_rfl) (by kernel_rfl) (by kernel_rfl) (by kernel_rfl) ?yw391_404 ?rw391_404
        case yw391_404 =>
          refine StepS.read [] (by kernel_rfl) (fun _ _ _ h => h) (by rfl) (fun L9 m9 w9 hSh hAt hDn hS => ?_)
          have x3 : w9.cell? ⟨w.heap.size, 3, none⟩ = some (.int .u64 sent) := (HB.out.ca (show Below _ _ w9 from hS)).cell 3
          clear hS
          go_simp
          try rfl
        try simp only [Act.put, List.setIfInBounds_toArray, List.set_cons_zero, List.set_cons_succ]
        refine Ps.step (i := 14) (d := some 44) (u := ?uw391_405) rfl rfl (by kernel_rfl) (by kernel_rfl) (by kernel_rfl) (by kernel_rfl) ?yw391_405 ?rw391_405
        case yw391_405 =>
          refine StepS.pure (fun _ _ _ h => h) (by rfl) (fun w9 => ?_)
          go_simp
          try rfl
        try simp only [Act.put, List.setIfInBounds_toArray, List.set_cons_zero, List.set_cons_succ]
        refine Ps.step (i := 15) (d := some 45) (u := ?uw391_406) rfl rfl (by kernel_rfl) (by kernel_rfl) (by kernel_rfl) (by kernel_rfl) ?yw391_406 ?rw391_406
        case yw391_406 =>
          refine StepS.read [] (by kernel_rfl) (fun _ _ _ h => h) (by rfl) (fun L9 m9 w9 hSh hAt hDn hS => ?_)
          have x1 : w9.cell? ⟨w.heap.size, 1, none⟩ = some (.int .u64 base) := (HB.out.ca (show Below _ _ w9 from hS)).cell 1
          clear hS
          go_simp
          try rfl
        try simp only [Act.put, List.setIfInBounds_toArray, List.set_cons_zero, List.set_cons_succ]
        refine Ps.step (i := 16) (d := some 46) (u := ?uw391_407) rfl rfl (by kernel_rfl) (by kernel_rfl) (by kernel_rfl) (by kernel_rfl) ?yw391_407 ?rw391_407
        case yw391_407 =>
          refine StepS.pure (fun _ _ _ h => h) (by rfl) (fun w9 => ?_)
          go_simp
          try rfl
        try simp only [Act.put, List.setIfInBounds_toArray, List.set_cons_zero, List.set_cons_succ]
        refine Ps.step (i := 17) (d := some 47) (u := ?uw391_408) rfl rfl (by kernel_rfl) (by kernel_rfl) (by kernel_rfl) (by kernel_rfl) ?yw391_408 ?rw391_408
        case yw391_408 =>
          refine StepS.pure (fun _ _ _ h => h) (by rfl) (fun w9 => ?_)
          go_simp
          try rfl
        try simp only [Act.put, List.setIfInBounds_toArray, List.set_cons_zero, List.set_cons_succ]
        refine Ps.step (i := 18) (d := some 48) (u := ?uw391_409) rfl rfl (by kernel_rfl) (by kernel_rfl) (by kernel_rfl) (by kernel_rfl) ?yw391_409 ?rw391_409
        case yw391_409 =>
          refine StepS.pure (fun _ _ _ h => h) (by rfl) (fun w9 => ?_)
          go_simp
          try rfl
        try simp only [Act.put, List.setIfInBounds_toArray, List.set_cons_zero, List.set_cons_succ]
        refine Ps.step (i := 19) (d := some 49) (u := ?uw391_410) rfl rfl (by kernel_rfl) (by kernel_rfl) (by kernel_rfl) (by kernel_rfl) ?yw391_410 ?rw391_410
        case yw391_410 =>
          refine StepS.pure (fun _ _ _ h => h) (by rfl) (fun w9 => ?_)
          go_simp
          try rfl
        try simp only [Act.put, List.setIfInBounds_toArray, List.set_cons_zero, List.set_cons_succ]
        refine Ps.step (i := 20) (d := some 50) (u := undef) rfl rfl (by kernel_rfl) (by kernel_rfl) (by kernel_rfl) (by kernel_rfl) ?yw391_411 ?rw391_411
        case yw391_411 =>
          exact StepS.skip (fun _ _ _ h => h) (by rfl)
        try simp only [Act.put, List.setIfInBounds_toArray, List.set_cons_zero, List.set_cons_succ]
        refine Ps.step (i := 21) (d := some 51) (u := undef) rfl rfl (by kernel_rfl) (by kernel_rfl) (by kernel_rfl) (by kernel_rfl) ?yw391_412 ?rw391_412
        case yw391_412 =>
          exact StepS.skip (fun _ _ _ h => h) (by rfl)
        try simp only [Act.put, List.setIfInBounds_toArray, List.set_cons_zero, List.set_cons_succ]
        refine Ps.step (i := 22) (d := some 52) (u := undef) rfl rfl (by kernel_rfl) (by kernel_rfl) (by kernel_rfl) (by kernel_rfl) ?yw391_413 ?rw391_413
        case yw391_413 =>
          exact StepS.skip (fun _ _ _ h => h) (by rfl)
        try simp only [Act.put, List.setIfInBounds_toArray, List.set_cons_zero, List.set_cons_succ]
        refine Ps.step (i := 23) (d := some 53) (u := undef) rfl rfl (by kernel_rfl) (by kernel_rfl) (by kernel_rfl) (by kernel_rfl) ?yw391_414 ?rw391_414
        case yw391_414 =>
          exact StepS.skip (fun _ _ _ h => h) (by rfl)
        try simp only [Act.put, List.setIfInBounds_toArray, List.set_cons_zero, List.set_cons_succ]
        refine Ps.step (i := 24) (d := some 54) (u := undef) rfl rfl (by kernel_rfl) (by kernel_rfl) (by kernel_rfl) (by kernel_rfl) ?yw391_415 ?rw391_415
        case yw391_415 =>
          exact StepS.skip (fun _ _ _ h => h) (by rfl)
        try simp only [Act.put, List.setIfInBounds_toArray, List.set_cons_zero, List.set_cons_succ]
        refine Ps.step (i := 25) (d := some 55) (u := ?uw391_416) rfl rfl (by kernel_rfl) (by kernel_rfl) (by kernel_rfl) (by kernel_rfl) ?yw391_416 ?rw391_416
        case yw391_416 =>
          refine StepS.pure (fun _ _ _ h => h) (by rfl) (fun w9 => ?_)
          go_simp
          try rfl
        try simp only [Act.put, List.setIfInBounds_toArray, List.set_cons_zero, List.set_cons_succ]
        refine Ps.step (i := 26) (d := some 56) (u := ?uw391_417) rfl rfl (by kernel_rfl) (by kernel_rfl) (by kernel_rfl) (by kernel_rfl) ?yw391_417 ?rw391_417
        case yw391_417 =>
          refine StepS.pure (fun _ _ _ h => h) (by rfl) (fun w9 => ?_)
          go_simp
          try rfl
        try simp only [Act.put, List.setIfInBounds_toArray, List.set_cons_zero, List.set_cons_succ]
        refine Ps.step (i := 27) (d := some 57) (u := undef) rfl rfl (by kernel_rfl) (by kernel_rfl) (by kernel_rfl) (by kernel_rfl) ?yw391_418 ?rw391_418
        case yw391_418 =>
          exact StepS.skip (fun _ _ _ h => h) (by rfl)
        try simp only [Act.put, List.setIfInBounds_toArray, List.set_cons_zero, List.set_cons_succ]
        refine Ps.step (i := 28) (d := some 58) (u := undef) rfl rfl (by kernel_rfl) (by kernel_rfl) (by kernel_rfl) (by kernel_rfl) ?yw391_419 ?rw391_419
        case yw391_419 =>
          exact StepS.skip (fun _ _ _ h => h) (by rfl)
        try simp only [Act.put, List.setIfInBounds_toArray, List.set_cons_zero, List.set_cons_succ]
        refine Ps.step (i := 29) (d := some 59) (u := undef) rfl rfl (by kernel_rfl) (by kernel_rfl) (by kernel_rfl) (by kernel_rfl) ?yw391_420 ?rw391_420
        case yw391_420 =>
          exact StepS.skip (fun _ _ _ h => h) (by rfl)
        try simp only [Act.put, List.setIfInBounds_toArray, List.set_cons_zero, List.set_cons_succ]
        refine Ps.step (i := 30) (d := some 60) (u := undef) rfl rfl (by kernel_rfl) (by kernel_rfl) (by kernel_rfl) (by kernel_rfl) ?yw391_421 ?rw391_421
        case yw391_421 =>
          exact StepS.skip (fun _ _ _ h => h) (by rfl)
        try simp only [Act.put, List.setIfInBounds_toArray, List.set_cons_zero, List.set_cons_succ]
        refine Ps.step (i := 31) (d := some 61) (u := undef) rfl rfl (by kernel_rfl) (by kernel_rfl) (by kernel_rfl) (by kernel_rfl) ?yw391_422 ?rw391_422
        case yw391_422 =>
          exact StepS.skip (fun _ _ _ h => h) (by rfl)
        try simp only [Act.put, List.setIfInBounds_toArray, List.set_cons_zero, List.set_cons_succ]
        refine Ps.step (i := 32) (d := some 62) (u := ?uw391_423) rfl rfl (by kernel_rfl) (by kernel_rfl) (by kernel_rfl) (by kernel_rfl) ?yw391_423 ?rw391_423
        case yw391_423 =>
          refine StepS.pure (fun _ _ _ h => h) (by rfl) (fun w9 => ?_)
          go_simp
          try rfl
        try simp only [Act.put, List.setIfInBounds_toArray, List.set_cons_zero, List.set_cons_succ]
        refine Ps.step (i := 33) (d := some 63) (u := ?uw391_424) rfl rfl (by kernel_rfl) (by kernel_rfl) (by kernel_rfl) (by kernel_rfl) ?yw391_424 ?rw391_424
        case yw391_424 =>
          refine StepS.pure (fun _ _ _ h => h) (by rfl) (fun w9 => ?_)
          go_simp
          try rfl
        try simp only [Act.put, List.setIfInBounds_toArray, List.set_cons_zero, List.set_cons_succ]
        refine Ps.step (i := 34) (d := some 64) (u := undef) rfl rfl (by kernel_rfl) (by kernel_rfl) (by kernel_rfl) (by kernel_rfl) ?yw391_425 ?rw391_425
        case yw391_425 =>
          exact StepS.skip (fun _ _ _ h => h) (by rfl)
        try simp only [Act.put, List.setIfInBounds_toArray, List.set_cons_zero, List.set_cons_succ]
        refine Ps.step (i := 35) (d := some 65) (u := undef) rfl rfl (by kernel_rfl) (by kernel_rfl) (by kernel_rfl) (by kernel_rfl) ?yw391_426 ?rw391_426
        case yw391_426 =>
          exact StepS.skip (fun _ _ _ h => h) (by rfl)
        try simp only [Act.put, List.setIfInBounds_toArray, List.set_cons_zero, List.set_cons_succ]
        refine Ps.step (i := 36) (d := some 66) (u := undef) rfl rfl (by kernel_rfl) (by kernel_rfl) (by kernel_rfl) (by kernel_rfl) ?yw391_427 ?rw391_427
        case yw391_427 =>
          exact StepS.skip (fun _ _ _ h => h) (by rfl)
        try simp only [Act.put, List.setIfInBounds_toArray, List.set_cons_zero, List.set_cons_succ]
        refine Ps.step (i := 37) (d := some 67) (u := ?uw391_428) rfl rfl (by kernel_rfl) (by kernel_rfl) (by kernel_rfl) (by kernel_rfl) ?yw391_428 ?rw391_428
        case yw391_428 =>
          refine StepS.pure (fun _ _ _ h => h) (by rfl) (fun w9 => ?_)
          go_simp
          try rfl
        try simp only [Act.put, List.setIfInBounds_toArray, List.set_cons_zero, List.set_cons_succ]
        refine Ps.step (i := 38) (d := some 3) (u := ?uw391_429) rfl rfl (by kernel_rfl) (by kernel_rfl) (by kernel_rfl) (by kernel_rfl) ?yw391_429 ?rw391_429
        case yw391_429 =>
          refine StepS.pure (fun _ _ _ h => h) (by rfl) (fun w9 => ?_)
          go_simp
          try rfl
        try simp only [Act.put, List.setIfInBounds_toArray, List.set_cons_zero, List.set_cons_succ]
        refine Ps.done (by kernel_rfl) (fun w391 hS => ?_) _
        have HQ := Lib.hid (show Below w3.heap.size w3 _ from hS)
        clear hS
        obtain ⟨w7, rfl⟩ : ∃ x, x = w391 := ⟨_, rfl⟩
        have x3 : w7.cell? ⟨w.heap.size, 3, none⟩ = some (.int .u64 sent) := (HB.out.ca HQ.out).cell 3
        have x1 : w7.cell? ⟨w.heap.size, 1, none⟩ = some (.int .u64 base) := (HB.out.ca HQ.out).cell 1
        have x5 : w7.cell? ⟨w.heap.size, 5, none⟩ = some (.int .i64 timer) := (HB.out.ca HQ.out).cell 5
        go_wp2
        go_ret
        exact ⟨ret_int (by rw [HRR.out, HSB.out, HF.out]; rfl), bl_ca HBB.out HQ.out⟩
  · have HF := Lib.hid (show sendB ⟨ses, base, q, sent, lim, timer, ended⟩ = false from by unfold sendB; rw [show sendA ⟨ses, base, q, sent, lim, timer, ended⟩ = false from by simpa using hA]; rfl)
    cases zB
    · skip
      clear hA
      go_enter Try.func20, Try.ntmps20
      go_wp2_with fail
      generalize w.alloc (.cells #[.int .u32 ses, .int .u64 base, .slice A n c, .int .u64 sent, .int .u64 lim, .int .i64 timer, .bool ended] 29) = w1 at *
      refine (HSS.out _).mono ?_
      rintro e w2 ⟨rfl, rfl⟩
      obtain ⟨w3, rfl⟩ : ∃ x, x = w1 := ⟨_, rfl⟩
      skip
      go_wp2_with fail
      refine wp_region_ps (S := fun _ _ w' => Below w3.heap.size w3 w') (by kernel_rfl) ?spsw430 ?ppsw430
      case spsw430 =>
        exact (Below.refl _ _).drew
      refine Ps.step (i := 0) (d := some 30) (u := ?uw430_430) rfl rfl (by kernel_rfl) (by kernel_rfl) (by kernel_rfl) (by kernel_rfl) ?yw430_430 ?rw430_430
      case yw430_430 =>
        refine StepS.pure (fun _ _ _ h => h) (by rfl) (fun w9 => ?_)
        go_simp
        try rfl
      try simp only [Act.put, List.setIfInBounds_toArray, List.set_cons_zero, List.set_cons_succ]
      refine Ps.step (i := 1) (d := some 31) (u := ?uw430_431) rfl rfl (by kernel_rfl) (by kernel_rfl) (by kernel_rfl) (by kernel_rfl) ?yw430_431 ?rw430_431
      case yw430_431 =>
        refine StepS.pure (fun _ _ _ h => h) (by rfl) (fun w9 => ?_)
        go_simp
        try rfl
      try simp only [Act.put, List.setIfInBounds_toArray, List.set_cons_zero, List.set_cons_succ]
      refine Ps.step (i := 2) (d := some 32) (u := undef) rfl rfl (by kernel_rfl) (by kernel_rfl) (by kernel_rfl) (by kernel_rfl) ?yw430_432 ?rw430_432
      case yw430_432 =>
        exact StepS.skip (fun _ _ _ h => h) (by rfl)
      try simp only [Act.put, List.setIfInBounds_toArray, List.set_cons_zero, List.set_cons_succ]
      refine Ps.step (i := 3) (d := some 33) (u := undef) rfl rfl (by kernel_rfl) (by kernel_rfl) (by kernel_rfl) (by kernel_rfl) ?yw430_433 ?rw430_433
      case yw430_433 =>
        exact StepS.skip (fun _ _ _ h => h) (by rfl)
      try simp only [Act.put, List.setIfInBounds_toArray, List.set_cons_zero, List.set_cons_succ]
      refine Ps.step (i := 4) (d := some 34) (u := undef) rfl rfl (by kernel_rfl) (by kernel_rfl) (by kernel_rfl) (by kernel_rfl) ?yw430_434 ?rw430_434
      case yw430_434 =>
        exact StepS.skip (fun _ _ _ h => h) (by rfl)
      try simp only [Act.put, List.setIfInBounds_toArray, List.set_cons_zero, List.set_cons_succ]
      refine Ps.step (i := 5) (d := some 35) (u := undef) rfl rfl (by kernel_rfl) (by kernel_rfl) (by kernel_rfl) (by kernel_rfl) ?yw430_435 ?rw430_435
      case yw430_435 =>
        exact StepS.skip (fun _ _ _ h => h) (by rfl)
      try simp only [Act.put, List.setIfInBounds_toArray, List.set_cons_zero, List.set_cons_succ]
      refine Ps.step (i := 6) (d := some 36) (u := undef) rfl rfl (by kernel_rfl) (by kernel_rfl) (by kernel_rfl) (by kernel_rfl) ?yw430_436 ?rw430_436
      case yw430_436 =>
        exact StepS.skip (fun _ _ _ h => h) (by rfl)
      try simp only [Act.put, List.setIfInBounds_toArray, List.set_cons_zero, List.set_cons_succ]
      refine Ps.step (i := 7) (d := some 37) (u := undef) rfl rfl (by kernel_rfl) (by kernel_rfl) (by kernel_rfl) (by kernel_rfl) ?yw430_437 ?rw430_437
      case yw430_437 =>
        exact StepS.skip (fun _ _ _ h => h) (by rfl)
      try simp only [Act.put, List.setIfInBounds_toArray, List.set_cons_zero, List.set_cons_succ]
      refine Ps.step (i := 8) (d := some 38) (u := undef) rfl rfl (by kernel_rfl) (by kernel_rfl) (by kernel_rfl) (by kernel_rfl) ?yw430_438 ?rw430_438
      case yw430_438 =>
        exact StepS.skip (fun _ _ _ h => h) (by rfl)
      try simp only [Act.put, List.setIfInBounds_toArray, List.set_cons_zero, List.set_cons_succ]
      refine Ps.step (i := 9) (d := some 39) (u := undef) rfl rfl (by kernel_rfl) (by kernel_rfl) (by kernel_rfl) (by kernel_rfl) ?yw430_439 ?rw430_439
      case yw430_439 =>
        exact StepS.skip (fun _ _ _ h => h) (by rfl)
      try simp only [Act.put, List.setIfInBounds_toArray, List.set_cons_zero, List.set_cons_succ]
      refine Ps.step (i := 10) (d := some 40) (u := ?uw430_440) rfl rfl (by kernel_rfl) (by kernel_rfl) (by kernel_rfl) (by kernel_rfl) ?yw430_440 ?rw430_440
      case yw430_440 =>
        refine StepS.pure (fun _ _ _ h => h) (by rfl) (fun w9 => ?_)
        go_simp
        try rfl
      try simp only [Act.put, List.setIfInBounds_toArray, List.set_cons_zero, List.set_cons_succ]
      refine Ps.step (i := 11) (d := some 41) (u := ?uw430_441) rfl rfl (by kernel_rfl) (by kernel_rfl) (by kernel_rfl) (by kernel_rfl) ?yw430_441 ?rw430_441
      case yw430_441 =>
        refine StepS.pure (fun _ _ _ h => h) (by rfl) (fun w9 => ?_)
        go_simp
        try rfl
      try simp only [Act.put, List.setIfInBounds_toArray, List.set_cons_zero, List.set_cons_succ]
      refine Ps.step (i := 12) (d := some 42) (u := undef) rfl rfl (by kernel_rfl) (by kernel_rfl) (by kernel_rfl) (by kernel_rfl) ?yw430_442 ?rw430_442
      case yw430_442 =>
        exact StepS.skip (fun _ _ _ h => h) (by rfl)
      try simp only [Act.put, List.setIfInBounds_toArray, List.set_cons_zero, List.set_cons_succ]
      refine Ps.step (i := 13) (d := some 43) (u := undef) rfl rfl (by kernel_rfl) (by kernel_rfl) (by kernel_rfl) (by kernel_rfl) ?yw430_443 ?rw430_443
      case yw430_443 =>
        exact StepS.skip (fun _ _ _ h => h) (by rfl)
      try simp only [Act.put, List.setIfInBounds_toArray, List.set_cons_zero, List.set_cons_succ]
      refine Ps.step (i := 14) (d := some 44) (u := undef) rfl rfl (by kernel_rfl) (by kernel_rfl) (by kernel_rfl) (by kernel_rfl) ?yw430_444 ?rw430_444
      case yw430_444 =>
        exact StepS.skip (fun _ _ _ h => h) (by rfl)
      try simp only [Act.put, List.setIfInBounds_toArray, List.set_cons_zero, List.set_cons_succ]
      refine Ps.step (i := 15) (d := some 45) (u := undef) rfl rfl (by kernel_rfl) (by kernel_rfl) (by kernel_rfl) (by kernel_rfl) ?yw430_445 ?rw430_445
      case yw430_445 =>
        exact StepS.skip (fun _ _ _ h => h) (by rfl)
      try simp only [Act.put, List.setIfInBounds_toArray, List.set_cons_zero, List.set_cons_succ]
      refine Ps.step (i := 16) (d := some 46) (u := undef) rfl rfl (by kernel_rfl) (by kernel_rfl) (by kernel_rfl) (by kernel_rfl) ?yw430_446 ?rw430_446
      case yw430_446 =>
        exact StepS.skip (fun _ _ _ h => h) (by rfl)
      try simp only [Act.put, List.setIfInBounds_toArray, List.set_cons_zero, List.set_cons_succ]
      refine Ps.step (i := 17) (d := some 47) (u := undef) rfl rfl (by kernel_rfl) (by kernel_rfl) (by kernel_rfl) (by kernel_rfl) ?yw430_447 ?rw430_447
      case yw430_447 =>
        exact StepS.skip (fun _ _ _ h => h) (by rfl)
      try simp only [Act.put, List.setIfInBounds_toArray, List.set_cons_zero, List.set_cons_succ]
      refine Ps.step (i := 18) (d := some 48) (u := ?uw430_448) rfl rfl (by kernel_rfl) (by kernel_rfl) (by kernel_rfl) (by kernel_rfl) ?yw430_448 ?rw430_448
      case yw430_448 =>
        refine StepS.pure (fun _ _ _ h => h) (by rfl) (fun w9 => ?_)
        go_simp
        try rfl
      try simp only [Act.put, List.setIfInBounds_toArray, List.set_cons_zero, List.set_cons_succ]
      refine Ps.step (i := 19) (d := some 49) (u := ?uw430_449) rfl rfl (by kernel_rfl) (by kernel_rfl) (by kernel_rfl) (by kernel_rfl) ?yw430_449 ?rw430_449
      case yw430_449 =>
        refine StepS.pure (fun _ _ _ h => h) (by rfl) (fun w9 => ?_)
        go_simp
        try rfl
      try simp only [Act.put, List.setIfInBounds_toArray, List.set_cons_zero, List.set_cons_succ]
      refine Ps.step (i := 20) (d := some 50) (u := undef) rfl rfl (by kernel_rfl) (by kernel_rfl) (by kernel_rfl) (by kernel_rfl) ?yw430_450 ?rw430_450
      case yw430_450 =>
        exact StepS.skip (fun _ _ _ h => h) (by rfl)
      try simp only [Act.put, List.setIfInBounds_toArray, List.set_cons_zero, List.set_cons_succ]
      refine Ps.step (i := 21) (d := some 51) (u := undef) rfl rfl (by kernel_rfl) (by kernel_rfl) (by kernel_rfl) (by kernel_rfl) ?yw430_451 ?rw430_451
      case yw430_451 =>
        exact StepS.skip (fun _ _ _ h => h) (by rfl)
      try simp only [Act.put, List.setIfInBounds_toArray, List.set_cons_zero, List.set_cons_succ]
      refine Ps.step (i := 22) (d := some 52) (u := undef) rfl rfl (by kernel_rfl) (by kernel_rfl) (by kernel_rfl) (by kernel_rfl) ?yw430_452 ?rw430_452
      case yw430_452 =>
        exact StepS.skip (fun _ _ _ h => h) (by rfl)
      try simp only [Act.put, List.setIfInBounds_toArray, List.set_cons_zero, List.set_cons_succ]
      refine Ps.step (i := 23) (d := some 53) (u := undef) rfl rfl (by kernel_rfl) (by kernel_rfl) (by kernel_rfl) (by kernel_rfl) ?yw430_453 ?rw430_453
      case yw430_453 =>
        exact StepS.skip (fun _ _ _ h => h) (by rfl)
      try simp only [Act.put, List.setIfInBounds_toArray, List.set_cons_zero, List.set_cons_succ]
      refine Ps.step (i := 24) (d := some 54) (u := undef) rfl rfl (by kernel_rfl) (by kernel_rfl) (by kernel_rfl) (by kernel_rfl) ?yw430_454 ?rw430_454
      case yw430_454 =>
        exact StepS.skip (fun _ _ _ h => h) (by rfl)
      try simp only [Act.put, List.setIfInBounds_toArray, List.set_cons_zero, List.set_cons_succ]
      refine Ps.step (i := 25) (d := some 55) (u := ?uw430_455) rfl rfl (by kernel_rfl) (by kernel_rfl) (by kernel_rfl) (by kernel_rfl) ?yw430_455 ?rw430_455
      case yw430_455 =>
        refine StepS.pure (fun _ _ _ h => h) (by rfl) (fun w9 => ?_)
        go_simp
        try rfl
      try simp only [Act.put, List.setIfInBounds_toArray, List.set_cons_zero, List.set_cons_succ]
      refine Ps.step (i := 26) (d := some 56) (u := ?uw430_456) rfl rfl (by kernel_rfl) (by kernel_rfl) (by kernel_rfl) (by kernel_rfl) ?yw430_456 ?rw430_456
      case yw430_456 =>
        refine StepS.pure (fun _ _ _ h => h) (by rfl) (fun w9 => ?_)
        go_simp
        try rfl
      try simp only [Act.put, List.setIfInBounds_toArray, List.set_cons_zero, List.set_cons_succ]
      refine Ps.step (i := 27) (d := some 57) (u := undef) rfl rfl (by kernel_rfl) (by kernel_rfl) (by kernel_rfl) (by kernel_rfl) ?yw430_457 ?rw430_457
      case yw430_457 =>
        exact StepS.skip (fun _ _ _ h => h) (by rfl)
      try simp only [Act.put, List.setIfInBounds_toArray, List.set_cons_zero, List.set_cons_succ]
      refine Ps.step (i := 28) (d := some 58) (u := undef) rfl rfl (by kernel_rfl) (by kernel_rfl) (by kernel_rfl) (by kernel_rfl) ?yw430_458 ?rw430_458
      case yw430_458 =>
        exact StepS.skip (fun _ _ _ h => h) (by rfl)
      try simp only [Act.put, List.setIfInBounds_toArray, List.set_cons_zero, List.set_cons_succ]
      refine Ps.step (i := 29) (d := some 59) (u := undef) rfl rfl (by kernel_rfl) (by kernel_rfl) (by kernel_rfl) (by kernel_rfl) ?yw430_459 ?rw430_459
      case yw430_459 =>
        exact StepS.skip (fun _ _ _ h => h) (by rfl)
      try simp only [Act.put, List.setIfInBounds_toArray, List.set_cons_zero, List.set_cons_succ]
      refine Ps.step (i := 30) (d := some 60) (u := undef) rfl rfl (by kernel_rfl) (by kernel_rfl) (by kernel_rfl) (by kernel_rfl) ?yw430_460 ?rw430_460
      case yw430_460 =>
        exact StepS.skip (fun _ _ _ h => h) (by rfl)
      try simp only [Act.put, List.setIfInBounds_toArray, List.set_cons_zero, List.set_cons_succ]
      refine Ps.step (i := 31) (d := some 61) (u := undef) rfl rfl (by kernel_rfl) (by kernel_rfl) (by kernel_rfl) (by kernel_rfl) ?yw430_461 ?rw430_461
      case yw430_461 =>
        exact StepS.skip (fun _ _ _ h => h) (by rfl)
      try simp only [Act.put, List.setIfInBounds_toArray, List.set_cons_zero, List.set_cons_succ]
      refine Ps.step (i := 32) (d := some 62) (u := ?uw430_462) rfl rfl (by kernel_rfl) (by kernel_rfl) (by kernel_rfl) (by kernel_rfl) ?yw430_462 ?rw430_462
      case yw430_462 =>
        refine StepS.pure (fun _ _ _ h => h) (by rfl) (fun w9 => ?_)
        go_simp
        try rfl
      try simp only [Act.put, List.setIfInBounds_toArray, List.set_cons_zero, List.set_cons_succ]
      refine Ps.step (i := 33) (d := some 63) (u := ?uw430_463) rfl rfl (by kernel_rfl) (by kernel_rfl) (by kernel_rfl) (by kernel_rfl) ?yw430_463 ?rw430_463
      case yw430_463 =>
        refine StepS.pure (fun _ _ _ h => h) (by rfl) (fun w9 => ?_)
        go_simp
        try rfl
      try simp only [Act.put, List.setIfInBounds_toArray, List.set_cons_zero, List.set_cons_succ]
      refine Ps.step (i := 34) (d := some 64) (u := undef) rfl rfl (by kernel_rfl) (by kernel_rfl) (by kernel_rfl) (by kernel_rfl) ?yw430_464 ?rw430_464
      case yw430_464 =>
        exact StepS.skip (fun _ _ _ h => h) (by rfl)
      try simp only [Act.put, List.setIfInBounds_toArray, List.set_cons_zero, List.set_cons_succ]
      refine Ps.step (i := 35) (d := some 65) (u := undef) rfl rfl (by kernel_rfl) (by kernel_rfl) (by kernel_rfl) (by kernel_rfl) ?yw430_465 ?rw430_465
      case yw430_465 =>
        exact StepS.skip (fun _ _ _ h => h) (by rfl)
      try simp only [Act.put, List.setIfInBounds_toArray, List.set_cons_zero, List.set_cons_succ]
      refine Ps.step (i := 36) (d := some 66) (u := undef) rfl rfl (by kernel_rfl) (by kernel_rfl) (by kernel_rfl) (by kernel_rfl) ?yw430_466 ?rw430_466
      case yw430_466 =>
        exact StepS.skip (fun _ _ _ h => h) (by rfl)
      try simp only [Act.put, List.setIfInBounds_toArray, List.set_cons_zero, List.set_cons_succ]
      refine Ps.step (i := 37) (d := some 67) (u := ?uw430_467) rfl rfl (by kernel_rfl) (by kernel_rfl) (by kernel_rfl) (by kernel_rfl) ?yw430_467 ?rw430_467
      case yw430_467 =>
        refine StepS.pure (fun _ _ _ h => h) (by rfl) (fun w9 => ?_)
        go_simp
        try rfl
      try simp only [Act.put, List.setIfInBounds_toArray, List.set_cons_zero, List.set_cons_succ]
      refine Ps.step (i := 38) (d := some 3) (u := ?uw430_468) rfl rfl (by kernel_rfl) (by kernel_rfl) (by kernel_rfl) (by kernel_rfl) ?yw430_468 ?rw430_468
      case yw430_468 =>
        refine StepS.pure (fun _ _ _ h => h) (by rfl) (fun w9 => ?_)
        go_simp
        try rfl
      try simp only [Act.put, List.setIfInBounds_toArray, List.set_cons_zero, List.set_cons_succ]
      refine Ps.done (by kernel_rfl) (fun w430 hS => ?_) _
      have HQ := Lib.hid (show Below w3.heap.size w3 _ from hS)
      clear hS
      obtain ⟨w7, rfl⟩ : ∃ x, x = w430 := ⟨_, rfl⟩
      go_wp2
      go_ret
      exact ⟨ret_int (by rw [HRR.out, HF.out]; rfl), bl_ca HBB.out HQ.out⟩
    · by_cases a2 : 1 ≤ base
      · by_cases a3 : base ≤ 1099511627776
        · by_cases a4 : n ≤ 8
          · have a41 : (n : Int) ≤ 8 := by omega
            have HIN := Lib.hid (inRow_any F A n c q base (w.alloc (.cells #[.int .u32 ses, .int .u64 base, .slice A n c, .int .u64 sent, .int .u64 lim, .int .i64 timer, .bool ended] 29)) HR.out (by omega) h0 (by omega))
            have a5 : inRowB q base = false := by cases hq : inRowB q base; rfl; exact absurd (show sendA ⟨ses, base, q, sent, lim, timer, ended⟩ = true from by unfold sendA; rw [← HZ.out, HL.out, hq]; simp [a2, a3, a41]) hA
            rw [a5] at HIN
            clear a5 hA
            go_enter Try.func20, Try.ntmps20
            go_wp2_with fail
            generalize w.alloc (.cells #[.int .u32 ses, .int .u64 base, .slice A n c, .int .u64 sent, .int .u64 lim, .int .i64 timer, .bool ended] 29) = w1 at *
            refine (HSS.out _).mono ?_
            rintro e w2 ⟨rfl, rfl⟩
            go_wp2_with fail
            refine HIN.out.mono ?_
            rintro e w3 ⟨rfl, q3⟩
            replace HB := Lib.hid (HB.out.ca q3)
            replace HR := Lib.hid (Lay.rd_below HR.out q3)
            replace HBB := Lib.hid (bl_ca HBB.out q3)
            clear q3 x0 x1 x2 HIN
            go_wp2_with fail
            refine wp_region_ps (S := fun _ _ w' => Below w3.heap.size w3 w') (by kernel_rfl) ?spsw469 ?ppsw469
            case spsw469 =>
              exact (Below.refl _ _).drew
            refine Ps.step (i := 0) (d := some 30) (u := ?uw469_469) rfl rfl (by kernel_rfl) (by kernel_rfl) (by kernel_rfl) (by kernel_rfl) ?yw469_469 ?rw469_469
            case yw469_469 =>
              refine StepS.pure (fun _ _ _ h => h) (by rfl) (fun w9 => ?_)
              go_simp
              try rfl
            try simp only [Act.put, List.setIfInBounds_toArray, List.set_cons_zero, List.set_cons_succ]
            refine Ps.step (i := 1) (d := some 31) (u := ?uw469_470) rfl rfl (by kernel_rfl) (by kernel_rfl) (by kernel_rfl) (by kernel_rfl) ?yw469_470 ?rw469_470
            case yw469_470 =>
              refine StepS.pure (fun _ _ _ h => h) (by rfl) (fun w9 => ?_)
              go_simp
              try rfl
            try simp only [Act.put, List.setIfInBounds_toArray, List.set_cons_zero, List.set_cons_succ]
            refine Ps.step (i := 2) (d := some 32) (u := undef) rfl rfl (by kernel_rfl) (by kernel_rfl) (by kernel_rfl) (by kernel_rfl) ?yw469_471 ?rw469_471
            case yw469_471 =>
              exact StepS.skip (fun _ _ _ h => h) (by rfl)
            try simp only [Act.put, List.setIfInBounds_toArray, List.set_cons_zero, List.set_cons_succ]
            refine Ps.step (i := 3) (d := some 33) (u := undef) rfl rfl (by kernel_rfl) (by kernel_rfl) (by kernel_rfl) (by kernel_rfl) ?yw469_472 ?rw469_472
            case yw469_472 =>
              exact StepS.skip (fun _ _ _ h => h) (by rfl)
            try simp only [Act.put, List.setIfInBounds_toArray, List.set_cons_zero, List.set_cons_succ]
            refine Ps.step (i := 4) (d := some 34) (u := undef) rfl rfl (by kernel_rfl) (by kernel_rfl) (by kernel_rfl) (by kernel_rfl) ?yw469_473 ?rw469_473
            case yw469_473 =>
              exact StepS.skip (fun _ _ _ h => h) (by rfl)
            try simp only [Act.put, List.setIfInBounds_toArray, List.set_cons_zero, List.set_cons_succ]
            refine Ps.step (i := 5) (d := some 35) (u := undef) rfl rfl (by kernel_rfl) (by kernel_rfl) (by kernel_rfl) (by kernel_rfl) ?yw469_474 ?rw469_474
            case yw469_474 =>
              exact StepS.skip (fun _ _ _ h => h) (by rfl)
            try simp only [Act.put, List.setIfInBounds_toArray, List.set_cons_zero, List.set_cons_succ]
            refine Ps.step (i := 6) (d := some 36) (u := undef) rfl rfl (by kernel_rfl) (by kernel_rfl) (by kernel_rfl) (by kernel_rfl) ?yw469_475 ?rw469_475
            case yw469_475 =>
              exact StepS.skip (fun _ _ _ h => h) (by rfl)
            try simp only [Act.put, List.setIfInBounds_toArray, List.set_cons_zero, List.set_cons_succ]
            refine Ps.step (i := 7) (d := some 37) (u := undef) rfl rfl (by kernel_rfl) (by kernel_rfl) (by kernel_rfl) (by kernel_rfl) ?yw469_476 ?rw469_476
            case yw469_476 =>
              exact StepS.skip (fun _ _ _ h => h) (by rfl)
            try simp only [Act.put, List.setIfInBounds_toArray, List.set_cons_zero, List.set_cons_succ]
            refine Ps.step (i := 8) (d := some 38) (u := undef) rfl rfl (by kernel_rfl) (by kernel_rfl) (by kernel_rfl) (by kernel_rfl) ?yw469_477 ?rw469_477
            case yw469_477 =>
              exact StepS.skip (fun _ _ _ h => h) (by rfl)
            try simp only [Act.put, List.setIfInBounds_toArray, List.set_cons_zero, List.set_cons_succ]
            refine Ps.step (i := 9) (d := some 39) (u := undef) rfl rfl (by kernel_rfl) (by kernel_rfl) (by kernel_rfl) (by kernel_rfl) ?yw469_478 ?rw469_478
            case yw469_478 =>
              exact StepS.skip (fun _ _ _ h => h) (by rfl)
            try simp only [Act.put, List.setIfInBounds_toArray, List.set_cons_zero, List.set_cons_succ]
            refine Ps.step (i := 10) (d := some 40) (u := ?uw469_479) rfl rfl (by kernel_rfl) (by kernel_rfl) (by kernel_rfl) (by kernel_rfl) ?yw469_479 ?rw469_479
            case yw469_479 =>
              refine StepS.pure (fun _ _ _ h => h) (by rfl) (fun w9 => ?_)
              go_simp
              try rfl
            try simp only [Act.put, List.setIfInBounds_toArray, List.set_cons_zero, List.set_cons_succ]
            refine Ps.step (i := 11) (d := some 41) (u := ?uw469_480) rfl rfl (by kernel_rfl) (by kernel_rfl) (by kernel_rfl) (by kernel_rfl) ?yw469_480 ?rw469_480
            case yw469_480 =>
              refine StepS.pure (fun _ _ _ h => h) (by rfl) (fun w9 => ?_)
              go_simp
              try rfl
            try simp only [Act.put, List.setIfInBounds_toArray, List.set_cons_zero, List.set_cons_succ]
            refine Ps.step (i := 12) (d := some 42) (u := undef) rfl rfl (by kernel_rfl) (by kernel_rfl) (by kernel_rfl) (by kernel_rfl) ?yw469_481 ?rw469_481
            case yw469_481 =>
              exact StepS.skip (fun _ _ _ h => h) (by rfl)
            try simp only [Act.put, List.setIfInBounds_toArray, List.set_cons_zero, List.set_cons_succ]
            refine Ps.step (i := 13) (d := some 43) (u := undef) rfl rfl (by kernel_rfl) (by kernel_rfl) (by kernel_rfl) (by kernel_rfl) ?yw469_482 ?rw469_482
            case yw469_482 =>
              exact StepS.skip (fun _ _ _ h => h) (by rfl)
            try simp only [Act.put, List.setIfInBounds_toArray, List.set_cons_zero, List.set_cons_succ]
            refine Ps.step (i := 14) (d := some 44) (u := undef) rfl rfl (by kernel_rfl) (by kernel_rfl) (by kernel_rfl) (by kernel_rfl) ?yw469_483 ?rw469_483
            case yw469_483 =>
              exact StepS.skip (fun _ _ _ h => h) (by rfl)
            try simp only [Act.put, List.setIfInBounds_toArray, List.set_cons_zero, List.set_cons_succ]
            refine Ps.step (i := 15) (d := some 45) (u := undef) rfl rfl (by kernel_rfl) (by kernel_rfl) (by kernel_rfl) (by kernel_rfl) ?yw469_484 ?rw469_484
            case yw469_484 =>
              exact StepS.skip (fun _ _ _ h => h) (by rfl)
            try simp only [Act.put, List.setIfInBounds_toArray, List.set_cons_zero, List.set_cons_succ]
            refine Ps.step (i := 16) (d := some 46) (u := undef) rfl rfl (by kernel_rfl) (by kernel_rfl) (by kernel_rfl) (by kernel_rfl) ?yw469_485 ?rw469_485
            case yw469_485 =>
              exact StepS.skip (fun _ _ _ h => h) (by rfl)
            try simp only [Act.put, List.setIfInBounds_toArray, List.set_cons_zero, List.set_cons_succ]
            refine Ps.step (i := 17) (d := some 47) (u := undef) rfl rfl (by kernel_rfl) (by kernel_rfl) (by kernel_rfl) (by kernel_rfl) ?yw469_486 ?rw469_486
            case yw469_486 =>
              exact StepS.skip (fun _ _ _ h => h) (by rfl)
            try simp only [Act.put, List.setIfInBounds_toArray, List.set_cons_zero, List.set_cons_succ]
            refine Ps.step (i := 18) (d := some 48) (u := ?uw469_487) rfl rfl (by kernel_rfl) (by kernel_rfl) (by kernel_rfl) (by kernel_rfl) ?yw469_487 ?rw469_487
            case yw469_487 =>
              refine StepS.pure (fun _ _ _ h => h) (by rfl) (fun w9 => ?_)
              go_simp
              try rfl
            try simp only [Act.put, List.setIfInBounds_toArray, List.set_cons_zero, List.set_cons_succ]
            refine Ps.step (i := 19) (d := some 49) (u := ?uw469_488) rfl rfl (by kernel_rfl) (by kernel_rfl) (by kernel_rfl) (by kernel_rfl) ?yw469_488 ?rw469_488
            case yw469_488 =>
              refine StepS.pure (fun _ _ _ h => h) (by rfl) (fun w9 => ?_)
              go_simp
              try rfl
            try simp only [Act.put, List.setIfInBounds_toArray, List.set_cons_zero, List.set_cons_succ]
            refine Ps.step (i := 20) (d := some 50) (u := undef) rfl rfl (by kernel_rfl) (by kernel_rfl) (by kernel_rfl) (by kernel_rfl) ?yw469_489 ?rw469_489
            case yw469_489 =>
              exact StepS.skip (fun _ _ _ h => h) (by rfl)
            try simp only [Act.put, List.setIfInBounds_toArray, List.set_cons_zero, List.set_cons_succ]
            refine Ps.step (i := 21) (d := some 51) (u := undef) rfl rfl (by kernel_rfl) (by kernel_rfl) (by kernel_rfl) (by kernel_rfl) ?yw469_490 ?rw469_490
            case yw469_490 =>
              exact StepS.skip (fun _ _ _ h => h) (by rfl)
            try simp only [Act.put, List.setIfInBounds_toArray, List.set_cons_zero, List.set_cons_succ]
            refine Ps.step (i := 22) (d := some 52) (u := undef) rfl rfl (by kernel_rfl) (by kernel_rfl) (by kernel_rfl) (by kernel_rfl) ?yw469_491 ?rw469_491
            case yw469_491 =>
              exact StepS.skip (fun _ _ _ h => h) (by rfl)
            try simp only [Act.put, List.setIfInBounds_toArray, List.set_cons_zero, List.set_cons_succ]
            refine Ps.step (i := 23) (d := some 53) (u := undef) rfl rfl (by kernel_rfl) (by kernel_rfl) (by kernel_rfl) (by kernel_rfl) ?yw469_492 ?rw469_492
            case yw469_492 =>
              exact StepS.skip (fun _ _ _ h => h) (by rfl)
            try simp only [Act.put, List.setIfInBounds_toArray, List.set_cons_zero, List.set_cons_succ]
            refine Ps.step (i := 24) (d := some 54) (u := undef) rfl rfl (by kernel_rfl) (by kernel_rfl) (by kernel_rfl) (by kernel_rfl) ?yw469_493 ?rw469_493
            case yw469_493 =>
              exact StepS.skip (fun _ _ _ h => h) (by rfl)
            try simp only [Act.put, List.setIfInBounds_toArray, List.set_cons_zero, List.set_cons_succ]
            refine Ps.step (i := 25) (d := some 55) (u := ?uw469_494) rfl rfl (by kernel_rfl) (by kernel_rfl) (by kernel_rfl) (by kernel_rfl) ?yw469_494 ?rw469_494
            case yw469_494 =>
              refine StepS.pure (fun _ _ _ h => h) (by rfl) (fun w9 => ?_)
              go_simp
              try rfl
            try simp only [Act.put, List.setIfInBounds_toArray, List.set_cons_zero, List.set_cons_succ]
            refine Ps.step (i := 26) (d := some 56) (u := ?uw469_495) rfl rfl (by kernel_rfl) (by kernel_rfl) (by kernel_rfl) (by kernel_rfl) ?yw469_495 ?rw469_495
            case yw469_495 =>
              refine StepS.pure (fun _ _ _ h => h) (by rfl) (fun w9 => ?_)
              go_simp
              try rfl
            try simp only [Act.put, List.setIfInBounds_toArray, List.set_cons_zero, List.set_cons_succ]
            refine Ps.step (i := 27) (d := some 57) (u := undef) rfl rfl (by kernel_rfl) (by kernel_rfl) (by kernel_rfl) (by kernel_rfl) ?yw469_496 ?rw469_496
            case yw469_496 =>
              exact StepS.skip (fun _ _ _ h => h) (by rfl)
            try simp only [Act.put, List.setIfInBounds_toArray, List.set_cons_zero, List.set_cons_succ]
            refine Ps.step (i := 28) (d := some 58) (u := undef) rfl rfl (by kernel_rfl) (by kernel_rfl) (by kernel_rfl) (by kernel_rfl) ?yw469_497 ?rw469_497
            case yw469_497 =>
              exact StepS.skip (fun _ _ _ h => h) (by rfl)
            try simp only [Act.put, List.setIfInBounds_toArray, List.set_cons_zero, List.set_cons_succ]
            refine Ps.step (i := 29) (d := some 59) (u := undef) rfl rfl (by kernel_rfl) (by kernel_rfl) (by kernel_rfl) (by kernel_rfl) ?yw469_498 ?rw469_498
            case yw469_498 =>
              exact StepS.skip (fun _ _ _ h => h) (by rfl)
            try simp only [Act.put, List.setIfInBounds_toArray, List.set_cons_zero, List.set_cons_succ]
            refine Ps.step (i := 30) (d := some 60) (u := undef) rfl rfl (by kernel_rfl) (by kernel_rfl) (by kernel_rfl) (by kernel_rfl) ?yw469_499 ?rw469_499
            case yw469_499 =>
              exact StepS.skip (fun _ _ _ h => h) (by rfl)
            try simp only [Act.put, List.setIfInBounds_toArray, List.set_cons_zero, List.set_cons_succ]
            refine Ps.step (i := 31) (d := some 61) (u := undef) rfl rfl (by kernel_rfl) (by kernel_rfl) (by kernel_rfl) (by kernel_rfl) ?yw469_500 ?rw469_500
            case yw469_500 =>
              exact StepS.skip (fun _ _ _ h => h) (by rfl)
            try simp only [Act.put, List.setIfInBounds_toArray, List.set_cons_zero, List.set_cons_succ]
            refine Ps.step (i := 32) (d := some 62) (u := ?uw469_501) rfl rfl (by kernel_rfl) (by kernel_rfl) (by kernel_rfl) (by kernel_rfl) ?yw469_501 ?rw469_501
            case yw469_501 =>
              refine StepS.pure (fun _ _ _ h => h) (by rfl) (fun w9 => ?_)
              go_simp
              try rfl
            try simp only [Act.put, List.setIfInBounds_toArray, List.set_cons_zero, List.set_cons_succ]
            refine Ps.step (i := 33) (d := some 63) (u := ?uw469_502) rfl rfl (by kernel_rfl) (by kernel_rfl) (by kernel_rfl) (by kernel_rfl) ?yw469_502 ?rw469_502
            case yw469_502 =>
              refine StepS.pure (fun _ _ _ h => h) (by rfl) (fun w9 => ?_)
              go_simp
              try rfl
            try simp only [Act.put, List.setIfInBounds_toArray, List.set_cons_zero, List.set_cons_succ]
            refine Ps.step (i := 34) (d := some 64) (u := undef) rfl rfl (by kernel_rfl) (by kernel_rfl) (by kernel_rfl) (by kernel_rfl) ?yw469_503 ?rw469_503
            case yw469_503 =>
              exact StepS.skip (fun _ _ _ h => h) (by rfl)
            try simp only [Act.put, List.setIfInBounds_toArray, List.set_cons_zero, List.set_cons_succ]
            refine Ps.step (i := 35) (d := some 65) (u := undef) rfl rfl (by kernel_rfl) (by kernel_rfl) (by kernel_rfl) (by kernel_rfl) ?yw469_504 ?rw469_504
            case yw469_504 =>
              exact StepS.skip (fun _ _ _ h => h) (by rfl)
            try simp only [Act.put, List.setIfInBounds_toArray, List.set_cons_zero, List.set_cons_succ]
            refine Ps.step (i := 36) (d := some 66) (u := undef) rfl rfl (by kernel_rfl) (by kernel_rfl) (by kernel_rfl) (by kernel_rfl) ?yw469_505 ?rw469_505
            case yw469_505 =>
              exact StepS.skip (fun _ _ _ h => h) (by rfl)
            try simp only [Act.put, List.setIfInBounds_toArray, List.set_cons_zero, List.set_cons_succ]
            refine Ps.step (i := 37) (d := some 67) (u := ?uw469_506) rfl rfl (by kernel_rfl) (by kernel_rfl) (by kernel_rfl) (by kernel_rfl) ?yw469_506 ?rw469_506
            case yw469_506 =>
              refine StepS.pure (fun _ _ _ h => h) (by rfl) (fun w9 => ?_)
              go_simp
              try rfl
            try simp only [Act.put, List.setIfInBounds_toArray, List.set_cons_zero, List.set_cons_succ]
            refine Ps.step (i := 38) (d := some 3) (u := ?uw469_507) rfl rfl (by kernel_rfl) (by kernel_rfl) (by kernel_rfl) (by kernel_rfl) ?yw469_507 ?rw469_507
            case yw469_507 =>
              refine StepS.pure (fun _ _ _ h => h) (by rfl) (fun w9 => ?_)
              go_simp
              try rfl
            try simp only [Act.put, List.setIfInBounds_toArray, List.set_cons_zero, List.set_cons_succ]
            refine Ps.done (by kernel_rfl) (fun w469 hS => ?_) _
            have HQ := Lib.hid (show Below w3.heap.size w3 _ from hS)
            clear hS
            obtain ⟨w7, rfl⟩ : ∃ x, x = w469 := ⟨_, rfl⟩
            go_wp2
            go_ret
            exact ⟨ret_int (by rw [HRR.out, HF.out]; rfl), bl_ca HBB.out HQ.out⟩
          · have a41 : (8 : Int) < (n : Int) := by omega
            clear hA a4
            go_enter Try.func20, Try.ntmps20
            go_wp2_with fail
            generalize w.alloc (.cells #[.int .u32 ses, .int .u64 base, .slice A n c, .int .u64 sent, .int .u64 lim, .int .i64 timer, .bool ended] 29) = w1 at *
            refine (HSS.out _).mono ?_
            rintro e w2 ⟨rfl, rfl⟩
            obtain ⟨w3, rfl⟩ : ∃ x, x = w1 := ⟨_, rfl⟩
            skip
            go_wp2_with fail
            refine wp_region_ps (S := fun _ _ w' => Below w3.heap.size w3 w') (by kernel_rfl) ?spsw508 ?ppsw508
            case spsw508 =>
              exact (Below.refl _ _).drew
            refine Ps.step (i := 0) (d := some 30) (u := ?uw508_508) rfl rfl (by kernel_rfl) (by kernel_rfl) (by kernel_rfl) (by kernel_rfl) ?yw508_508 ?rw508_508
            case yw508_508 =>
              refine StepS.pure (fun _ _ _ h => h) (by rfl) (fun w9 => ?_)
              go_simp
              try rfl
            try simp only [Act.put, List.setIfInBounds_toArray, List.set_cons_zero, List.set_cons_succ]
            refine Ps.step (i := 1) (d := some 31) (u := ?uw508_509) rfl rfl (by kernel_rfl) (by kernel_rfl) (by kernel_rfl) (by kernel_rfl) ?yw508_509 ?rw508_509
            case yw508_509 =>
              refine StepS.pure (fun _ _ _ h => h) (by rfl) (fun w9 => ?_)
              go_simp
              try rfl
            try simp only [Act.put, List.setIfInBounds_toArray, List.set_cons_zero, List.set_cons_succ]
            refine Ps.step (i := 2) (d := some 32) (u := undef) rfl rfl (by kernel_rfl) (by kernel_rfl) (by kernel_rfl) (by kernel_rfl) ?yw508_510 ?rw508_510
            case yw508_510 =>
              exact StepS.skip (fun _ _ _ h => h) (by rfl)
            try simp only [Act.put, List.setIfInBounds_toArray, List.set_cons_zero, List.set_cons_succ]
            refine Ps.step (i := 3) (d := some 33) (u := undef) rfl rfl (by kernel_rfl) (by kernel_rfl) (by kernel_rfl) (by kernel_rfl) ?yw508_511 ?rw508_511
            case yw508_511 =>
              exact StepS.skip (fun _ _ _ h => h) (by rfl)
            try simp only [Act.put, List.setIfInBounds_toArray, List.set_cons_zero, List.set_cons_succ]
            refine Ps.step (i := 4) (d := some 34) (u := undef) rfl rfl (by kernel_rfl) (by kernel_rfl) (by kernel_rfl) (by kernel_rfl) ?yw508_512 ?rw508_512
            case yw508_512 =>
              exact StepS.skip (fun _ _ _ h => h) (by rfl)
            try simp only [Act.put, List.setIfInBounds_toArray, List.set_cons_zero, List.set_cons_succ]
            refine Ps.step (i := 5) (d := some 35) (u := undef) rfl rfl (by kernel_rfl) (by kernel_rfl) (by kernel_rfl) (by kernel_rfl) ?yw508_513 ?rw508_513
            case yw508_513 =>
              exact StepS.skip (fun _ _ _ h => h) (by rfl)
            try simp only [Act.put, List.setIfInBounds_toArray, List.set_cons_zero, List.set_cons_succ]
            refine Ps.step (i := 6) (d := some 36) (u := undef) rfl rfl (by kernel_rfl) (by kernel_rfl) (by kernel_rfl) (by kernel_rfl) ?yw508_514 ?rw508_514
            case yw508_514 =>
              exact StepS.skip (fun _ _ _ h => h) (by rfl)
            try simp only [Act.put, List.setIfInBounds_toArray, List.set_cons_zero, List.set_cons_succ]
            refine Ps.step (i := 7) (d := some 37) (u := undef) rfl rfl (by kernel_rfl) (by kernel_rfl) (by kernel_rfl) (by kernel_rfl) ?yw508_515 ?rw508_515
            case yw508_515 =>
              exact StepS.skip (fun _ _ _ h => h) (by rfl)
            try simp only [Act.put, List.setIfInBounds_toArray, List.set_cons_zero, List.set_cons_succ]
            refine Ps.step (i := 8) (d := some 38) (u := undef) rfl rfl (by kernel_rfl) (by kernel_rfl) (by kernel_rfl) (by kernel_rfl) ?yw508_516 ?rw508_516
            case yw508_516 =>
              exact StepS.skip (fun _ _ _ h => h) (by rfl)
            try simp only [Act.put, List.setIfInBounds_toArray, List.set_cons_zero, List.set_cons_succ]
            refine Ps.step (i := 9) (d := some 39) (u := undef) rfl rfl (by kernel_rfl) (by kernel_rfl) (by kernel_rfl) (by kernel_rfl) ?yw508_517 ?rw508_517
            case yw508_517 =>
              exact StepS.skip (fun _ _ _ h => h) (by rfl)
            try simp only [Act.put, List.setIfInBounds_toArray, List.set_cons_zero, List.set_cons_succ]
            refine Ps.step (i := 10) (d := some 40) (u := ?uw508_518) rfl rfl (by kernel_rfl) (by kernel_rfl) (by kernel_rfl) (by kernel_rfl) ?yw508_518 ?rw508_518
            case yw508_518 =>
              refine StepS.pure (fun _ _ _ h => h) (by rfl) (fun w9 => ?_)
              go_simp
              try rfl
            try simp only [Act.put, List.setIfInBounds_toArray, List.set_cons_zero, List.set_cons_succ]
            refine Ps.step (i := 11) (d := some 41) (u := ?uw508_519) rfl rfl (by kernel_rfl) (by kernel_rfl) (by kernel_rfl) (by kernel_rfl) ?yw508_519 ?rw508_519
            case yw508_519 =>
              refine StepS.pure (fun _ _ _ h => h) (by rfl) (fun w9 => ?_)
              go_simp
              try rfl
            try simp only [Act.put, List.setIfInBounds_toArray, List.set_cons_zero, List.set_cons_succ]
            refine Ps.step (i := 12) (d := some 42) (u := undef) rfl rfl (by kernel_rfl) (by kernel_rfl) (by kernel_rfl) (by kernel_rfl) ?yw508_520 ?rw508_520
            case yw508_520 =>
              exact StepS.skip (fun _ _ _ h => h) (by rfl)
            try simp only [Act.put, List.setIfInBounds_toArray, List.set_cons_zero, List.set_cons_succ]
            refine Ps.step (i := 13) (d := some 43) (u := undef) rfl rfl (by kernel_rfl) (by kernel_rfl) (by kernel_rfl) (by kernel_rfl) ?yw508_521 ?rw508_521
            case yw508_521 =>
              exact StepS.skip (fun _ _ _ h => h) (by rfl)
            try simp only [Act.put, List.setIfInBounds_toArray, List.set_cons_zero, List.set_cons_succ]
            refine Ps.step (i := 14) (d := some 44) (u := undef) rfl rfl (by kernel_rfl) (by kernel_rfl) (by kernel_rfl) (by kernel_rfl) ?yw508_522 ?rw508_522
            case yw508_522 =>
              exact StepS.skip (fun _ _ _ h => h) (by rfl)
            try simp only [Act.put, List.setIfInBounds_toArray, List.set_cons_zero, List.set_cons_succ]
            refine Ps.step (i := 15) (d := some 45) (u := undef) rfl rfl (by kernel_rfl) (by kernel_rfl) (by kernel_rfl) (by kernel_rfl) ?yw508_523 ?rw508_523
            case yw508_523 =>
              exact StepS.skip (fun _ _ _ h => h) (by rfl)
            try simp only [Act.put, List.setIfInBounds_toArray, List.set_cons_zero, List.set_cons_succ]
            refine Ps.step (i := 16) (d := some 46) (u := undef) rfl rfl (by kernel_rfl) (by kernel_rfl) (by kernel_rfl) (by kernel_rfl) ?yw508_524 ?rw508_524
            case yw508_524 =>
              exact StepS.skip (fun _ _ _ h => h) (by rfl)
            try simp only [Act.put, List.setIfInBounds_toArray, List.set_cons_zero, List.set_cons_succ]
            refine Ps.step (i := 17) (d := some 47) (u := undef) rfl rfl (by kernel_rfl) (by kernel_rfl) (by kernel_rfl) (by kernel_rfl) ?yw508_525 ?rw508_525
            case yw508_525 =>
              exact StepS.skip (fun _ _ _ h => h) (by rfl)
            try simp only [Act.put, List.setIfInBounds_toArray, List.set_cons_zero, List.set_cons_succ]
            refine Ps.step (i := 18) (d := some 48) (u := ?uw508_526) rfl rfl (by kernel_rfl) (by kernel_rfl) (by kernel_rfl) (by kernel_rfl) ?yw508_526 ?rw508_526
            case yw508_526 =>
              refine StepS.pure (fun _ _ _ h => h) (by rfl) (fun w9 => ?_)
              go_simp
              try rfl
            try simp only [Act.put, List.setIfInBounds_toArray, List.set_cons_zero, List.set_cons_succ]
            refine Ps.step (i := 19) (d := some 49) (u := ?uw508_527) rfl rfl (by kernel_rfl) (by kernel_rfl) (by kernel_rfl) (by kernel_rfl) ?yw508_527 ?rw508_527
            case yw508_527 =>
              refine StepS.pure (fun _ _ _ h => h) (by rfl) (fun w9 => ?_)
              go_simp
              try rfl
            try simp only [Act.put, List.setIfInBounds_toArray, List.set_cons_zero, List.set_cons_succ]
            refine Ps.step (i := 20) (d := some 50) (u := undef) rfl rfl (by kernel_rfl) (by kernel_rfl) (by kernel_rfl) (by kernel_rfl) ?yw508_528 ?rw508_528
            case yw508_528 =>
              exact StepS.skip (fun _ _ _ h => h) (by rfl)
            try simp only [Act.put, List.setIfInBounds_toArray, List.set_cons_zero, List.set_cons_succ]
            refine Ps.step (i := 21) (d := some 51) (u := undef) rfl rfl (by kernel_rfl) (by kernel_rfl) (by kernel_rfl) (by kernel_rfl) ?yw508_529 ?rw508_529
            case yw508_529 =>
              exact StepS.skip (fun _ _ _ h => h) (by rfl)
            try simp only [Act.put, List.setIfInBounds_toArray, List.set_cons_zero, List.set_cons_succ]
            refine Ps.step (i := 22) (d := some 52) (u := undef) rfl rfl (by kernel_rfl) (by kernel_rfl) (by kernel_rfl) (by kernel_rfl) ?yw508_530 ?rw508_530
            case yw508_530 =>
              exact StepS.skip (fun _ _ _ h => h) (by rfl)
            try simp only [Act.put, List.setIfInBounds_toArray, List.set_cons_zero, List.set_cons_succ]
            refine Ps.step (i := 23) (d := some 53) (u := undef) rfl rfl (by kernel_rfl) (by kernel_rfl) (by kernel_rfl) (by kernel_rfl) ?yw508_531 ?rw508_531
            case yw508_531 =>
              exact StepS.skip (fun _ _ _ h => h) (by rfl)
            try simp only [Act.put, List.setIfInBounds_toArray, List.set_cons_zero, List.set_cons_succ]
            refine Ps.step (i := 24) (d := some 54) (u := undef) rfl rfl (by kernel_rfl) (by kernel_rfl) (by kernel_rfl) (by kernel_rfl) ?yw508_532 ?rw508_532
            case yw508_532 =>
              exact StepS.skip (fun _ _ _ h => h) (by rfl)
            try simp only [Act.put, List.setIfInBounds_toArray, List.set_cons_zero, List.set_cons_succ]
            refine Ps.step (i := 25) (d := some 55) (u := ?uw508_533) rfl rfl (by kernel_rfl) (by kernel_rfl) (by kernel_rfl) (by kernel_rfl) ?yw508_533 ?rw508_533
            case yw508_533 =>
              refine StepS.pure (fun _ _ _ h => h) (by rfl) (fun w9 => ?_)
              go_simp
              try rfl
            try simp only [Act.put, List.setIfInBounds_toArray, List.set_cons_zero, List.set_cons_succ]
            refine Ps.step (i := 26) (d := some 56) (u := ?uw508_534) rfl rfl (by kernel_rfl) (by kernel_rfl) (by kernel_rfl) (by kernel_rfl) ?yw508_534 ?rw508_534
            case yw508_534 =>
              refine StepS.pure (fun _ _ _ h => h) (by rfl) (fun w9 => ?_)
              go_simp
              try rfl
            try simp only [Act.put, List.setIfInBounds_toArray, List.set_cons_zero, List.set_cons_succ]
            refine Ps.step (i := 27) (d := some 57) (u := undef) rfl rfl (by kernel_rfl) (by kernel_rfl) (by kernel_rfl) (by kernel_rfl) ?yw508_535 ?rw508_535
            case yw508_535 =>
              exact StepS.skip (fun _ _ _ h => h) (by rfl)
            try simp only [Act.put, List.setIfInBounds_toArray, List.set_cons_zero, List.set_cons_succ]
            refine Ps.step (i := 28) (d := some 58) (u := undef) rfl rfl (by kernel_rfl) (by kernel_rfl) (by kernel_rfl) (by kernel_rfl) ?yw508_536 ?rw508_536
            case yw508_536 =>
              exact StepS.skip (fun _ _ _ h => h) (by rfl)
            try simp only [Act.put, List.setIfInBounds_toArray, List.set_cons_zero, List.set_cons_succ]
            refine Ps.step (i := 29) (d := some 59) (u := undef) rfl rfl (by kernel_rfl) (by kernel_rfl) (by kernel_rfl) (by kernel_rfl) ?yw508_537 ?rw508_537
            case yw508_537 =>
              exact StepS.skip (fun _ _ _ h => h) (by rfl)
            try simp only [Act.put, List.setIfInBounds_toArray, List.set_cons_zero, List.set_cons_succ]
            refine Ps.step (i := 30) (d := some 60) (u := undef) rfl rfl (by kernel_rfl) (by kernel_rfl) (by kernel_rfl) (by kernel_rfl) ?yw508_538 ?rw508_538
            case yw508_538 =>
              exact StepS.skip (fun _ _ _ h => h) (by rfl)
            try simp only [Act.put, List.setIfInBounds_toArray, List.set_cons_zero, List.set_cons_succ]
            refine Ps.step (i := 31) (d := some 61) (u := undef) rfl rfl (by kernel_rfl) (by kernel_rfl) (by kernel_rfl) (by kernel_rfl) ?yw508_539 ?rw508_539
            case yw508_539 =>
              exact StepS.skip (fun _ _ _ h => h) (by rfl)
            try simp only [Act.put, List.setIfInBounds_toArray, List.set_cons_zero, List.set_cons_succ]
            refine Ps.step (i := 32) (d := some 62) (u := ?uw508_540) rfl rfl (by kernel_rfl) (by kernel_rfl) (by kernel_rfl) (by kernel_rfl) ?yw508_540 ?rw508_540
            case yw508_540 =>
              refine StepS.pure (fun _ _ _ h => h) (by rfl) (fun w9 => ?_)
              go_simp
              try rfl
            try simp only [Act.put, List.setIfInBounds_toArray, List.set_cons_zero, List.set_cons_succ]
            refine Ps.step (i := 33) (d := some 63) (u := ?uw508_541) rfl rfl (by kernel_rfl) (by kernel_rfl) (by kernel_rfl) (by kernel_rfl) ?yw508_541 ?rw508_541
            case yw508_541 =>
              refine StepS.pure (fun _ _ _ h => h) (by rfl) (fun w9 => ?_)
              go_simp
              try rfl
            try simp only [Act.put, List.setIfInBounds_toArray, List.set_cons_zero, List.set_cons_succ]
            refine Ps.step (i := 34) (d := some 64) (u := undef) rfl rfl (by kernel_rfl) (by kernel_rfl) (by kernel_rfl) (by kernel_rfl) ?yw508_542 ?rw508_542
            case yw508_542 =>
              exact StepS.skip (fun _ _ _ h => h) (by rfl)
            try simp only [Act.put, List.setIfInBounds_toArray, List.set_cons_zero, List.set_cons_succ]
            refine Ps.step (i := 35) (d := some 65) (u := undef) rfl rfl (by kernel_rfl) (by kernel_rfl) (by kernel_rfl) (by kernel_rfl) ?yw508_543 ?rw508_543
            case yw508_543 =>
              exact StepS.skip (fun _ _ _ h => h) (by rfl)
            try simp only [Act.put, List.setIfInBounds_toArray, List.set_cons_zero, List.set_cons_succ]
            refine Ps.step (i := 36) (d := some 66) (u := undef) rfl rfl (by kernel_rfl) (by kernel_rfl) (by kernel_rfl) (by kernel_rfl) ?yw508_544 ?rw508_544
            case yw508_544 =>
              exact StepS.skip (fun _ _ _ h => h) (by rfl)
            try simp only [Act.put, List.setIfInBounds_toArray, List.set_cons_zero, List.set_cons_succ]
            refine Ps.step (i := 37) (d := some 67) (u := ?uw508_545) rfl rfl (by kernel_rfl) (by kernel_rfl) (by kernel_rfl) (by kernel_rfl) ?yw508_545 ?rw508_545
            case yw508_545 =>
              refine StepS.pure (fun _ _ _ h => h) (by rfl) (fun w9 => ?_)
              go_simp
              try rfl
            try simp only [Act.put, List.setIfInBounds_toArray, List.set_cons_zero, List.set_cons_succ]
            refine Ps.step (i := 38) (d := some 3) (u := ?uw508_546) rfl rfl (by kernel_rfl) (by kernel_rfl) (by kernel_rfl) (by kernel_rfl) ?yw508_546 ?rw508_546
            case yw508_546 =>
              refine StepS.pure (fun _ _ _ h => h) (by rfl) (fun w9 => ?_)
              go_simp
              try rfl
            try simp only [Act.put, List.setIfInBounds_toArray, List.set_cons_zero, List.set_cons_succ]
            refine Ps.done (by kernel_rfl) (fun w508 hS => ?_) _
            have HQ := Lib.hid (show Below w3.heap.size w3 _ from hS)
            clear hS
            obtain ⟨w7, rfl⟩ : ∃ x, x = w508 := ⟨_, rfl⟩
            go_wp2
            go_ret
            exact ⟨ret_int (by rw [HRR.out, HF.out]; rfl), bl_ca HBB.out HQ.out⟩
        · have a31 : (1099511627776 : Int) < base := by omega
          clear hA a3
          go_enter Try.func20, Try.ntmps20
          go_wp2_with fail
          generalize w.alloc (.cells #[.int .u32 ses, .int .u64 base, .slice A n c, .int .u64 sent, .int .u64 lim, .int .i64 timer, .bool ended] 29) = w1 at *
          refine (HSS.out _).mono ?_
          rintro e w2 ⟨rfl, rfl⟩
          obtain ⟨w3, rfl⟩ : ∃ x, x = w1 := ⟨_, rfl⟩
          skip
          go_wp2_with fail
          refine wp_region_ps (S := fun _ _ w' => Below w3.heap.size w3 w') (by kernel_rfl) ?spsw547 ?ppsw547
          case spsw547 =>
            exact (Below.refl _ _).drew
          refine Ps.step (i := 0) (d := some 30) (u := ?uw547_547) rfl rfl (by kernel_rfl) (by kernel_rfl) (by kernel_rfl) (by kernel_rfl) ?yw547_547 ?rw547_547
          case yw547_547 =>
            refine StepS.pure (fun _ _ _ h => h) (by rfl) (fun w9 => ?_)
            go_simp
            try rfl
          try simp only [Act.put, List.setIfInBounds_toArray, List.set_cons_zero, List.set_cons_succ]
          refine Ps.step (i := 1) (d := some 31) (u := ?uw547_548) rfl rfl (by kernel_rfl) (by kernel_rfl) (by kernel_rfl) (by kernel_rfl) ?yw547_548 ?rw547_548
          case yw547_548 =>
            refine StepS.pure (fun _ _ _ h => h) (by rfl) (fun w9 => ?_)
            go_simp
            try rfl
          try simp only [Act.put, List.setIfInBounds_toArray, List.set_cons_zero, List.set_cons_succ]
          refine Ps.step (i := 2) (d := some 32) (u := undef) rfl rfl (by kernel_rfl) (by kernel_rfl) (by kernel_rfl) (by kernel_rfl) ?yw547_549 ?rw547_549
          case yw547_549 =>
            exact StepS.skip (fun _ _ _ h => h) (by rfl)
          try simp only [Act.put, List.setIfInBounds_toArray, List.set_cons_zero, List.set_cons_succ]
          refine Ps.step (i := 3) (d := some 33) (u := undef) rfl rfl (by kernel_rfl) (by kernel_rfl) (by kernel_rfl) (by kernel_rfl) ?yw547_550 ?rw547_550
          case yw547_550 =>
            exact StepS.skip (fun _ _ _ h => h) (by rfl)
          try simp only [Act.put, List.setIfInBounds_toArray, List.set_cons_zero, List.set_cons_succ]
          refine Ps.step (i := 4) (d := some 34) (u := undef) rfl rfl (by kernel_rfl) (by kernel_rfl) (by kernel_rfl) (by kernel_rfl) ?yw547_551 ?rw547_551
          case yw547_551 =>
            exact StepS.skip (fun _ _ _ h => h) (by rfl)
          try simp only [Act.put, List.setIfInBounds_toArray, List.set_cons_zero, List.set_cons_succ]
          refine Ps.step (i := 5) (d := some 35) (u := undef) rfl rfl (by kernel_rfl) (by kernel_rfl) (by kernel_rfl) (by kernel_rfl) ?yw547_552 ?rw547_552
          case yw547_552 =>
            exact StepS.skip (fun _ _ _ h => h) (by rfl)
          try simp only [Act.put, List.setIfInBounds_toArray, List.set_cons_zero, List.set_cons_succ]
          refine Ps.step (i := 6) (d := some 36) (u := undef) rfl rfl (by kernel_rfl) (by kernel_rfl) (by kernel_rfl) (by kernel_rfl) ?yw547_553 ?rw547_553
          case yw547_553 =>
            exact StepS.skip (fun _ _ _ h => h) (by rfl)
          try simp only [Act.put, List.setIfInBounds_toArray, List.set_cons_zero, List.set_cons_succ]
          refine Ps.step (i := 7) (d := some 37) (u := undef) rfl rfl (by kernel_rfl) (by kernel_rfl) (by kernel_rfl) (by kernel_rfl) ?yw547_554 ?rw547_554
          case yw547_554 =>
            exact StepS.skip (fun _ _ _ h => h) (by rfl)
          try simp only [Act.put, List.setIfInBounds_toArray, List.set_cons_zero, List.set_cons_succ]
          refine Ps.step (i := 8) (d := some 38) (u := undef) rfl rfl (by kernel_rfl) (by kernel_rfl) (by kernel_rfl) (by kernel_rfl) ?yw547_555 ?rw547_555
          case yw547_555 =>
            exact StepS.skip (fun _ _ _ h => h) (by rfl)
          try simp only [Act.put, List.setIfInBounds_toArray, List.set_cons_zero, List.set_cons_succ]
          refine Ps.step (i := 9) (d := some 39) (u := undef) rfl rfl (by kernel_rfl) (by kernel_rfl) (by kernel_rfl) (by kernel_rfl) ?yw547_556 ?rw547_556
          case yw547_556 =>
            exact StepS.skip (fun _ _ _ h => h) (by rfl)
          try simp only [Act.put, List.setIfInBounds_toArray, List.set_cons_zero, List.set_cons_succ]
          refine Ps.step (i := 10) (d := some 40) (u := ?uw547_557) rfl rfl (by kernel_rfl) (by kernel_rfl) (by kernel_rfl) (by kernel_rfl) ?yw547_557 ?rw547_557
          case yw547_557 =>
            refine StepS.pure (fun _ _ _ h => h) (by rfl) (fun w9 => ?_)
            go_simp
            try rfl
          try simp only [Act.put, List.setIfInBounds_toArray, List.set_cons_zero, List.set_cons_succ]
          refine Ps.step (i := 11) (d := some 41) (u := ?uw547_558) rfl rfl (by kernel_rfl) (by kernel_rfl) (by kernel_rfl) (by kernel_rfl) ?yw547_558 ?rw547_558
          case yw547_558 =>
            refine StepS.pure (fun _ _ _ h => h) (by rfl) (fun w9 => ?_)
            go_simp
            try rfl
          try simp only [Act.put, List.setIfInBounds_toArray, List.set_cons_zero, List.set_cons_succ]
          refine Ps.step (i := 12) (d := some 42) (u := undef) rfl rfl (by kernel_rfl) (by kernel_rfl) (by kernel_rfl) (by kernel_rfl) ?yw547_559 ?rw547_559
          case yw547_559 =>
            exact StepS.skip (fun _ _ _ h => h) (by rfl)
          try simp only [Act.put, List.setIfInBounds_toArray, List.set_cons_zero, List.set_cons_succ]
          refine Ps.step (i := 13) (d := some 43) (u := undef) rfl rfl (by kernel_rfl) (by kernel_rfl) (by kernel_rfl) (by kernel_rfl) ?yw547_560 ?rw547_560
          case yw547_560 =>
            exact StepS.skip (fun _ _ _ h => h) (by rfl)
          try simp only [Act.put, List.setIfInBounds_toArray, List.set_cons_zero, List.set_cons_succ]
          refine Ps.step (i := 14) (d := some 44) (u := undef) rfl rfl (by kernel_rfl) (by kernel_rfl) (by kernel_rfl) (by kernel_rfl) ?yw547_561 ?rw547_561
          case yw547_561 =>
            exact StepS.skip (fun _ _ _ h => h) (by rfl)
          try simp only [Act.put, List.setIfInBounds_toArray, List.set_cons_zero, List.set_cons_succ]
          refine Ps.step (i := 15) (d := some 45) (u := undef) rfl rfl (by kernel_rfl) (by kernel_rfl) (by kernel_rfl) (by kernel_rfl) ?yw547_562 ?rw547_562
          case yw547_562 =>
            exact StepS.skip (fun _ _ _ h => h) (by rfl)
          try simp only [Act.put, List.setIfInBounds_toArray, List.set_cons_zero, List.set_cons_succ]
          refine Ps.step (i := 16) (d := some 46) (u := undef) rfl rfl (by kernel_rfl) (by kernel_rfl) (by kernel_rfl) (by kernel_rfl) ?yw547_563 ?rw547_563
          case yw547_563 =>
            exact StepS.skip (fun _ _ _ h => h) (by rfl)
          try simp only [Act.put, List.setIfInBounds_toArray, List.set_cons_zero, List.set_cons_succ]
          refine Ps.step (i := 17) (d := some 47) (u := undef) rfl rfl (by kernel_rfl) (by kernel_rfl) (by kernel_rfl) (by kernel_rfl) ?yw547_564 ?rw547_564
          case yw547_564 =>
            exact StepS.skip (fun _ _ _ h => h) (by rfl)
          try simp only [Act.put, List.setIfInBounds_toArray, List.set_cons_zero, List.set_cons_succ]
          refine Ps.step (i := 18) (d := some 48) (u := ?uw547_565) rfl rfl (by kernel_rfl) (by kernel_rfl) (by kernel_rfl) (by kernel_rfl) ?yw547_565 ?rw547_565
          case yw547_565 =>
            refine StepS.pure (fun _ _ _ h => h) (by rfl) (fun w9 => ?_)
            go_simp
            try rfl
          try simp only [Act.put, List.setIfInBounds_toArray, List.set_cons_zero, List.set_cons_succ]
          refine Ps.step (i := 19) (d := some 49) (u := ?uw547_566) rfl rfl (by kernel_rfl) (by kernel_rfl) (by kernel_rfl) (by kernel_rfl) ?yw547_566 ?rw547_566
          case yw547_566 =>
            refine StepS.pure (fun _ _ _ h => h) (by rfl) (fun w9 => ?_)
            go_simp
            try rfl
          try simp only [Act.put, List.setIfInBounds_toArray, List.set_cons_zero, List.set_cons_succ]
          refine Ps.step (i := 20) (d := some 50) (u := undef) rfl rfl (by kernel_rfl) (by kernel_rfl) (by kernel_rfl) (by kernel_rfl) ?yw547_567 ?rw547_567
          case yw547_567 =>
            exact StepS.skip (fun _ _ _ h => h) (by rfl)
          try simp only [Act.put, List.setIfInBounds_toArray, List.set_cons_zero, List.set_cons_succ]
          refine Ps.step (i := 21) (d := some 51) (u := undef) rfl rfl (by kernel_rfl) (by kernel_rfl) (by kernel_rfl) (by kernel_rfl) ?yw547_568 ?rw547_568
          case yw547_568 =>
            exact StepS.skip (fun _ _ _ h => h) (by rfl)
          try simp only [Act.put, List.setIfInBounds_toArray, List.set_cons_zero, List.set_cons_succ]
          refine Ps.step (i := 22) (d := some 52) (u := undef) rfl rfl (by kernel_rfl) (by kernel_rfl) (by kernel_rfl) (by kernel_rfl) ?yw547_569 ?rw547_569
          case yw547_569 =>
            exact StepS.skip (fun _ _ _ h => h) (by rfl)
          try simp only [Act.put, List.setIfInBounds_toArray, List.set_cons_zero, List.set_cons_succ]
          refine Ps.step (i := 23) (d := some 53) (u := undef) rfl rfl (by kernel_rfl) (by kernel_rfl) (by kernel_rfl) (by kernel_rfl) ?yw547_570 ?rw547_570
          case yw547_570 =>
            exact StepS.skip (fun _ _ _ h => h) (by rfl)
          try simp only [Act.put, List.setIfInBounds_toArray, List.set_cons_zero, List.set_cons_succ]
          refine Ps.step (i := 24) (d := some 54) (u := undef) rfl rfl (by kernel_rfl) (by kernel_rfl) (by kernel_rfl) (by kernel_rfl) ?yw547_571 ?rw547_571
          case yw547_571 =>
            exact StepS.skip (fun _ _ _ h => h) (by rfl)
          try simp only [Act.put, List.setIfInBounds_toArray, List.set_cons_zero, List.set_cons_succ]
          refine Ps.step (i := 25) (d := some 55) (u := ?uw547_572) rfl rfl (by kernel_rfl) (by kernel_rfl) (by kernel_rfl) (by kernel_rfl) ?yw547_572 ?rw547_572
          case yw547_572 =>
            refine StepS.pure (fun _ _ _ h => h) (by rfl) (fun w9 => ?_)
            go_simp
            try rfl
          try simp only [Act.put, List.setIfInBounds_toArray, List.set_cons_zero, List.set_cons_succ]
          refine Ps.step (i := 26) (d := some 56) (u := ?uw547_573) rfl rfl (by kernel_rfl) (by kernel_rfl) (by kernel_rfl) (by kernel_rfl) ?yw547_573 ?rw547_573
          case yw547_573 =>
            refine StepS.pure (fun _ _ _ h => h) (by rfl) (fun w9 => ?_)
            go_simp
            try rfl
          try simp only [Act.put, List.setIfInBounds_toArray, List.set_cons_zero, List.set_cons_succ]
          refine Ps.step (i := 27) (d := some 57) (u := undef) rfl rfl (by kernel_rfl) (by kernel_rfl) (by kernel_rfl) (by kernel_rfl) ?yw547_574 ?rw547_574
          case yw547_574 =>
            exact StepS.skip (fun _ _ _ h => h) (by rfl)
          try simp only [Act.put, List.setIfInBounds_toArray, List.set_cons_zero, List.set_cons_succ]
          refine Ps.step (i := 28) (d := some 58) (u := undef) rfl rfl (by kernel_rfl) (by kernel_rfl) (by kernel_rfl) (by kernel_rfl) ?yw547_575 ?rw547_575
          case yw547_575 =>
            exact StepS.skip (fun _ _ _ h => h) (by rfl)
          try simp only [Act.put, List.setIfInBounds_toArray, List.set_cons_zero, List.set_cons_succ]
          refine Ps.step (i := 29) (d := some 59) (u := undef) rfl rfl (by kernel_rfl) (by kernel_rfl) (by kernel_rfl) (by kernel_rfl) ?yw547_576 ?rw547_576
          case yw547_576 =>
            exact StepS.skip (fun _ _ _ h => h) (by rfl)
          try simp only [Act.put, List.setIfInBounds_toArray, List.set_cons_zero, List.set_cons_succ]
          refine Ps.step (i := 30) (d := some 60) (u := undef) rfl rfl (by kernel_rfl) (by kernel_rfl) (by kernel_rfl) (by kernel_rfl) ?yw547_577 ?rw547_577
          case yw547_577 =>
            exact StepS.skip (fun _ _ _ h => h) (by rfl)
          try simp only [Act.put, List.setIfInBounds_toArray, List.set_cons_zero, List.set_cons_succ]
          refine Ps.step (i := 31) (d := some 61) (u := undef) rfl rfl (by kernel_rfl) (by kernel_rfl) (by kernel_rfl) (by kernel_rfl) ?yw547_578 ?rw547_578
          case yw547_578 =>
            exact StepS.skip (fun _ _ _ h => h) (by rfl)
          try simp only [Act.put, List.setIfInBounds_toArray, List.set_cons_zero, List.set_cons_succ]
          refine Ps.step (i := 32) (d := some 62) (u := ?uw547_579) rfl rfl (by kernel_rfl) (by kernel_rfl) (by kernel_rfl) (by kernel_rfl) ?yw547_579 ?rw547_579
          case yw547_579 =>
            refine StepS.pure (fun _ _ _ h => h) (by rfl) (fun w9 => ?_)
            go_simp
            try rfl
          try simp only [Act.put, List.setIfInBounds_toArray, List.set_cons_zero, List.set_cons_succ]
          refine Ps.step (i := 33) (d := some 63) (u := ?uw547_580) rfl rfl (by kernel_rfl) (by kernel_rfl) (by kernel_rfl) (by kernel_rfl) ?yw547_580 ?rw547_580
          case yw547_580 =>
            refine StepS.pure (fun _ _ _ h => h) (by rfl) (fun w9 => ?_)
            go_simp
            try rfl
          try simp only [Act.put, List.setIfInBounds_toArray, List.set_cons_zero, List.set_cons_succ]
          refine Ps.step (i := 34) (d := some 64) (u := undef) rfl rfl (by kernel_rfl) (by kernel_rfl) (by kernel_rfl) (by kernel_rfl) ?yw547_581 ?rw547_581
          case yw547_581 =>
            exact StepS.skip (fun _ _ _ h => h) (by rfl)
          try simp only [Act.put, List.setIfInBounds_toArray, List.set_cons_zero, List.set_cons_succ]
          refine Ps.step (i := 35) (d := some 65) (u := undef) rfl rfl (by kernel_rfl) (by kernel_rfl) (by kernel_rfl) (by kernel_rfl) ?yw547_582 ?rw547_582
          case yw547_582 =>
            exact StepS.skip (fun _ _ _ h => h) (by rfl)
          try simp only [Act.put, List.setIfInBounds_toArray, List.set_cons_zero, List.set_cons_succ]
          refine Ps.step (i := 36) (d := some 66) (u := undef) rfl rfl (by kernel_rfl) (by kernel_rfl) (by kernel_rfl) (by kernel_rfl) ?yw547_583 ?rw547_583
          case yw547_583 =>
            exact StepS.skip (fun _ _ _ h => h) (by rfl)
          try simp only [Act.put, List.setIfInBounds_toArray, List.set_cons_zero, List.set_cons_succ]
          refine Ps.step (i := 37) (d := some 67) (u := ?uw547_584) rfl rfl (by kernel_rfl) (by kernel_rfl) (by kernel_rfl) (by kernel_rfl) ?yw547_584 ?rw547_584
          case yw547_584 =>
            refine StepS.pure (fun _ _ _ h => h) (by rfl) (fun w9 => ?_)
            go_simp
            try rfl
          try simp only [Act.put, List.setIfInBounds_toArray, List.set_cons_zero, List.set_cons_succ]
          refine Ps.step (i := 38) (d := some 3) (u := ?uw547_585) rfl rfl (by kernel_rfl) (by kernel_rfl) (by kernel_rfl) (by kernel_rfl) ?yw547_585 ?rw547_585
          case yw547_585 =>
            refine StepS.pure (fun _ _ _ h => h) (by rfl) (fun w9 => ?_)
            go_simp
            try rfl
          try simp only [Act.put, List.setIfInBounds_toArray, List.set_cons_zero, List.set_cons_succ]
          refine Ps.done (by kernel_rfl) (fun w547 hS => ?_) _
          have HQ := Lib.hid (show Below w3.heap.size w3 _ from hS)
          clear hS
          obtain ⟨w7, rfl⟩ : ∃ x, x = w547 := ⟨_, rfl⟩
          go_wp2
          go_ret
          exact ⟨ret_int (by rw [HRR.out, HF.out]; rfl), bl_ca HBB.out HQ.out⟩
      · have a21 : base < 1 := by omega
        clear hA a2
        go_enter Try.func20, Try.ntmps20
        go_wp2_with fail
        generalize w.alloc (.cells #[.int .u32 ses, .int .u64 base, .slice A n c, .int .u64 sent, .int .u64 lim, .int .i64 timer, .bool ended] 29) = w1 at *
        refine (HSS.out _).mono ?_
        rintro e w2 ⟨rfl, rfl⟩
        obtain ⟨w3, rfl⟩ : ∃ x, x = w1 := ⟨_, rfl⟩
        skip
        go_wp2_with fail
        refine wp_region_ps (S := fun _ _ w' => Below w3.heap.size w3 w') (by kernel_rfl) ?spsw586 ?ppsw586
        case spsw586 =>
          exact (Below.refl _ _).drew
        refine Ps.step (i := 0) (d := some 30) (u := ?uw586_586) rfl rfl (by kernel_rfl) (by kernel_rfl) (by kernel_rfl) (by kernel_rfl) ?yw586_586 ?rw586_586
        case yw586_586 =>
          refine StepS.pure (fun _ _ _ h => h) (by rfl) (fun w9 => ?_)
          go_simp
          try rfl
        try simp only [Act.put, List.setIfInBounds_toArray, List.set_cons_zero, List.set_cons_succ]
        refine Ps.step (i := 1) (d := some 31) (u := ?uw586_587) rfl rfl (by kernel_rfl) (by kernel_rfl) (by kernel_rfl) (by kernel_rfl) ?yw586_587 ?rw586_587
        case yw586_587 =>
          refine StepS.pure (fun _ _ _ h => h) (by rfl) (fun w9 => ?_)
          go_simp
          try rfl
        try simp only [Act.put, List.setIfInBounds_toArray, List.set_cons_zero, List.set_cons_succ]
        refine Ps.step (i := 2) (d := some 32) (u := undef) rfl rfl (by kernel_rfl) (by kernel_rfl) (by kernel_rfl) (by kernel_rfl) ?yw586_588 ?rw586_588
        case yw586_588 =>
          exact StepS.skip (fun _ _ _ h => h) (by rfl)
        try simp only [Act.put, List.setIfInBounds_toArray, List.set_cons_zero, List.set_cons_succ]
        refine Ps.step (i := 3) (d := some 33) (u := undef) rfl rfl (by kernel_rfl) (by kernel_rfl) (by kernel_rfl) (by kernel_rfl) ?yw586_589 ?rw586_589
        case yw586_589 =>
          exact StepS.skip (fun _ _ _ h => h) (by rfl)
        try simp only [Act.put, List.setIfInBounds_toArray, List.set_cons_zero, List.set_cons_succ]
        refine Ps.step (i := 4) (d := some 34) (u := undef) rfl rfl (by kernel_rfl) (by kernel_rfl) (by kernel_rfl) (by kernel_rfl) ?yw586_590 ?rw586_590
        case yw586_590 =>
          exact StepS.skip (fun _ _ _ h => h) (by rfl)
        try simp only [Act.put, List.setIfInBounds_toArray, List.set_cons_zero, List.set_cons_succ]
        refine Ps.step (i := 5) (d := some 35) (u := undef) rfl rfl (by kernel_rfl) (by kernel_rfl) (by kernel_rfl) (by kernel_rfl) ?yw586_591 ?rw586_591
        case yw586_591 =>
          exact StepS.skip (fun _ _ _ h => h) (by rfl)
        try simp only [Act.put, List.setIfInBounds_toArray, List.set_cons_zero, List.set_cons_succ]
        refine Ps.step (i := 6) (d := some 36) (u := undef) rfl rfl (by kernel_rfl) (by kernel_rfl) (by kernel_rfl) (by kernel_rfl) ?yw586_592 ?rw586_592
        case yw586_592 =>
          exact StepS.skip (fun _ _ _ h => h) (by rfl)
        try simp only [Act.put, List.setIfInBounds_toArray, List.set_cons_zero, List.set_cons_succ]
        refine Ps.step (i := 7) (d := some 37) (u := undef) rfl rfl (by kernel_rfl) (by kernel_rfl) (by kernel_rfl) (by kernel_rfl) ?yw586_593 ?rw586_593
        case yw586_593 =>
          exact StepS.skip (fun _ _ _ h => h) (by rfl)
        try simp only [Act.put, List.setIfInBounds_toArray, List.set_cons_zero, List.set_cons_succ]
        refine Ps.step (i := 8) (d := some 38) (u := undef) rfl rfl (by kernel_rfl) (by kernel_rfl) (by kernel_rfl) (by kernel_rfl) ?yw586_594 ?rw586_594
        case yw586_594 =>
          exact StepS.skip (fun _ _ _ h => h) (by rfl)
        try simp only [Act.put, List.setIfInBounds_toArray, List.set_cons_zero, List.set_cons_succ]
        refine Ps.step (i := 9) (d := some 39) (u := undef) rfl rfl (by kernel_rfl) (by kernel_rfl) (by kernel_rfl) (by kernel_rfl) ?yw586_595 ?rw586_595
        case yw586_595 =>
          exact StepS.skip (fun _ _ _ h => h) (by rfl)
        try simp only [Act.put, List.setIfInBounds_toArray, List.set_cons_zero, List.set_cons_succ]
        refine Ps.step (i := 10) (d := some 40) (u := ?uw586_596) rfl rfl (by kernel_rfl) (by kernel_rfl) (by kernel_rfl) (by kernel_rfl) ?yw586_596 ?rw586_596
        case yw586_596 =>
          refine StepS.pure (fun _ _ _ h => h) (by rfl) (fun w9 => ?_)
          go_simp
          try rfl
        try simp only [Act.put, List.setIfInBounds_toArray, List.set_cons_zero, List.set_cons_succ]
        refine Ps.step (i := 11) (d := some 41) (u := ?uw586_597) rfl rfl (by kernel_rfl) (by kernel_rfl) (by kernel_rfl) (by kernel_rfl) ?yw586_597 ?rw586_597
        case yw586_597 =>
          refine StepS.pure (fun _ _ _ h => h) (by rfl) (fun w9 => ?_)
          go_simp
          try rfl
        try simp only [Act.put, List.setIfInBounds_toArray, List.set_cons_zero, List.set_cons_succ]
        refine Ps.step (i := 12) (d := some 42) (u := undef) rfl rfl (by kernel_rfl) (by kernel_rfl) (by kernel_rfl) (by kernel_rfl) ?yw586_598 ?rw586_598
        case yw586_598 =>
          exact StepS.skip (fun _ _ _ h => h) (by rfl)
        try simp only [Act.put, List.setIfInBounds_toArray, List.set_cons_zero, List.set_cons_succ]
        refine Ps.step (i := 13) (d := some 43) (u := undef) rfl rfl (by kernel_rfl) (by kernel_rfl) (by kernel_rfl) (by kernel_rfl) ?yw586_599 ?rw586_599
        case yw586_599 =>
          exact StepS.skip (fun _ _ _ h => h) (by rfl)
        try simp only [Act.put, List.setIfInBounds_toArray, List.set_cons_zero, List.set_cons_succ]
        refine Ps.step (i := 14) (d := some 44) (u := undef) rfl rfl (by kernel_rfl) (by kernel_rfl) (by kernel_rfl) (by kernel_rfl) ?yw586_600 ?rw586_600
        case yw586_600 =>
          exact StepS.skip (fun _ _ _ h => h) (by rfl)
        try simp only [Act.put, List.setIfInBounds_toArray, List.set_cons_zero, List.set_cons_succ]
        refine Ps.step (i := 15) (d := some 45) (u := undef) rfl rfl (by kernel_rfl) (by kernel_rfl) (by kernel_rfl) (by kernel_rfl) ?yw586_601 ?rw586_601
        case yw586_601 =>
          exact StepS.skip (fun _ _ _ h => h) (by rfl)
        try simp only [Act.put, List.setIfInBounds_toArray, List.set_cons_zero, List.set_cons_succ]
        refine Ps.step (i := 16) (d := some 46) (u := undef) rfl rfl (by kernel_rfl) (by kernel_rfl) (by kernel_rfl) (by kernel_rfl) ?yw586_602 ?rw586_602
        case yw586_602 =>
          exact StepS.skip (fun _ _ _ h => h) (by rfl)
        try simp only [Act.put, List.setIfInBounds_toArray, List.set_cons_zero, List.set_cons_succ]
        refine Ps.step (i := 17) (d := some 47) (u := undef) rfl rfl (by kernel_rfl) (by kernel_rfl) (by kernel_rfl) (by kernel_rfl) ?yw586_603 ?rw586_603
        case yw586_603 =>
          exact StepS.skip (fun _ _ _ h => h) (by rfl)
        try simp only [Act.put, List.setIfInBounds_toArray, List.set_cons_zero, List.set_cons_succ]
        refine Ps.step (i := 18) (d := some 48) (u := ?uw586_604) rfl rfl (by kernel_rfl) (by kernel_rfl) (by kernel_rfl) (by kernel_rfl) ?yw586_604 ?rw586_604
        case yw586_604 =>
          refine StepS.pure (fun _ _ _ h => h) (by rfl) (fun w9 => ?_)
          go_simp
          try rfl
        try simp only [Act.put, List.setIfInBounds_toArray, List.set_cons_zero, List.set_cons_succ]
        refine Ps.step (i := 19) (d := some 49) (u := ?uw586_605) rfl rfl (by kernel_rfl) (by kernel_rfl) (by kernel_rfl) (by kernel_rfl) ?yw586_605 ?rw586_605
        case yw586_605 =>
          refine StepS.pure (fun _ _ _ h => h) (by rfl) (fun w9 => ?_)
          go_simp
          try rfl
        try simp only [Act.put, List.setIfInBounds_toArray, List.set_cons_zero, List.set_cons_succ]
        refine Ps.step (i := 20) (d := some 50) (u := undef) rfl rfl (by kernel_rfl) (by kernel_rfl) (by kernel_rfl) (by kernel_rfl) ?yw586_606 ?rw586_606
        case yw586_606 =>
          exact StepS.skip (fun _ _ _ h => h) (by rfl)
        try simp only [Act.put, List.setIfInBounds_toArray, List.set_cons_zero, List.set_cons_succ]
        refine Ps.step (i := 21) (d := some 51) (u := undef) rfl rfl (by kernel_rfl) (by kernel_rfl) (by kernel_rfl) (by kernel_rfl) ?yw586_607 ?rw586_607
        case yw586_607 =>
          exact StepS.skip (fun _ _ _ h => h) (by rfl)
        try simp only [Act.put, List.setIfInBounds_toArray, List.set_cons_zero, List.set_cons_succ]
        refine Ps.step (i := 22) (d := some 52) (u := undef) rfl rfl (by kernel_rfl) (by kernel_rfl) (by kernel_rfl) (by kernel_rfl) ?yw586_608 ?rw586_608
        case yw586_608 =>
          exact StepS.skip (fun _ _ _ h => h) (by rfl)
        try simp only [Act.put, List.setIfInBounds_toArray, List.set_cons_zero, List.set_cons_succ]
        refine Ps.step (i := 23) (d := some 53) (u := undef) rfl rfl (by kernel_rfl) (by kernel_rfl) (by kernel_rfl) (by kernel_rfl) ?yw586_609 ?rw586_609
        case yw586_609 =>
          exact StepS.skip (fun _ _ _ h => h) (by rfl)
        try simp only [Act.put, List.setIfInBounds_toArray, List.set_cons_zero, List.set_cons_succ]
        refine Ps.step (i := 24) (d := some 54) (u := undef) rfl rfl (by kernel_rfl) (by kernel_rfl) (by kernel_rfl) (by kernel_rfl) ?yw586_610 ?rw586_610
        case yw586_610 =>
          exact StepS.skip (fun _ _ _ h => h) (by rfl)
        try simp only [Act.put, List.setIfInBounds_toArray, List.set_cons_zero, List.set_cons_succ]
        refine Ps.step (i := 25) (d := some 55) (u := ?uw586_611) rfl rfl (by kernel_rfl) (by kernel_rfl) (by kernel_rfl) (by kernel_rfl) ?yw586_611 ?rw586_611
        case yw586_611 =>
          refine StepS.pure (fun _ _ _ h => h) (by rfl) (fun w9 => ?_)
          go_simp
          try rfl
        try simp only [Act.put, List.setIfInBounds_toArray, List.set_cons_zero, List.set_cons_succ]
        refine Ps.step (i := 26) (d := some 56) (u := ?uw586_612) rfl rfl (by kernel_rfl) (by kernel_rfl) (by kernel_rfl) (by kernel_rfl) ?yw586_612 ?rw586_612
        case yw586_612 =>
          refine StepS.pure (fun _ _ _ h => h) (by rfl) (fun w9 => ?_)
          go_simp
          try rfl
        try simp only [Act.put, List.setIfInBounds_toArray, List.set_cons_zero, List.set_cons_succ]
        refine Ps.step (i := 27) (d := some 57) (u := undef) rfl rfl (by kernel_rfl) (by kernel_rfl) (by kernel_rfl) (by kernel_rfl) ?yw586_613 ?rw586_613
        case yw586_613 =>
          exact StepS.skip (fun _ _ _ h => h) (by rfl)
        try simp only [Act.put, List.setIfInBounds_toArray, List.set_cons_zero, List.set_cons_succ]
        refine Ps.step (i := 28) (d := some 58) (u := undef) rfl rfl (by kernel_rfl) (by kernel_rfl) (by kernel_rfl) (by kernel_rfl) ?yw586_614 ?rw586_614
        case yw586_614 =>
          exact StepS.skip (fun _ _ _ h => h) (by rfl)
        try simp only [Act.put, List.setIfInBounds_toArray, List.set_cons_zero, List.set_cons_succ]
        refine Ps.step (i := 29) (d := some 59) (u := undef) rfl rfl (by kernel_rfl) (by kernel_rfl) (by kernel_rfl) (by kernel_rfl) ?yw586_615 ?rw586_615
        case yw586_615 =>
          exact StepS.skip (fun _ _ _ h => h) (by rfl)
        try simp only [Act.put, List.setIfInBounds_toArray, List.set_cons_zero, List.set_cons_succ]
        refine Ps.step (i := 30) (d := some 60) (u := undef) rfl rfl (by kernel_rfl) (by kernel_rfl) (by kernel_rfl) (by kernel_rfl) ?yw586_616 ?rw586_616
        case yw586_616 =>
          exact StepS.skip (fun _ _ _ h => h) (by rfl)
        try simp only [Act.put, List.setIfInBounds_toArray, List.set_cons_zero, List.set_cons_succ]
        refine Ps.step (i := 31) (d := some 61) (u := undef) rfl rfl (by kernel_rfl) (by kernel_rfl) (by kernel_rfl) (by kernel_rfl) ?yw586_617 ?rw586_617
        case yw586_617 =>
          exact StepS.skip (fun _ _ _ h => h) (by rfl)
        try simp only [Act.put, List.setIfInBounds_toArray, List.set_cons_zero, List.set_cons_succ]
        refine Ps.step (i := 32) (d := some 62) (u := ?uw586_618) rfl rfl (by kernel_rfl) (by kernel_rfl) (by kernel_rfl) (by kernel_rfl) ?yw586_618 ?rw586_618
        case yw586_618 =>
          refine StepS.pure (fun _ _ _ h => h) (by rfl) (fun w9 => ?_)
          go_simp
          try rfl
        try simp only [Act.put, List.setIfInBounds_toArray, List.set_cons_zero, List.set_cons_succ]
        refine Ps.step (i := 33) (d := some 63) (u := ?uw586_619) rfl rfl (by kernel_rfl) (by kernel_rfl) (by kernel_rfl) (by kernel_rfl) ?yw586_619 ?rw586_619
        case yw586_619 =>
          refine StepS.pure (fun _ _ _ h => h) (by rfl) (fun w9 => ?_)
          go_simp
          try rfl
        try simp only [Act.put, List.setIfInBounds_toArray, List.set_cons_zero, List.set_cons_succ]
        refine Ps.step (i := 34) (d := some 64) (u := undef) rfl rfl (by kernel_rfl) (by kernel_rfl) (by kernel_rfl) (by kernel_rfl) ?yw586_620 ?rw586_620
        case yw586_620 =>
          exact StepS.skip (fun _ _ _ h => h) (by rfl)
        try simp only [Act.put, List.setIfInBounds_toArray, List.set_cons_zero, List.set_cons_succ]
        refine Ps.step (i := 35) (d := some 65) (u := undef) rfl rfl (by kernel_rfl) (by kernel_rfl) (by kernel_rfl) (by kernel_rfl) ?yw586_621 ?rw586_621
        case yw586_621 =>
          exact StepS.skip (fun _ _ _ h => h) (by rfl)
        try simp only [Act.put, List.setIfInBounds_toArray, List.set_cons_zero, List.set_cons_succ]
        refine Ps.step (i := 36) (d := some 66) (u := undef) rfl rfl (by kernel_rfl) (by kernel_rfl) (by kernel_rfl) (by kernel_rfl) ?yw586_622 ?rw586_622
        case yw586_622 =>
          exact StepS.skip (fun _ _ _ h => h) (by rfl)
        try simp only [Act.put, List.setIfInBounds_toArray, List.set_cons_zero, List.set_cons_succ]
        refine Ps.step (i := 37) (d := some 67) (u := ?uw586_623) rfl rfl (by kernel_rfl) (by kernel_rfl) (by kernel_rfl) (by kernel_rfl) ?yw586_623 ?rw586_623
        case yw586_623 =>
          refine StepS.pure (fun _ _ _ h => h) (by rfl) (fun w9 => ?_)
          go_simp
          try rfl
        try simp only [Act.put, List.setIfInBounds_toArray, List.set_cons_zero, List.set_cons_succ]
        refine Ps.step (i := 38) (d := some 3) (u := ?uw586_624) rfl rfl (by kernel_rfl) (by kernel_rfl) (by kernel_rfl) (by kernel_rfl) ?yw586_624 ?rw586_624
        case yw586_624 =>
          refine StepS.pure (fun _ _ _ h => h) (by rfl) (fun w9 => ?_)
          go_simp
          try rfl
        try simp only [Act.put, List.setIfInBounds_toArray, List.set_cons_zero, List.set_cons_succ]
        refine Ps.done (by kernel_rfl) (fun w586 hS => ?_) _
        have HQ := Lib.hid (show Below w3.heap.size w3 _ from hS)
        clear hS
        obtain ⟨w7, rfl⟩ : ∃ x, x = w586 := ⟨_, rfl⟩
        go_wp2
        go_ret
        exact ⟨ret_int (by rw [HRR.out, HF.out]; rfl), bl_ca HBB.out HQ.out⟩
end Go.Proofs.Ytojghgbaiiajfaa
