/- LinkOpens, walked. Conditions: the slices read as these sessions and rooms. -/
import Derived.Test.YtojghgbaiiajfaaPkO15
namespace Go.Proofs.Ytojghgbaiiajfaa
open Go.RowKit
def LI : Lay Int := Lay.cell (Value.int .i64) (fun _ => rfl)
def LU : Lay Int := Lay.cell (Value.int .u32) (fun _ => rfl)
theorem LI_at {w : World} {F : Nat → Prop} {A : Option Addr} {n i : Nat} {xs : List Int} (h : LI.rd w F A n xs) (hi : i < n) : ∃ ad x, A = some ad ∧ xs[i]? = some x ∧ w.cell? (ad.add i) = some (.int .i64 x) := by
  obtain ⟨ad, x, cs, rfl, hx, _, _, hrep, hcl⟩ := Lay.rd_at h hi
  have hcs : cs = [.int .i64 x] := hrep
  subst hcs
  refine ⟨ad, x, rfl, hx, ?_⟩
  have := hcl 0 _ rfl
  simpa [LI, Lay.cell] using this
theorem LU_at {w : World} {F : Nat → Prop} {A : Option Addr} {n i : Nat} {xs : List Int} (h : LU.rd w F A n xs) (hi : i < n) : ∃ ad x, A = some ad ∧ xs[i]? = some x ∧ w.cell? (ad.add i) = some (.int .u32 x) := by
  obtain ⟨ad, x, cs, rfl, hx, _, _, hrep, hcl⟩ := Lay.rd_at h hi
  have hcs : cs = [.int .u32 x] := hrep
  subst hcs
  refine ⟨ad, x, rfl, hx, ?_⟩
  have := hcl 0 _ rfl
  simpa [LU, Lay.cell] using this
theorem eqSC_refl (s : SC) : eqSC s s = true := (eqSC_iff s s).2 rfl
theorem eqRC_refl (s : RC) : eqRC s s = true := by simp [eqRC, flatRC]
set_option maxRecDepth 100000 in
set_option maxHeartbeats 64000000 in
theorem opens_law (A : Option Addr) (n c : Nat) (ss : List Int) (A2 : Option Addr) (n2 c2 : Nat) (rs : List Int) (w : World) (h : LU.rd w AllB A n ss) (hm : n ≤ 9223372036854775807) (_hr : ∀ x ∈ ss, (Lit.int .u32 x).wf = true) (h2 : LI.rd w AllB A2 n2 rs) (hm2 : n2 ≤ 9223372036854775807) (_hr2 : ∀ x ∈ rs, (Lit.int .i64 x).wf = true) :
    Calls Try.prog 3 #[.slice A n c, .slice A2 n2 c2] w fun e w' => e = .returned (.bool true) ∧ Below w.heap.size w w' := by
  have H1 := Lib.hid h
  have H2 := Lib.hid h2
  clear h h2 _hr _hr2
  go_enter Try.func3, Try.ntmps3
  go_wp2_with fail
  refine (wakes_any _).mono ?_
  rintro e w2 ⟨rfl, q2⟩
  have HB2 := Lib.hid q2
  clear q2
  go_wp2_with fail
  go_loopg [18] n (fun g a wr => ∃ i : Nat, i + g = n ∧ i ≤ 8 ∧ a = .int .i64 i ∧ Below w.heap.size w wr)
  case atStart => exact ⟨0, by omega, by omega, rfl, HB2.out⟩
  case round =>
    obtain ⟨i, hig, hi8, rfl, hbw⟩ := hrel
    have HBW := Lib.hid hbw
    clear HB2
    by_cases hlt : i < n
    · have hi1 : (i : Int) < (n : Int) := by omega
      obtain ⟨ad, z, rfl, _, e0⟩ := LU_at (Lay.rd_below H1.out hbw) hlt
      by_cases hie : i = 8
      · have hi2 : ((i : Int) == 8) = true := by simp; omega
        clear hbw hie
        go_wp2
        go_ret
        exact ⟨rfl, HBW.out⟩
      have hi2 : ((i : Int) == 8) = false := by simp; omega
      have hi7 : i < 8 := by omega
      have HO := Lib.hid (fun W => open_any z W)
      clear hbw hie
      by_cases h1 : 1 ≤ z
      · have d1 : decide (1 ≤ z) = true := by simpa using h1
        by_cases h2 : z ≤ 2147483647
        · have d2 : decide (z ≤ 2147483647) = true := by simpa using h2
          have HSE := Lib.hid (show sesB z = true from by unfold sesB; rw [d1, d2]; rfl)
          rw [show openS z = ⟨z, 1, [], 0, 0, 0, false⟩ from by unfold openS; rw [HSE.out]; rfl, show openE z = 0 from by unfold openE; rw [HSE.out]; rfl] at HO
          go_wp2_with fail
          refine (HO.out _).mono ?_
          rintro e w3 ⟨rfl, q3⟩
          have HB3 := Lib.hid (bl_al (bl_ca HBW.out q3) (.cells #[.int .u32 z, .int .u64 1, .slice none 0 0, .int .u64 0, .int .u64 0, .int .i64 0, .bool false] 29))
          have hp3 := Blk.new w3 29 #[.int .u32 z, .int .u64 1, .slice none 0 0, .int .u64 0, .int .u64 0, .int .i64 0, .bool false]
          have x0 : (w3.alloc (.cells #[.int .u32 z, .int .u64 1, .slice none 0 0, .int .u64 0, .int .u64 0, .int .i64 0, .bool false] 29)).cell? ⟨w3.heap.size, 0, none⟩ = some (.int .u32 z) := hp3.cell 0
          have x1 : (w3.alloc (.cells #[.int .u32 z, .int .u64 1, .slice none 0 0, .int .u64 0, .int .u64 0, .int .i64 0, .bool false] 29)).cell? ⟨w3.heap.size, 1, none⟩ = some (.int .u64 1) := hp3.cell 1
          have x2 : (w3.alloc (.cells #[.int .u32 z, .int .u64 1, .slice none 0 0, .int .u64 0, .int .u64 0, .int .i64 0, .bool false] 29)).cell? ⟨w3.heap.size, 2, none⟩ = some (.slice none 0 0) := hp3.cell 2
          have x3 : (w3.alloc (.cells #[.int .u32 z, .int .u64 1, .slice none 0 0, .int .u64 0, .int .u64 0, .int .i64 0, .bool false] 29)).cell? ⟨w3.heap.size, 3, none⟩ = some (.int .u64 0) := hp3.cell 3
          have x4 : (w3.alloc (.cells #[.int .u32 z, .int .u64 1, .slice none 0 0, .int .u64 0, .int .u64 0, .int .i64 0, .bool false] 29)).cell? ⟨w3.heap.size, 4, none⟩ = some (.int .u64 0) := hp3.cell 4
          have x5 : (w3.alloc (.cells #[.int .u32 z, .int .u64 1, .slice none 0 0, .int .u64 0, .int .u64 0, .int .i64 0, .bool false] 29)).cell? ⟨w3.heap.size, 5, none⟩ = some (.int .i64 0) := hp3.cell 5
          have x6 : (w3.alloc (.cells #[.int .u32 z, .int .u64 1, .slice none 0 0, .int .u64 0, .int .u64 0, .int .i64 0, .bool false] 29)).cell? ⟨w3.heap.size, 6, none⟩ = some (.bool false) := hp3.cell 6
          have HSS := Lib.hid (rsameS_any (fun _ => True) (fun _ => True) ⟨z, 1, [], 0, 0, 0, false⟩ ⟨z, 1, [], 0, 0, 0, false⟩ none none 0 0 0 0 (w3.alloc (.cells #[.int .u32 z, .int .u64 1, .slice none 0 0, .int .u64 0, .int .u64 0, .int .i64 0, .bool false] 29)) (Lay.rd_nil _) (Lay.rd_nil _) (by omega))
          rw [show eqSC ⟨z, 1, [], 0, 0, 0, false⟩ ⟨z, 1, [], 0, 0, 0, false⟩ = true from eqSC_refl _] at HSS
          clear q3 hp3 HO
          go_wp2_with fail
          refine HSS.out.mono ?_
          rintro e wx ⟨rfl, q6⟩
          have HBX := Lib.hid (bl_ca HB3.out q6)
          clear q6 HSS x0 x1 x2 x3 x4 x5 x6 HB3
          go_wp2_with fail
          obtain ⟨gj, rfl⟩ : ∃ g, g = gk := ⟨_, rfl⟩
          obtain ⟨w60, rfl⟩ : ∃ x, x = wr := ⟨_, rfl⟩
          go_loopg [64] n2 (fun gz a wr => ∃ t : Nat, t + gz = n2 ∧ t ≤ 8 ∧ a = .int .i64 t ∧ Below w.heap.size w wr)
          case atStart => exact ⟨0, by omega, by omega, rfl, HBX.out⟩
          case round =>
            obtain ⟨t, htg, ht8, rfl, hbt⟩ := hrel
            have HBT := Lib.hid hbt
            clear HBX
            by_cases ht : t < n2
            · have ht1 : (t : Int) < (n2 : Int) := by omega
              obtain ⟨rd, y, rfl, _, f0⟩ := LI_at (Lay.rd_below H2.out hbt) ht
              by_cases hte : t = 8
              · have ht2 : ((t : Int) == 8) = true := by simp; omega
                clear hbt hte
                go_wp2
                go_roundg (gj - 1)
                · exact ⟨i + 1, by omega, by omega, by go_num, HBT.out⟩
                · omega
              · have ht2 : ((t : Int) == 8) = false := by simp; omega
                have ht7 : t < 8 := by omega
                have HL := Lib.hid (fun W => listen_any z y W)
                clear hbt
                by_cases h1 : 1 ≤ y
                · have d1 : decide (1 ≤ y) = true := by simpa using h1
                  by_cases h8 : y ≤ 8
                  · have d8 : decide (y ≤ 8) = true := by simpa using h8
                    have HRM := Lib.hid (show roomB z y = true from by unfold roomB; rw [HSE.out, d1, d8]; rfl)
                    rw [show listenR z y = ⟨z, 1, [], [], y, false⟩ from by unfold listenR; rw [HRM.out]; rfl, show listenE z y = 0 from by unfold listenE; rw [HRM.out]; rfl] at HL
                    go_wp2_with fail
                    refine (HL.out _).mono ?_
                    rintro e w5 ⟨rfl, q5⟩
                    have HB5 := Lib.hid (bl_al (bl_ca HBT.out q5) (.cells #[.int .u32 z, .int .u64 1, .slice none 0 0, .slice none 0 0, .int .i64 y, .bool false] 36))
                    have hp5 := Blk.new w5 36 #[.int .u32 z, .int .u64 1, .slice none 0 0, .slice none 0 0, .int .i64 y, .bool false]
                    have x0 : (w5.alloc (.cells #[.int .u32 z, .int .u64 1, .slice none 0 0, .slice none 0 0, .int .i64 y, .bool false] 36)).cell? ⟨w5.heap.size, 0, none⟩ = some (.int .u32 z) := hp5.cell 0
                    have x1 : (w5.alloc (.cells #[.int .u32 z, .int .u64 1, .slice none 0 0, .slice none 0 0, .int .i64 y, .bool false] 36)).cell? ⟨w5.heap.size, 1, none⟩ = some (.int .u64 1) := hp5.cell 1
                    have x2 : (w5.alloc (.cells #[.int .u32 z, .int .u64 1, .slice none 0 0, .slice none 0 0, .int .i64 y, .bool false] 36)).cell? ⟨w5.heap.size, 2, none⟩ = some (.slice none 0 0) := hp5.cell 2
                    have x3 : (w5.alloc (.cells #[.int .u32 z, .int .u64 1, .slice none 0 0, .slice none 0 0, .int .i64 y, .bool false] 36)).cell? ⟨w5.heap.size, 3, none⟩ = some (.slice none 0 0) := hp5.cell 3
                    have x4 : (w5.alloc (.cells #[.int .u32 z, .int .u64 1, .slice none 0 0, .slice none 0 0, .int .i64 y, .bool false] 36)).cell? ⟨w5.heap.size, 4, none⟩ = some (.int .i64 y) := hp5.cell 4
                    have x5 : (w5.alloc (.cells #[.int .u32 z, .int .u64 1, .slice none 0 0, .slice none 0 0, .int .i64 y, .bool false] 36)).cell? ⟨w5.heap.size, 5, none⟩ = some (.bool false) := hp5.cell 5
                    have HSR := Lib.hid (rsameR_any (fun _ => True) (fun _ => True) ⟨z, 1, [], [], y, false⟩ ⟨z, 1, [], [], y, false⟩ none 0 0 none 0 0 none 0 0 none 0 0 (w5.alloc (.cells #[.int .u32 z, .int .u64 1, .slice none 0 0, .slice none 0 0, .int .i64 y, .bool false] 36)) (Lay.rd_nil _) (Lay.rd_nil _) (Lay.rd_nil _) (Lay.rd_nil _) (by omega) (by omega))
                    rw [show eqRC ⟨z, 1, [], [], y, false⟩ ⟨z, 1, [], [], y, false⟩ = true from eqRC_refl _] at HSR
                    clear q5 hp5 HL
                    go_wp2_with fail
                    refine HSR.out.mono ?_
                    rintro e w6 ⟨rfl, q6⟩
                    have HB6 := Lib.hid (bl_ca HB5.out q6)
                    clear q6 HSR x0 x1 x2 x3 x4 x5
                    go_wp2
                    go_roundg (gk - 1)
                    · exact ⟨t + 1, by omega, by omega, by go_num, HB6.out⟩
                    · omega
                  · have d8 : decide (y ≤ 8) = false := by simpa using h8
                    have HRM := Lib.hid (show roomB z y = false from by unfold roomB; rw [HSE.out, d1, d8]; rfl)
                    rw [show listenR z y = zeroR from by unfold listenR; rw [HRM.out]; rfl, show listenE z y = 2 from by unfold listenE; rw [HRM.out]; rfl] at HL
                    go_wp2_with fail
                    refine (HL.out _).mono ?_
                    rintro e w5 ⟨rfl, q5⟩
                    have HB5 := Lib.hid (bl_al (bl_ca HBT.out q5) (.cells #[.int .u32 0, .int .u64 0, .slice none 0 0, .slice none 0 0, .int .i64 0, .bool false] 36))
                    have hp5 := Blk.new w5 36 #[.int .u32 0, .int .u64 0, .slice none 0 0, .slice none 0 0, .int .i64 0, .bool false]
                    have x0 : (w5.alloc (.cells #[.int .u32 0, .int .u64 0, .slice none 0 0, .slice none 0 0, .int .i64 0, .bool false] 36)).cell? ⟨w5.heap.size, 0, none⟩ = some (.int .u32 0) := hp5.cell 0
                    have x1 : (w5.alloc (.cells #[.int .u32 0, .int .u64 0, .slice none 0 0, .slice none 0 0, .int .i64 0, .bool false] 36)).cell? ⟨w5.heap.size, 1, none⟩ = some (.int .u64 0) := hp5.cell 1
                    have x2 : (w5.alloc (.cells #[.int .u32 0, .int .u64 0, .slice none 0 0, .slice none 0 0, .int .i64 0, .bool false] 36)).cell? ⟨w5.heap.size, 2, none⟩ = some (.slice none 0 0) := hp5.cell 2
                    have x3 : (w5.alloc (.cells #[.int .u32 0, .int .u64 0, .slice none 0 0, .slice none 0 0, .int .i64 0, .bool false] 36)).cell? ⟨w5.heap.size, 3, none⟩ = some (.slice none 0 0) := hp5.cell 3
                    have x4 : (w5.alloc (.cells #[.int .u32 0, .int .u64 0, .slice none 0 0, .slice none 0 0, .int .i64 0, .bool false] 36)).cell? ⟨w5.heap.size, 4, none⟩ = some (.int .i64 0) := hp5.cell 4
                    have x5 : (w5.alloc (.cells #[.int .u32 0, .int .u64 0, .slice none 0 0, .slice none 0 0, .int .i64 0, .bool false] 36)).cell? ⟨w5.heap.size, 5, none⟩ = some (.bool false) := hp5.cell 5
                    have HSR := Lib.hid (rsameR_any (fun _ => True) (fun _ => True) zeroR zeroR none 0 0 none 0 0 none 0 0 none 0 0 (w5.alloc (.cells #[.int .u32 0, .int .u64 0, .slice none 0 0, .slice none 0 0, .int .i64 0, .bool false] 36)) (Lay.rd_nil _) (Lay.rd_nil _) (Lay.rd_nil _) (Lay.rd_nil _) (by omega) (by omega))
                    rw [show eqRC zeroR zeroR = true from eqRC_refl _] at HSR
                    clear q5 hp5 HL
                    go_wp2_with fail
                    refine HSR.out.mono ?_
                    rintro e w6 ⟨rfl, q6⟩
                    have HB6 := Lib.hid (bl_ca HB5.out q6)
                    clear q6 HSR x0 x1 x2 x3 x4 x5
                    go_wp2
                    go_roundg (gk - 1)
                    · exact ⟨t + 1, by omega, by omega, by go_num, HB6.out⟩
                    · omega
                · have d1 : decide (1 ≤ y) = false := by simpa using h1
                  have HRM := Lib.hid (show roomB z y = false from by unfold roomB; rw [HSE.out, d1]; rfl)
                  rw [show listenR z y = zeroR from by unfold listenR; rw [HRM.out]; rfl, show listenE z y = 2 from by unfold listenE; rw [HRM.out]; rfl] at HL
                  go_wp2_with fail
                  refine (HL.out _).mono ?_
                  rintro e w5 ⟨rfl, q5⟩
                  have HB5 := Lib.hid (bl_al (bl_ca HBT.out q5) (.cells #[.int .u32 0, .int .u64 0, .slice none 0 0, .slice none 0 0, .int .i64 0, .bool false] 36))
                  have hp5 := Blk.new w5 36 #[.int .u32 0, .int .u64 0, .slice none 0 0, .slice none 0 0, .int .i64 0, .bool false]
                  have x0 : (w5.alloc (.cells #[.int .u32 0, .int .u64 0, .slice none 0 0, .slice none 0 0, .int .i64 0, .bool false] 36)).cell? ⟨w5.heap.size, 0, none⟩ = some (.int .u32 0) := hp5.cell 0
                  have x1 : (w5.alloc (.cells #[.int .u32 0, .int .u64 0, .slice none 0 0, .slice none 0 0, .int .i64 0, .bool false] 36)).cell? ⟨w5.heap.size, 1, none⟩ = some (.int .u64 0) := hp5.cell 1
                  have x2 : (w5.alloc (.cells #[.int .u32 0, .int .u64 0, .slice none 0 0, .slice none 0 0, .int .i64 0, .bool false] 36)).cell? ⟨w5.heap.size, 2, none⟩ = some (.slice none 0 0) := hp5.cell 2
                  have x3 : (w5.alloc (.cells #[.int .u32 0, .int .u64 0, .slice none 0 0, .slice none 0 0, .int .i64 0, .bool false] 36)).cell? ⟨w5.heap.size, 3, none⟩ = some (.slice none 0 0) := hp5.cell 3
                  have x4 : (w5.alloc (.cells #[.int .u32 0, .int .u64 0, .slice none 0 0, .slice none 0 0, .int .i64 0, .bool false] 36)).cell? ⟨w5.heap.size, 4, none⟩ = some (.int .i64 0) := hp5.cell 4
                  have x5 : (w5.alloc (.cells #[.int .u32 0, .int .u64 0, .slice none 0 0, .slice none 0 0, .int .i64 0, .bool false] 36)).cell? ⟨w5.heap.size, 5, none⟩ = some (.bool false) := hp5.cell 5
                  have HSR := Lib.hid (rsameR_any (fun _ => True) (fun _ => True) zeroR zeroR none 0 0 none 0 0 none 0 0 none 0 0 (w5.alloc (.cells #[.int .u32 0, .int .u64 0, .slice none 0 0, .slice none 0 0, .int .i64 0, .bool false] 36)) (Lay.rd_nil _) (Lay.rd_nil _) (Lay.rd_nil _) (Lay.rd_nil _) (by omega) (by omega))
                  rw [show eqRC zeroR zeroR = true from eqRC_refl _] at HSR
                  clear q5 hp5 HL
                  go_wp2_with fail
                  refine HSR.out.mono ?_
                  rintro e w6 ⟨rfl, q6⟩
                  have HB6 := Lib.hid (bl_ca HB5.out q6)
                  clear q6 HSR x0 x1 x2 x3 x4 x5
                  go_wp2
                  go_roundg (gk - 1)
                  · exact ⟨t + 1, by omega, by omega, by go_num, HB6.out⟩
                  · omega
            · obtain rfl : t = n2 := by omega
              have ht1 : (t : Int) ≤ (t : Int) := by omega
              clear hbt ht htg
              go_wp2
              go_roundg (gj - 1)
              · exact ⟨i + 1, by omega, by omega, by go_num, HBT.out⟩
              · omega
        · have d2 : decide (z ≤ 2147483647) = false := by simpa using h2
          have HSE := Lib.hid (show sesB z = false from by unfold sesB; rw [d1, d2]; rfl)
          rw [show openS z = zeroS from by unfold openS; rw [HSE.out]; rfl, show openE z = 2 from by unfold openE; rw [HSE.out]; rfl] at HO
          go_wp2_with fail
          refine (HO.out _).mono ?_
          rintro e w3 ⟨rfl, q3⟩
          have HB3 := Lib.hid (bl_al (bl_ca HBW.out q3) (.cells #[.int .u32 0, .int .u64 0, .slice none 0 0, .int .u64 0, .int .u64 0, .int .i64 0, .bool false] 29))
          have hp3 := Blk.new w3 29 #[.int .u32 0, .int .u64 0, .slice none 0 0, .int .u64 0, .int .u64 0, .int .i64 0, .bool false]
          have x0 : (w3.alloc (.cells #[.int .u32 0, .int .u64 0, .slice none 0 0, .int .u64 0, .int .u64 0, .int .i64 0, .bool false] 29)).cell? ⟨w3.heap.size, 0, none⟩ = some (.int .u32 0) := hp3.cell 0
          have x1 : (w3.alloc (.cells #[.int .u32 0, .int .u64 0, .slice none 0 0, .int .u64 0, .int .u64 0, .int .i64 0, .bool false] 29)).cell? ⟨w3.heap.size, 1, none⟩ = some (.int .u64 0) := hp3.cell 1
          have x2 : (w3.alloc (.cells #[.int .u32 0, .int .u64 0, .slice none 0 0, .int .u64 0, .int .u64 0, .int .i64 0, .bool false] 29)).cell? ⟨w3.heap.size, 2, none⟩ = some (.slice none 0 0) := hp3.cell 2
          have x3 : (w3.alloc (.cells #[.int .u32 0, .int .u64 0, .slice none 0 0, .int .u64 0, .int .u64 0, .int .i64 0, .bool false] 29)).cell? ⟨w3.heap.size, 3, none⟩ = some (.int .u64 0) := hp3.cell 3
          have x4 : (w3.alloc (.cells #[.int .u32 0, .int .u64 0, .slice none 0 0, .int .u64 0, .int .u64 0, .int .i64 0, .bool false] 29)).cell? ⟨w3.heap.size, 4, none⟩ = some (.int .u64 0) := hp3.cell 4
          have x5 : (w3.alloc (.cells #[.int .u32 0, .int .u64 0, .slice none 0 0, .int .u64 0, .int .u64 0, .int .i64 0, .bool false] 29)).cell? ⟨w3.heap.size, 5, none⟩ = some (.int .i64 0) := hp3.cell 5
          have x6 : (w3.alloc (.cells #[.int .u32 0, .int .u64 0, .slice none 0 0, .int .u64 0, .int .u64 0, .int .i64 0, .bool false] 29)).cell? ⟨w3.heap.size, 6, none⟩ = some (.bool false) := hp3.cell 6
          have HSS := Lib.hid (rsameS_any (fun _ => True) (fun _ => True) zeroS zeroS none none 0 0 0 0 (w3.alloc (.cells #[.int .u32 0, .int .u64 0, .slice none 0 0, .int .u64 0, .int .u64 0, .int .i64 0, .bool false] 29)) (Lay.rd_nil _) (Lay.rd_nil _) (by omega))
          rw [show eqSC zeroS zeroS = true from eqSC_refl _] at HSS
          clear q3 hp3 HO
          go_wp2_with fail
          refine HSS.out.mono ?_
          rintro e wx ⟨rfl, q6⟩
          have HBX := Lib.hid (bl_ca HB3.out q6)
          clear q6 HSS x0 x1 x2 x3 x4 x5 x6 HB3
          go_wp2_with fail
          obtain ⟨gj, rfl⟩ : ∃ g, g = gk := ⟨_, rfl⟩
          obtain ⟨w60, rfl⟩ : ∃ x, x = wr := ⟨_, rfl⟩
          go_loopg [64] n2 (fun gz a wr => ∃ t : Nat, t + gz = n2 ∧ t ≤ 8 ∧ a = .int .i64 t ∧ Below w.heap.size w wr)
          case atStart => exact ⟨0, by omega, by omega, rfl, HBX.out⟩
          case round =>
            obtain ⟨t, htg, ht8, rfl, hbt⟩ := hrel
            have HBT := Lib.hid hbt
            clear HBX
            by_cases ht : t < n2
            · have ht1 : (t : Int) < (n2 : Int) := by omega
              obtain ⟨rd, y, rfl, _, f0⟩ := LI_at (Lay.rd_below H2.out hbt) ht
              by_cases hte : t = 8
              · have ht2 : ((t : Int) == 8) = true := by simp; omega
                clear hbt hte
                go_wp2
                go_roundg (gj - 1)
                · exact ⟨i + 1, by omega, by omega, by go_num, HBT.out⟩
                · omega
              · have ht2 : ((t : Int) == 8) = false := by simp; omega
                have ht7 : t < 8 := by omega
                have HL := Lib.hid (fun W => listen_any z y W)
                clear hbt
                have HRM := Lib.hid (show roomB z y = false from by unfold roomB; rw [HSE.out]; rfl)
                rw [show listenR z y = zeroR from by unfold listenR; rw [HRM.out]; rfl, show listenE z y = 2 from by unfold listenE; rw [HRM.out]; rfl] at HL
                go_wp2_with fail
                refine (HL.out _).mono ?_
                rintro e w5 ⟨rfl, q5⟩
                have HB5 := Lib.hid (bl_al (bl_ca HBT.out q5) (.cells #[.int .u32 0, .int .u64 0, .slice none 0 0, .slice none 0 0, .int .i64 0, .bool false] 36))
                have hp5 := Blk.new w5 36 #[.int .u32 0, .int .u64 0, .slice none 0 0, .slice none 0 0, .int .i64 0, .bool false]
                have x0 : (w5.alloc (.cells #[.int .u32 0, .int .u64 0, .slice none 0 0, .slice none 0 0, .int .i64 0, .bool false] 36)).cell? ⟨w5.heap.size, 0, none⟩ = some (.int .u32 0) := hp5.cell 0
                have x1 : (w5.alloc (.cells #[.int .u32 0, .int .u64 0, .slice none 0 0, .slice none 0 0, .int .i64 0, .bool false] 36)).cell? ⟨w5.heap.size, 1, none⟩ = some (.int .u64 0) := hp5.cell 1
                have x2 : (w5.alloc (.cells #[.int .u32 0, .int .u64 0, .slice none 0 0, .slice none 0 0, .int .i64 0, .bool false] 36)).cell? ⟨w5.heap.size, 2, none⟩ = some (.slice none 0 0) := hp5.cell 2
                have x3 : (w5.alloc (.cells #[.int .u32 0, .int .u64 0, .slice none 0 0, .slice none 0 0, .int .i64 0, .bool false] 36)).cell? ⟨w5.heap.size, 3, none⟩ = some (.slice none 0 0) := hp5.cell 3
                have x4 : (w5.alloc (.cells #[.int .u32 0, .int .u64 0, .slice none 0 0, .slice none 0 0, .int .i64 0, .bool false] 36)).cell? ⟨w5.heap.size, 4, none⟩ = some (.int .i64 0) := hp5.cell 4
                have x5 : (w5.alloc (.cells #[.int .u32 0, .int .u64 0, .slice none 0 0, .slice none 0 0, .int .i64 0, .bool false] 36)).cell? ⟨w5.heap.size, 5, none⟩ = some (.bool false) := hp5.cell 5
                have HSR := Lib.hid (rsameR_any (fun _ => True) (fun _ => True) zeroR zeroR none 0 0 none 0 0 none 0 0 none 0 0 (w5.alloc (.cells #[.int .u32 0, .int .u64 0, .slice none 0 0, .slice none 0 0, .int .i64 0, .bool false] 36)) (Lay.rd_nil _) (Lay.rd_nil _) (Lay.rd_nil _) (Lay.rd_nil _) (by omega) (by omega))
                rw [show eqRC zeroR zeroR = true from eqRC_refl _] at HSR
                clear q5 hp5 HL
                go_wp2_with fail
                refine HSR.out.mono ?_
                rintro e w6 ⟨rfl, q6⟩
                have HB6 := Lib.hid (bl_ca HB5.out q6)
                clear q6 HSR x0 x1 x2 x3 x4 x5
                go_wp2
                go_roundg (gk - 1)
                · exact ⟨t + 1, by omega, by omega, by go_num, HB6.out⟩
                · omega
            · obtain rfl : t = n2 := by omega
              have ht1 : (t : Int) ≤ (t : Int) := by omega
              clear hbt ht htg
              go_wp2
              go_roundg (gj - 1)
              · exact ⟨i + 1, by omega, by omega, by go_num, HBT.out⟩
              · omega
      · have d1 : decide (1 ≤ z) = false := by simpa using h1
        have HSE := Lib.hid (show sesB z = false from by unfold sesB; rw [d1]; rfl)
        rw [show openS z = zeroS from by unfold openS; rw [HSE.out]; rfl, show openE z = 2 from by unfold openE; rw [HSE.out]; rfl] at HO
        go_wp2_with fail
        refine (HO.out _).mono ?_
        rintro e w3 ⟨rfl, q3⟩
        have HB3 := Lib.hid (bl_al (bl_ca HBW.out q3) (.cells #[.int .u32 0, .int .u64 0, .slice none 0 0, .int .u64 0, .int .u64 0, .int .i64 0, .bool false] 29))
        have hp3 := Blk.new w3 29 #[.int .u32 0, .int .u64 0, .slice none 0 0, .int .u64 0, .int .u64 0, .int .i64 0, .bool false]
        have x0 : (w3.alloc (.cells #[.int .u32 0, .int .u64 0, .slice none 0 0, .int .u64 0, .int .u64 0, .int .i64 0, .bool false] 29)).cell? ⟨w3.heap.size, 0, none⟩ = some (.int .u32 0) := hp3.cell 0
        have x1 : (w3.alloc (.cells #[.int .u32 0, .int .u64 0, .slice none 0 0, .int .u64 0, .int .u64 0, .int .i64 0, .bool false] 29)).cell? ⟨w3.heap.size, 1, none⟩ = some (.int .u64 0) := hp3.cell 1
        have x2 : (w3.alloc (.cells #[.int .u32 0, .int .u64 0, .slice none 0 0, .int .u64 0, .int .u64 0, .int .i64 0, .bool false] 29)).cell? ⟨w3.heap.size, 2, none⟩ = some (.slice none 0 0) := hp3.cell 2
        have x3 : (w3.alloc (.cells #[.int .u32 0, .int .u64 0, .slice none 0 0, .int .u64 0, .int .u64 0, .int .i64 0, .bool false] 29)).cell? ⟨w3.heap.size, 3, none⟩ = some (.int .u64 0) := hp3.cell 3
        have x4 : (w3.alloc (.cells #[.int .u32 0, .int .u64 0, .slice none 0 0, .int .u64 0, .int .u64 0, .int .i64 0, .bool false] 29)).cell? ⟨w3.heap.size, 4, none⟩ = some (.int .u64 0) := hp3.cell 4
        have x5 : (w3.alloc (.cells #[.int .u32 0, .int .u64 0, .slice none 0 0, .int .u64 0, .int .u64 0, .int .i64 0, .bool false] 29)).cell? ⟨w3.heap.size, 5, none⟩ = some (.int .i64 0) := hp3.cell 5
        have x6 : (w3.alloc (.cells #[.int .u32 0, .int .u64 0, .slice none 0 0, .int .u64 0, .int .u64 0, .int .i64 0, .bool false] 29)).cell? ⟨w3.heap.size, 6, none⟩ = some (.bool false) := hp3.cell 6
        have HSS := Lib.hid (rsameS_any (fun _ => True) (fun _ => True) zeroS zeroS none none 0 0 0 0 (w3.alloc (.cells #[.int .u32 0, .int .u64 0, .slice none 0 0, .int .u64 0, .int .u64 0, .int .i64 0, .bool false] 29)) (Lay.rd_nil _) (Lay.rd_nil _) (by omega))
        rw [show eqSC zeroS zeroS = true from eqSC_refl _] at HSS
        clear q3 hp3 HO
        go_wp2_with fail
        refine HSS.out.mono ?_
        rintro e wx ⟨rfl, q6⟩
        have HBX := Lib.hid (bl_ca HB3.out q6)
        clear q6 HSS x0 x1 x2 x3 x4 x5 x6 HB3
        go_wp2_with fail
        obtain ⟨gj, rfl⟩ : ∃ g, g = gk := ⟨_, rfl⟩
        obtain ⟨w60, rfl⟩ : ∃ x, x = wr := ⟨_, rfl⟩
        go_loopg [64] n2 (fun gz a wr => ∃ t : Nat, t + gz = n2 ∧ t ≤ 8 ∧ a = .int .i64 t ∧ Below w.heap.size w wr)
        case atStart => exact ⟨0, by omega, by omega, rfl, HBX.out⟩
        case round =>
          obtain ⟨t, htg, ht8, rfl, hbt⟩ := hrel
          have HBT := Lib.hid hbt
          clear HBX
          by_cases ht : t < n2
          · have ht1 : (t : Int) < (n2 : Int) := by omega
            obtain ⟨rd, y, rfl, _, f0⟩ := LI_at (Lay.rd_below H2.out hbt) ht
            by_cases hte : t = 8
            · have ht2 : ((t : Int) == 8) = true := by simp; omega
              clear hbt hte
              go_wp2
              go_roundg (gj - 1)
              · exact ⟨i + 1, by omega, by omega, by go_num, HBT.out⟩
              · omega
            · have ht2 : ((t : Int) == 8) = false := by simp; omega
              have ht7 : t < 8 := by omega
              have HL := Lib.hid (fun W => listen_any z y W)
              clear hbt
              have HRM := Lib.hid (show roomB z y = false from by unfold roomB; rw [HSE.out]; rfl)
              rw [show listenR z y = zeroR from by unfold listenR; rw [HRM.out]; rfl, show listenE z y = 2 from by unfold listenE; rw [HRM.out]; rfl] at HL
              go_wp2_with fail
              refine (HL.out _).mono ?_
              rintro e w5 ⟨rfl, q5⟩
              have HB5 := Lib.hid (bl_al (bl_ca HBT.out q5) (.cells #[.int .u32 0, .int .u64 0, .slice none 0 0, .slice none 0 0, .int .i64 0, .bool false] 36))
              have hp5 := Blk.new w5 36 #[.int .u32 0, .int .u64 0, .slice none 0 0, .slice none 0 0, .int .i64 0, .bool false]
              have x0 : (w5.alloc (.cells #[.int .u32 0, .int .u64 0, .slice none 0 0, .slice none 0 0, .int .i64 0, .bool false] 36)).cell? ⟨w5.heap.size, 0, none⟩ = some (.int .u32 0) := hp5.cell 0
              have x1 : (w5.alloc (.cells #[.int .u32 0, .int .u64 0, .slice none 0 0, .slice none 0 0, .int .i64 0, .bool false] 36)).cell? ⟨w5.heap.size, 1, none⟩ = some (.int .u64 0) := hp5.cell 1
              have x2 : (w5.alloc (.cells #[.int .u32 0, .int .u64 0, .slice none 0 0, .slice none 0 0, .int .i64 0, .bool false] 36)).cell? ⟨w5.heap.size, 2, none⟩ = some (.slice none 0 0) := hp5.cell 2
              have x3 : (w5.alloc (.cells #[.int .u32 0, .int .u64 0, .slice none 0 0, .slice none 0 0, .int .i64 0, .bool false] 36)).cell? ⟨w5.heap.size, 3, none⟩ = some (.slice none 0 0) := hp5.cell 3
              have x4 : (w5.alloc (.cells #[.int .u32 0, .int .u64 0, .slice none 0 0, .slice none 0 0, .int .i64 0, .bool false] 36)).cell? ⟨w5.heap.size, 4, none⟩ = some (.int .i64 0) := hp5.cell 4
              have x5 : (w5.alloc (.cells #[.int .u32 0, .int .u64 0, .slice none 0 0, .slice none 0 0, .int .i64 0, .bool false] 36)).cell? ⟨w5.heap.size, 5, none⟩ = some (.bool false) := hp5.cell 5
              have HSR := Lib.hid (rsameR_any (fun _ => True) (fun _ => True) zeroR zeroR none 0 0 none 0 0 none 0 0 none 0 0 (w5.alloc (.cells #[.int .u32 0, .int .u64 0, .slice none 0 0, .slice none 0 0, .int .i64 0, .bool false] 36)) (Lay.rd_nil _) (Lay.rd_nil _) (Lay.rd_nil _) (Lay.rd_nil _) (by omega) (by omega))
              rw [show eqRC zeroR zeroR = true from eqRC_refl _] at HSR
              clear q5 hp5 HL
              go_wp2_with fail
              refine HSR.out.mono ?_
              rintro e w6 ⟨rfl, q6⟩
              have HB6 := Lib.hid (bl_ca HB5.out q6)
              clear q6 HSR x0 x1 x2 x3 x4 x5
              go_wp2
              go_roundg (gk - 1)
              · exact ⟨t + 1, by omega, by omega, by go_num, HB6.out⟩
              · omega
          · obtain rfl : t = n2 := by omega
            have ht1 : (t : Int) ≤ (t : Int) := by omega
            clear hbt ht htg
            go_wp2
            go_roundg (gj - 1)
            · exact ⟨i + 1, by omega, by omega, by go_num, HBT.out⟩
            · omega
    · obtain rfl : i = n := by omega
      have hi1 : (i : Int) ≤ (i : Int) := by omega
      go_wp2
      go_ret
      exact ⟨rfl, HBW.out⟩
end Go.Proofs.Ytojghgbaiiajfaa
