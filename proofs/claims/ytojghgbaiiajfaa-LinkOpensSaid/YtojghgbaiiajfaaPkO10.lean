/- link.CheckReceiver. Conditions: the slices read as these batches. -/
import Derived.Test.YtojghgbaiiajfaaPkO9
namespace Go.Proofs.Ytojghgbaiiajfaa
open Go.RowKit
def aheadB (lim : Int) : Int → List HC → Bool
  | _, [] => true
  | a, h :: l => decide (a < h.seq) && (decide (h.seq ≤ lim) && (batchB h.b h.seq && ((!h.b.fin || l.isEmpty) && aheadB lim h.seq l)))
theorem aheadB_at {l : List HC} {i : Nat} {h : HC} {a lim : Int} (hx : l[i]? = some h) : aheadB lim a (l.drop i) = (decide (a < h.seq) && (decide (h.seq ≤ lim) && (batchB h.b h.seq && ((!h.b.fin || decide (l.length ≤ i + 1)) && aheadB lim h.seq (l.drop (i + 1)))))) := by
  rw [drop_at hx]
  show (decide (a < h.seq) && (decide (h.seq ≤ lim) && (batchB h.b h.seq && ((!h.b.fin || (l.drop (i + 1)).isEmpty) && aheadB lim h.seq (l.drop (i + 1)))))) = _
  rw [show (l.drop (i + 1)).isEmpty = decide (l.length ≤ i + 1) from by rw [Bool.eq_iff_iff]; simp]
def recA (r : RC) : Bool := sesB r.ses && (decide (1 ≤ r.room) && (decide (r.room ≤ 8) && (decide (1 ≤ r.next) && (decide (r.next ≤ 1099511627777) && (decide ((r.buf.length : Int) ≤ r.room) && decide ((r.buf.length : Int) < r.next))))))
def recM (r : RC) : Bool := inRowB r.buf (r.next - (r.buf.length : Int)) && (decide (r.ahead.length = 0) || !endsB r.buf)
def recT (r : RC) : Bool := !r.over || (decide (r.buf.length = 0) && (decide (r.ahead.length = 0) && decide (2 ≤ r.next)))
def recB (r : RC) : Bool := recA r && (recM r && (recT r && aheadB (limR r) r.next r.ahead))
set_option maxRecDepth 100000 in
set_option maxHeartbeats 16000000 in
theorem crecv_any (Fr F2 : Nat → Prop) (r : RC) (A : Option Addr) (n c : Nat) (B : Option Addr) (m d : Nat) (w : World) (h : LH4.rd w Fr A n r.ahead) (h2 : LB3.rd w F2 B m r.buf) (hn : n ≤ 9223372036854775807) (hm : m ≤ 9223372036854775807) :
    Calls Try.prog 24 #[.agg (r.cells A n c B m d)] w fun e w' => e = .returned (.int .i64 (if recB r then 0 else 320)) ∧ Below w.heap.size w w' := by
  have HLA := Lib.hid (Lay.rd_len h)
  have HLB := Lib.hid (Lay.rd_len h2)
  have HA := Lib.hid h
  have HBU := Lib.hid h2
  obtain ⟨ses, next, ahead, buf, room, over⟩ := r
  dsimp only at HLA HLB
  obtain ⟨r, hr⟩ : ∃ r : Int, r = if recB ⟨ses, next, ahead, buf, room, over⟩ then 0 else 320 := ⟨_, rfl⟩
  rw [← hr]
  have HRR := Lib.hid hr
  obtain ⟨zB, hzB⟩ : ∃ zB, zB = sesB ses := ⟨_, rfl⟩
  have HZ := Lib.hid hzB
  have HSS := Lib.hid (fun W => session_any ses W)
  rw [← hzB] at HSS
  clear h h2 hr hzB
  cases zB
  · skip
    have HF := Lib.hid (show recB ⟨ses, next, ahead, buf, room, over⟩ = false from by unfold recB; rw [show recA ⟨ses, next, ahead, buf, room, over⟩ = false from by unfold recA; simp [← HZ.out, HLB.out]]; simp)
    have b1 := bl_al (Below.refl w.heap.size w) (.cells #[.int .u32 ses, .int .u64 next, .slice A n c, .slice B m d, .int .i64 room, .bool over] 36)
    have HB := Lib.hid (Blk.new w 36 #[.int .u32 ses, .int .u64 next, .slice A n c, .slice B m d, .int .i64 room, .bool over])
    have HRA := Lib.hid (Lay.rd_below HA.out b1)
    have HRB := Lib.hid (Lay.rd_below HBU.out b1)
    have HBB := Lib.hid b1
    have hw1 : w.heap.size < (w.alloc (.cells #[.int .u32 ses, .int .u64 next, .slice A n c, .slice B m d, .int .i64 room, .bool over] 36)).heap.size := by simp only [World.size_alloc]; omega
    clear b1
    have x0 : (w.alloc (.cells #[.int .u32 ses, .int .u64 next, .slice A n c, .slice B m d, .int .i64 room, .bool over] 36)).cell? ⟨w.heap.size, 0, none⟩ = some (.int .u32 ses) := HB.out.cell 0
    have x1 : (w.alloc (.cells #[.int .u32 ses, .int .u64 next, .slice A n c, .slice B m d, .int .i64 room, .bool over] 36)).cell? ⟨w.heap.size, 1, none⟩ = some (.int .u64 next) := HB.out.cell 1
    have x2 : (w.alloc (.cells #[.int .u32 ses, .int .u64 next, .slice A n c, .slice B m d, .int .i64 room, .bool over] 36)).cell? ⟨w.heap.size, 2, none⟩ = some (.slice A n c) := HB.out.cell 2
    have x3 : (w.alloc (.cells #[.int .u32 ses, .int .u64 next, .slice A n c, .slice B m d, .int .i64 room, .bool over] 36)).cell? ⟨w.heap.size, 3, none⟩ = some (.slice B m d) := HB.out.cell 3
    have x4 : (w.alloc (.cells #[.int .u32 ses, .int .u64 next, .slice A n c, .slice B m d, .int .i64 room, .bool over] 36)).cell? ⟨w.heap.size, 4, none⟩ = some (.int .i64 room) := HB.out.cell 4
    have x5 : (w.alloc (.cells #[.int .u32 ses, .int .u64 next, .slice A n c, .slice B m d, .int .i64 room, .bool over] 36)).cell? ⟨w.heap.size, 5, none⟩ = some (.bool over) := HB.out.cell 5
    go_enter Try.func24, Try.ntmps24
    go_wp2_with fail
    generalize w.alloc (.cells #[.int .u32 ses, .int .u64 next, .slice A n c, .slice B m d, .int .i64 room, .bool over] 36) = w1 at *
    refine (HSS.out _).mono ?_
    rintro e w2 ⟨rfl, rfl⟩
    go_wp2
    go_ret
    exact ⟨ret_int (by rw [HRR.out, HF.out]; rfl), HBB.out⟩
  · skip
    by_cases a1 : 1 ≤ room
    · have e1 : decide (1 ≤ room) = true := by simpa using a1
      by_cases a2 : room ≤ 8
      · have e2 : decide (room ≤ 8) = true := by simpa using a2
        by_cases a3 : 1 ≤ next
        · have e3 : decide (1 ≤ next) = true := by simpa using a3
          by_cases a4 : next ≤ 1099511627777
          · have e4 : decide (next ≤ 1099511627777) = true := by simpa using a4
            by_cases a5 : (m : Int) ≤ room
            · have e5 : decide ((m : Int) ≤ room) = true := by simpa using a5
              have hwm : IntKind.u64.wrap (m : Int) = (m : Int) := u64_in (by omega) (by omega)
              by_cases a6 : (m : Int) < next
              · have e6 : decide ((m : Int) < next) = true := by simpa using a6
                have hnm : IntKind.u64.wrap (next - (m : Int)) = next - (m : Int) := u64_in (by omega) (by omega)
                cases hin : inRowB buf (next - (m : Int))
                · skip
                  have HF := Lib.hid (show recB ⟨ses, next, ahead, buf, room, over⟩ = false from by unfold recB; rw [show recM ⟨ses, next, ahead, buf, room, over⟩ = false from by unfold recM; simp [HLB.out, hin]]; simp)
                  have b1 := bl_al (Below.refl w.heap.size w) (.cells #[.int .u32 ses, .int .u64 next, .slice A n c, .slice B m d, .int .i64 room, .bool over] 36)
                  have HB := Lib.hid (Blk.new w 36 #[.int .u32 ses, .int .u64 next, .slice A n c, .slice B m d, .int .i64 room, .bool over])
                  have HRA := Lib.hid (Lay.rd_below HA.out b1)
                  have HRB := Lib.hid (Lay.rd_below HBU.out b1)
                  have HBB := Lib.hid b1
                  have hw1 : w.heap.size < (w.alloc (.cells #[.int .u32 ses, .int .u64 next, .slice A n c, .slice B m d, .int .i64 room, .bool over] 36)).heap.size := by simp only [World.size_alloc]; omega
                  have HIN := Lib.hid (inRow_any F2 B m d buf (next - ((m : Nat) : Int)) _ HRB.out (by omega) (by omega) (by omega))
                  rw [hin] at HIN
                  clear b1
                  have x0 : (w.alloc (.cells #[.int .u32 ses, .int .u64 next, .slice A n c, .slice B m d, .int .i64 room, .bool over] 36)).cell? ⟨w.heap.size, 0, none⟩ = some (.int .u32 ses) := HB.out.cell 0
                  have x1 : (w.alloc (.cells #[.int .u32 ses, .int .u64 next, .slice A n c, .slice B m d, .int .i64 room, .bool over] 36)).cell? ⟨w.heap.size, 1, none⟩ = some (.int .u64 next) := HB.out.cell 1
                  have x2 : (w.alloc (.cells #[.int .u32 ses, .int .u64 next, .slice A n c, .slice B m d, .int .i64 room, .bool over] 36)).cell? ⟨w.heap.size, 2, none⟩ = some (.slice A n c) := HB.out.cell 2
                  have x3 : (w.alloc (.cells #[.int .u32 ses, .int .u64 next, .slice A n c, .slice B m d, .int .i64 room, .bool over] 36)).cell? ⟨w.heap.size, 3, none⟩ = some (.slice B m d) := HB.out.cell 3
                  have x4 : (w.alloc (.cells #[.int .u32 ses, .int .u64 next, .slice A n c, .slice B m d, .int .i64 room, .bool over] 36)).cell? ⟨w.heap.size, 4, none⟩ = some (.int .i64 room) := HB.out.cell 4
                  have x5 : (w.alloc (.cells #[.int .u32 ses, .int .u64 next, .slice A n c, .slice B m d, .int .i64 room, .bool over] 36)).cell? ⟨w.heap.size, 5, none⟩ = some (.bool over) := HB.out.cell 5
                  go_enter Try.func24, Try.ntmps24
                  go_wp2_with fail
                  generalize w.alloc (.cells #[.int .u32 ses, .int .u64 next, .slice A n c, .slice B m d, .int .i64 room, .bool over] 36) = w1 at *
                  refine (HSS.out _).mono ?_
                  rintro e w2 ⟨rfl, rfl⟩
                  go_wp2_with fail
                  refine HIN.out.mono ?_
                  rintro e w3 ⟨rfl, q3⟩
                  replace HB := Lib.hid (HB.out.ca q3)
                  replace HRA := Lib.hid (Lay.rd_below HRA.out q3)
                  replace HRB := Lib.hid (Lay.rd_below HRB.out q3)
                  replace HBB := Lib.hid (bl_ca HBB.out q3)
                  have hw3 := Nat.lt_of_lt_of_le hw1 q3.size
                  clear q3 x0 x1 x2 x3 x4 x5 HIN hw1
                  have x0 : w3.cell? ⟨w.heap.size, 0, none⟩ = some (.int .u32 ses) := HB.out.cell 0
                  have x1 : w3.cell? ⟨w.heap.size, 1, none⟩ = some (.int .u64 next) := HB.out.cell 1
                  have x2 : w3.cell? ⟨w.heap.size, 2, none⟩ = some (.slice A n c) := HB.out.cell 2
                  have x3 : w3.cell? ⟨w.heap.size, 3, none⟩ = some (.slice B m d) := HB.out.cell 3
                  have x4 : w3.cell? ⟨w.heap.size, 4, none⟩ = some (.int .i64 room) := HB.out.cell 4
                  have x5 : w3.cell? ⟨w.heap.size, 5, none⟩ = some (.bool over) := HB.out.cell 5
                  go_wp2
                  go_ret
                  exact ⟨ret_int (by rw [HRR.out, HF.out]; rfl), HBB.out⟩
                · by_cases n0 : n = 0
                  · subst n0
                    have HAN := Lib.hid (List.eq_nil_of_length_eq_zero HLA.out)
                    cases over
                    · skip
                      have HF := Lib.hid (show recB ⟨ses, next, ahead, buf, room, false⟩ = true from by unfold recB; rw [show recA ⟨ses, next, ahead, buf, room, false⟩ = true from by unfold recA; simp [← HZ.out, HLB.out, a1, a2, a3, a4, a5, a6], show recM ⟨ses, next, ahead, buf, room, false⟩ = true from by unfold recM; rw [HLB.out, HAN.out]; simpa using hin, show recT ⟨ses, next, ahead, buf, room, false⟩ = true from by unfold recT; rw [HLB.out, HAN.out]; simp]; rw [HAN.out]; rfl)
                      have b1 := bl_al (Below.refl w.heap.size w) (.cells #[.int .u32 ses, .int .u64 next, .slice A 0 c, .slice B m d, .int .i64 room, .bool false] 36)
                      have HB := Lib.hid (Blk.new w 36 #[.int .u32 ses, .int .u64 next, .slice A 0 c, .slice B m d, .int .i64 room, .bool false])
                      have HRA := Lib.hid (Lay.rd_below HA.out b1)
                      have HRB := Lib.hid (Lay.rd_below HBU.out b1)
                      have HBB := Lib.hid b1
                      have hw1 : w.heap.size < (w.alloc (.cells #[.int .u32 ses, .int .u64 next, .slice A 0 c, .slice B m d, .int .i64 room, .bool false] 36)).heap.size := by simp only [World.size_alloc]; omega
                      have HIN := Lib.hid (inRow_any F2 B m d buf (next - ((m : Nat) : Int)) _ HRB.out (by omega) (by omega) (by omega))
                      rw [hin] at HIN
                      clear b1
                      have x0 : (w.alloc (.cells #[.int .u32 ses, .int .u64 next, .slice A 0 c, .slice B m d, .int .i64 room, .bool false] 36)).cell? ⟨w.heap.size, 0, none⟩ = some (.int .u32 ses) := HB.out.cell 0
                      have x1 : (w.alloc (.cells #[.int .u32 ses, .int .u64 next, .slice A 0 c, .slice B m d, .int .i64 room, .bool false] 36)).cell? ⟨w.heap.size, 1, none⟩ = some (.int .u64 next) := HB.out.cell 1
                      have x2 : (w.alloc (.cells #[.int .u32 ses, .int .u64 next, .slice A 0 c, .slice B m d, .int .i64 room, .bool false] 36)).cell? ⟨w.heap.size, 2, none⟩ = some (.slice A 0 c) := HB.out.cell 2
                      have x3 : (w.alloc (.cells #[.int .u32 ses, .int .u64 next, .slice A 0 c, .slice B m d, .int .i64 room, .bool false] 36)).cell? ⟨w.heap.size, 3, none⟩ = some (.slice B m d) := HB.out.cell 3
                      have x4 : (w.alloc (.cells #[.int .u32 ses, .int .u64 next, .slice A 0 c, .slice B m d, .int .i64 room, .bool false] 36)).cell? ⟨w.heap.size, 4, none⟩ = some (.int .i64 room) := HB.out.cell 4
                      have x5 : (w.alloc (.cells #[.int .u32 ses, .int .u64 next, .slice A 0 c, .slice B m d, .int .i64 room, .bool false] 36)).cell? ⟨w.heap.size, 5, none⟩ = some (.bool false) := HB.out.cell 5
                      go_enter Try.func24, Try.ntmps24
                      go_wp2_with fail
                      generalize w.alloc (.cells #[.int .u32 ses, .int .u64 next, .slice A 0 c, .slice B m d, .int .i64 room, .bool false] 36) = w1 at *
                      refine (HSS.out _).mono ?_
                      rintro e w2 ⟨rfl, rfl⟩
                      go_wp2_with fail
                      refine HIN.out.mono ?_
                      rintro e w3 ⟨rfl, q3⟩
                      replace HB := Lib.hid (HB.out.ca q3)
                      replace HRA := Lib.hid (Lay.rd_below HRA.out q3)
                      replace HRB := Lib.hid (Lay.rd_below HRB.out q3)
                      replace HBB := Lib.hid (bl_ca HBB.out q3)
                      have hw3 := Nat.lt_of_lt_of_le hw1 q3.size
                      clear q3 x0 x1 x2 x3 x4 x5 HIN hw1
                      have x0 : w3.cell? ⟨w.heap.size, 0, none⟩ = some (.int .u32 ses) := HB.out.cell 0
                      have x1 : w3.cell? ⟨w.heap.size, 1, none⟩ = some (.int .u64 next) := HB.out.cell 1
                      have x2 : w3.cell? ⟨w.heap.size, 2, none⟩ = some (.slice A 0 c) := HB.out.cell 2
                      have x3 : w3.cell? ⟨w.heap.size, 3, none⟩ = some (.slice B m d) := HB.out.cell 3
                      have x4 : w3.cell? ⟨w.heap.size, 4, none⟩ = some (.int .i64 room) := HB.out.cell 4
                      have x5 : w3.cell? ⟨w.heap.size, 5, none⟩ = some (.bool false) := HB.out.cell 5
                      go_wp2_with fail
                      clear x0 x1 x2 x3 x4 x5
                      go_loopg [5, 96] 0 (fun g a5 a96 wr => a5 = .int .u64 next ∧ a96 = .int .i64 0 ∧ wr = w3)
                      case atStart => exact ⟨rfl, rfl, rfl⟩
                      case round =>
                        obtain ⟨rfl, rfl, rfl⟩ := hrel
                        go_wp2
                        go_ret
                        exact ⟨ret_int (by rw [HRR.out, HF.out]; rfl), HBB.out⟩
                    · by_cases m0 : m = 0
                      · have mp : decide ((0 : Int) < (m : Int)) = false := by simp; omega
                        have HM0 := Lib.hid m0
                        clear m0
                        by_cases u2 : 2 ≤ next
                        · have v2 : decide (next < 2) = false := by simp; omega
                          have HF := Lib.hid (show recB ⟨ses, next, ahead, buf, room, true⟩ = true from by unfold recB; rw [show recA ⟨ses, next, ahead, buf, room, true⟩ = true from by unfold recA; simp [← HZ.out, HLB.out, a1, a2, a3, a4, a5, a6], show recM ⟨ses, next, ahead, buf, room, true⟩ = true from by unfold recM; rw [HLB.out, HAN.out]; simpa using hin, show recT ⟨ses, next, ahead, buf, room, true⟩ = true from by unfold recT; rw [HLB.out, HAN.out]; simp [u2, HM0.out]]; rw [HAN.out]; rfl)
                          have b1 := bl_al (Below.refl w.heap.size w) (.cells #[.int .u32 ses, .int .u64 next, .slice A 0 c, .slice B m d, .int .i64 room, .bool true] 36)
                          have HB := Lib.hid (Blk.new w 36 #[.int .u32 ses, .int .u64 next, .slice A 0 c, .slice B m d, .int .i64 room, .bool true])
                          have HRA := Lib.hid (Lay.rd_below HA.out b1)
                          have HRB := Lib.hid (Lay.rd_below HBU.out b1)
                          have HBB := Lib.hid b1
                          have hw1 : w.heap.size < (w.alloc (.cells #[.int .u32 ses, .int .u64 next, .slice A 0 c, .slice B m d, .int .i64 room, .bool true] 36)).heap.size := by simp only [World.size_alloc]; omega
                          have HIN := Lib.hid (inRow_any F2 B m d buf (next - ((m : Nat) : Int)) _ HRB.out (by omega) (by omega) (by omega))
                          rw [hin] at HIN
                          clear b1
                          have x0 : (w.alloc (.cells #[.int .u32 ses, .int .u64 next, .slice A 0 c, .slice B m d, .int .i64 room, .bool true] 36)).cell? ⟨w.heap.size, 0, none⟩ = some (.int .u32 ses) := HB.out.cell 0
                          have x1 : (w.alloc (.cells #[.int .u32 ses, .int .u64 next, .slice A 0 c, .slice B m d, .int .i64 room, .bool true] 36)).cell? ⟨w.heap.size, 1, none⟩ = some (.int .u64 next) := HB.out.cell 1
                          have x2 : (w.alloc (.cells #[.int .u32 ses, .int .u64 next, .slice A 0 c, .slice B m d, .int .i64 room, .bool true] 36)).cell? ⟨w.heap.size, 2, none⟩ = some (.slice A 0 c) := HB.out.cell 2
                          have x3 : (w.alloc (.cells #[.int .u32 ses, .int .u64 next, .slice A 0 c, .slice B m d, .int .i64 room, .bool true] 36)).cell? ⟨w.heap.size, 3, none⟩ = some (.slice B m d) := HB.out.cell 3
                          have x4 : (w.alloc (.cells #[.int .u32 ses, .int .u64 next, .slice A 0 c, .slice B m d, .int .i64 room, .bool true] 36)).cell? ⟨w.heap.size, 4, none⟩ = some (.int .i64 room) := HB.out.cell 4
                          have x5 : (w.alloc (.cells #[.int .u32 ses, .int .u64 next, .slice A 0 c, .slice B m d, .int .i64 room, .bool true] 36)).cell? ⟨w.heap.size, 5, none⟩ = some (.bool true) := HB.out.cell 5
                          go_enter Try.func24, Try.ntmps24
                          go_wp2_with fail
                          generalize w.alloc (.cells #[.int .u32 ses, .int .u64 next, .slice A 0 c, .slice B m d, .int .i64 room, .bool true] 36) = w1 at *
                          refine (HSS.out _).mono ?_
                          rintro e w2 ⟨rfl, rfl⟩
                          go_wp2_with fail
                          refine HIN.out.mono ?_
                          rintro e w3 ⟨rfl, q3⟩
                          replace HB := Lib.hid (HB.out.ca q3)
                          replace HRA := Lib.hid (Lay.rd_below HRA.out q3)
                          replace HRB := Lib.hid (Lay.rd_below HRB.out q3)
                          replace HBB := Lib.hid (bl_ca HBB.out q3)
                          have hw3 := Nat.lt_of_lt_of_le hw1 q3.size
                          clear q3 x0 x1 x2 x3 x4 x5 HIN hw1
                          have x0 : w3.cell? ⟨w.heap.size, 0, none⟩ = some (.int .u32 ses) := HB.out.cell 0
                          have x1 : w3.cell? ⟨w.heap.size, 1, none⟩ = some (.int .u64 next) := HB.out.cell 1
                          have x2 : w3.cell? ⟨w.heap.size, 2, none⟩ = some (.slice A 0 c) := HB.out.cell 2
                          have x3 : w3.cell? ⟨w.heap.size, 3, none⟩ = some (.slice B m d) := HB.out.cell 3
                          have x4 : w3.cell? ⟨w.heap.size, 4, none⟩ = some (.int .i64 room) := HB.out.cell 4
                          have x5 : w3.cell? ⟨w.heap.size, 5, none⟩ = some (.bool true) := HB.out.cell 5
                          go_wp2_with fail
                          clear x0 x1 x2 x3 x4 x5
                          go_loopg [5, 96] 0 (fun g a5 a96 wr => a5 = .int .u64 next ∧ a96 = .int .i64 0 ∧ wr = w3)
                          case atStart => exact ⟨rfl, rfl, rfl⟩
                          case round =>
                            obtain ⟨rfl, rfl, rfl⟩ := hrel
                            go_wp2
                            go_ret
                            exact ⟨ret_int (by rw [HRR.out, HF.out]; rfl), HBB.out⟩
                        · have v2 : decide (next < 2) = true := by simp; omega
                          have HF := Lib.hid (show recB ⟨ses, next, ahead, buf, room, true⟩ = false from by unfold recB; rw [show recT ⟨ses, next, ahead, buf, room, true⟩ = false from by unfold recT; simp [HLB.out, HAN.out, u2]]; simp)
                          have b1 := bl_al (Below.refl w.heap.size w) (.cells #[.int .u32 ses, .int .u64 next, .slice A 0 c, .slice B m d, .int .i64 room, .bool true] 36)
                          have HB := Lib.hid (Blk.new w 36 #[.int .u32 ses, .int .u64 next, .slice A 0 c, .slice B m d, .int .i64 room, .bool true])
                          have HRA := Lib.hid (Lay.rd_below HA.out b1)
                          have HRB := Lib.hid (Lay.rd_below HBU.out b1)
                          have HBB := Lib.hid b1
                          have hw1 : w.heap.size < (w.alloc (.cells #[.int .u32 ses, .int .u64 next, .slice A 0 c, .slice B m d, .int .i64 room, .bool true] 36)).heap.size := by simp only [World.size_alloc]; omega
                          have HIN := Lib.hid (inRow_any F2 B m d buf (next - ((m : Nat) : Int)) _ HRB.out (by omega) (by omega) (by omega))
                          rw [hin] at HIN
                          clear b1
                          have x0 : (w.alloc (.cells #[.int .u32 ses, .int .u64 next, .slice A 0 c, .slice B m d, .int .i64 room, .bool true] 36)).cell? ⟨w.heap.size, 0, none⟩ = some (.int .u32 ses) := HB.out.cell 0
                          have x1 : (w.alloc (.cells #[.int .u32 ses, .int .u64 next, .slice A 0 c, .slice B m d, .int .i64 room, .bool true] 36)).cell? ⟨w.heap.size, 1, none⟩ = some (.int .u64 next) := HB.out.cell 1
                          have x2 : (w.alloc (.cells #[.int .u32 ses, .int .u64 next, .slice A 0 c, .slice B m d, .int .i64 room, .bool true] 36)).cell? ⟨w.heap.size, 2, none⟩ = some (.slice A 0 c) := HB.out.cell 2
                          have x3 : (w.alloc (.cells #[.int .u32 ses, .int .u64 next, .slice A 0 c, .slice B m d, .int .i64 room, .bool true] 36)).cell? ⟨w.heap.size, 3, none⟩ = some (.slice B m d) := HB.out.cell 3
                          have x4 : (w.alloc (.cells #[.int .u32 ses, .int .u64 next, .slice A 0 c, .slice B m d, .int .i64 room, .bool true] 36)).cell? ⟨w.heap.size, 4, none⟩ = some (.int .i64 room) := HB.out.cell 4
                          have x5 : (w.alloc (.cells #[.int .u32 ses, .int .u64 next, .slice A 0 c, .slice B m d, .int .i64 room, .bool true] 36)).cell? ⟨w.heap.size, 5, none⟩ = some (.bool true) := HB.out.cell 5
                          go_enter Try.func24, Try.ntmps24
                          go_wp2_with fail
                          generalize w.alloc (.cells #[.int .u32 ses, .int .u64 next, .slice A 0 c, .slice B m d, .int .i64 room, .bool true] 36) = w1 at *
                          refine (HSS.out _).mono ?_
                          rintro e w2 ⟨rfl, rfl⟩
                          go_wp2_with fail
                          refine HIN.out.mono ?_
                          rintro e w3 ⟨rfl, q3⟩
                          replace HB := Lib.hid (HB.out.ca q3)
                          replace HRA := Lib.hid (Lay.rd_below HRA.out q3)
                          replace HRB := Lib.hid (Lay.rd_below HRB.out q3)
                          replace HBB := Lib.hid (bl_ca HBB.out q3)
                          have hw3 := Nat.lt_of_lt_of_le hw1 q3.size
                          clear q3 x0 x1 x2 x3 x4 x5 HIN hw1
                          have x0 : w3.cell? ⟨w.heap.size, 0, none⟩ = some (.int .u32 ses) := HB.out.cell 0
                          have x1 : w3.cell? ⟨w.heap.size, 1, none⟩ = some (.int .u64 next) := HB.out.cell 1
                          have x2 : w3.cell? ⟨w.heap.size, 2, none⟩ = some (.slice A 0 c) := HB.out.cell 2
                          have x3 : w3.cell? ⟨w.heap.size, 3, none⟩ = some (.slice B m d) := HB.out.cell 3
                          have x4 : w3.cell? ⟨w.heap.size, 4, none⟩ = some (.int .i64 room) := HB.out.cell 4
                          have x5 : w3.cell? ⟨w.heap.size, 5, none⟩ = some (.bool true) := HB.out.cell 5
                          go_wp2
                          go_ret
                          exact ⟨ret_int (by rw [HRR.out, HF.out]; rfl), HBB.out⟩
                      · have mp : (0 : Int) < (m : Int) := by omega
                        have HF := Lib.hid (show recB ⟨ses, next, ahead, buf, room, true⟩ = false from by unfold recB; rw [show recT ⟨ses, next, ahead, buf, room, true⟩ = false from by unfold recT; simp [HLB.out, m0]]; simp)
                        have b1 := bl_al (Below.refl w.heap.size w) (.cells #[.int .u32 ses, .int .u64 next, .slice A 0 c, .slice B m d, .int .i64 room, .bool true] 36)
                        have HB := Lib.hid (Blk.new w 36 #[.int .u32 ses, .int .u64 next, .slice A 0 c, .slice B m d, .int .i64 room, .bool true])
                        have HRA := Lib.hid (Lay.rd_below HA.out b1)
                        have HRB := Lib.hid (Lay.rd_below HBU.out b1)
                        have HBB := Lib.hid b1
                        have hw1 : w.heap.size < (w.alloc (.cells #[.int .u32 ses, .int .u64 next, .slice A 0 c, .slice B m d, .int .i64 room, .bool true] 36)).heap.size := by simp only [World.size_alloc]; omega
                        have HIN := Lib.hid (inRow_any F2 B m d buf (next - ((m : Nat) : Int)) _ HRB.out (by omega) (by omega) (by omega))
                        rw [hin] at HIN
                        clear b1
                        have x0 : (w.alloc (.cells #[.int .u32 ses, .int .u64 next, .slice A 0 c, .slice B m d, .int .i64 room, .bool true] 36)).cell? ⟨w.heap.size, 0, none⟩ = some (.int .u32 ses) := HB.out.cell 0
                        have x1 : (w.alloc (.cells #[.int .u32 ses, .int .u64 next, .slice A 0 c, .slice B m d, .int .i64 room, .bool true] 36)).cell? ⟨w.heap.size, 1, none⟩ = some (.int .u64 next) := HB.out.cell 1
                        have x2 : (w.alloc (.cells #[.int .u32 ses, .int .u64 next, .slice A 0 c, .slice B m d, .int .i64 room, .bool true] 36)).cell? ⟨w.heap.size, 2, none⟩ = some (.slice A 0 c) := HB.out.cell 2
                        have x3 : (w.alloc (.cells #[.int .u32 ses, .int .u64 next, .slice A 0 c, .slice B m d, .int .i64 room, .bool true] 36)).cell? ⟨w.heap.size, 3, none⟩ = some (.slice B m d) := HB.out.cell 3
                        have x4 : (w.alloc (.cells #[.int .u32 ses, .int .u64 next, .slice A 0 c, .slice B m d, .int .i64 room, .bool true] 36)).cell? ⟨w.heap.size, 4, none⟩ = some (.int .i64 room) := HB.out.cell 4
                        have x5 : (w.alloc (.cells #[.int .u32 ses, .int .u64 next, .slice A 0 c, .slice B m d, .int .i64 room, .bool true] 36)).cell? ⟨w.heap.size, 5, none⟩ = some (.bool true) := HB.out.cell 5
                        go_enter Try.func24, Try.ntmps24
                        go_wp2_with fail
                        generalize w.alloc (.cells #[.int .u32 ses, .int .u64 next, .slice A 0 c, .slice B m d, .int .i64 room, .bool true] 36) = w1 at *
                        refine (HSS.out _).mono ?_
                        rintro e w2 ⟨rfl, rfl⟩
                        go_wp2_with fail
                        refine HIN.out.mono ?_
                        rintro e w3 ⟨rfl, q3⟩
                        replace HB := Lib.hid (HB.out.ca q3)
                        replace HRA := Lib.hid (Lay.rd_below HRA.out q3)
                        replace HRB := Lib.hid (Lay.rd_below HRB.out q3)
                        replace HBB := Lib.hid (bl_ca HBB.out q3)
                        have hw3 := Nat.lt_of_lt_of_le hw1 q3.size
                        clear q3 x0 x1 x2 x3 x4 x5 HIN hw1
                        have x0 : w3.cell? ⟨w.heap.size, 0, none⟩ = some (.int .u32 ses) := HB.out.cell 0
                        have x1 : w3.cell? ⟨w.heap.size, 1, none⟩ = some (.int .u64 next) := HB.out.cell 1
                        have x2 : w3.cell? ⟨w.heap.size, 2, none⟩ = some (.slice A 0 c) := HB.out.cell 2
                        have x3 : w3.cell? ⟨w.heap.size, 3, none⟩ = some (.slice B m d) := HB.out.cell 3
                        have x4 : w3.cell? ⟨w.heap.size, 4, none⟩ = some (.int .i64 room) := HB.out.cell 4
                        have x5 : w3.cell? ⟨w.heap.size, 5, none⟩ = some (.bool true) := HB.out.cell 5
                        go_wp2
                        go_ret
                        exact ⟨ret_int (by rw [HRR.out, HF.out]; rfl), HBB.out⟩
                  · have np : (0 : Int) < (n : Int) := by omega
                    have nz : ((n : Int) == 0) = false := by simp; omega
                    cases heb : endsB buf
                    · cases over
                      · skip
                        obtain ⟨lim, hlim⟩ : ∃ x, x = limR ⟨ses, next, ahead, buf, room, false⟩ := ⟨_, rfl⟩
                        have HLIM := Lib.hid hlim
                        obtain ⟨zA, hzA⟩ : ∃ x, x = aheadB lim next ahead := ⟨_, rfl⟩
                        have HGB := Lib.hid (show recB ⟨ses, next, ahead, buf, room, false⟩ = zA from by unfold recB; rw [hzA, hlim, show recA ⟨ses, next, ahead, buf, room, false⟩ = true from by unfold recA; simp [← HZ.out, HLB.out, a1, a2, a3, a4, a5, a6], show recM ⟨ses, next, ahead, buf, room, false⟩ = true from by unfold recM; rw [HLB.out]; simp [hin, heb], show recT ⟨ses, next, ahead, buf, room, false⟩ = true from by unfold recT; simp]; simp)
                        have HZA := Lib.hid hzA
                        clear hlim hzA
                        have b1 := bl_al (Below.refl w.heap.size w) (.cells #[.int .u32 ses, .int .u64 next, .slice A n c, .slice B m d, .int .i64 room, .bool false] 36)
                        have HB := Lib.hid (Blk.new w 36 #[.int .u32 ses, .int .u64 next, .slice A n c, .slice B m d, .int .i64 room, .bool false])
                        have HRA := Lib.hid (Lay.rd_below HA.out b1)
                        have HRB := Lib.hid (Lay.rd_below HBU.out b1)
                        have HBB := Lib.hid b1
                        have hw1 : w.heap.size < (w.alloc (.cells #[.int .u32 ses, .int .u64 next, .slice A n c, .slice B m d, .int .i64 room, .bool false] 36)).heap.size := by simp only [World.size_alloc]; omega
                        have HIN := Lib.hid (inRow_any F2 B m d buf (next - ((m : Nat) : Int)) _ HRB.out (by omega) (by omega) (by omega))
                        rw [hin] at HIN
                        clear b1
                        have x0 : (w.alloc (.cells #[.int .u32 ses, .int .u64 next, .slice A n c, .slice B m d, .int .i64 room, .bool false] 36)).cell? ⟨w.heap.size, 0, none⟩ = some (.int .u32 ses) := HB.out.cell 0
                        have x1 : (w.alloc (.cells #[.int .u32 ses, .int .u64 next, .slice A n c, .slice B m d, .int .i64 room, .bool false] 36)).cell? ⟨w.heap.size, 1, none⟩ = some (.int .u64 next) := HB.out.cell 1
                        have x2 : (w.alloc (.cells #[.int .u32 ses, .int .u64 next, .slice A n c, .slice B m d, .int .i64 room, .bool false] 36)).cell? ⟨w.heap.size, 2, none⟩ = some (.slice A n c) := HB.out.cell 2
                        have x3 : (w.alloc (.cells #[.int .u32 ses, .int .u64 next, .slice A n c, .slice B m d, .int .i64 room, .bool false] 36)).cell? ⟨w.heap.size, 3, none⟩ = some (.slice B m d) := HB.out.cell 3
                        have x4 : (w.alloc (.cells #[.int .u32 ses, .int .u64 next, .slice A n c, .slice B m d, .int .i64 room, .bool false] 36)).cell? ⟨w.heap.size, 4, none⟩ = some (.int .i64 room) := HB.out.cell 4
                        have x5 : (w.alloc (.cells #[.int .u32 ses, .int .u64 next, .slice A n c, .slice B m d, .int .i64 room, .bool false] 36)).cell? ⟨w.heap.size, 5, none⟩ = some (.bool false) := HB.out.cell 5
                        go_enter Try.func24, Try.ntmps24
                        go_wp2_with fail
                        generalize w.alloc (.cells #[.int .u32 ses, .int .u64 next, .slice A n c, .slice B m d, .int .i64 room, .bool false] 36) = w1 at *
                        refine (HSS.out _).mono ?_
                        rintro e w2 ⟨rfl, rfl⟩
                        go_wp2_with fail
                        refine HIN.out.mono ?_
                        rintro e w3 ⟨rfl, q3⟩
                        replace HB := Lib.hid (HB.out.ca q3)
                        replace HRA := Lib.hid (Lay.rd_below HRA.out q3)
                        replace HRB := Lib.hid (Lay.rd_below HRB.out q3)
                        replace HBB := Lib.hid (bl_ca HBB.out q3)
                        have hw3 := Nat.lt_of_lt_of_le hw1 q3.size
                        clear q3 x0 x1 x2 x3 x4 x5 HIN hw1
                        have x0 : w3.cell? ⟨w.heap.size, 0, none⟩ = some (.int .u32 ses) := HB.out.cell 0
                        have x1 : w3.cell? ⟨w.heap.size, 1, none⟩ = some (.int .u64 next) := HB.out.cell 1
                        have x2 : w3.cell? ⟨w.heap.size, 2, none⟩ = some (.slice A n c) := HB.out.cell 2
                        have x3 : w3.cell? ⟨w.heap.size, 3, none⟩ = some (.slice B m d) := HB.out.cell 3
                        have x4 : w3.cell? ⟨w.heap.size, 4, none⟩ = some (.int .i64 room) := HB.out.cell 4
                        have x5 : w3.cell? ⟨w.heap.size, 5, none⟩ = some (.bool false) := HB.out.cell 5
                        go_wp2_with fail
                        refine (ends_any F2 B m d buf w3 HRB.out (by omega)).mono ?_
                        rintro e w4 ⟨rfl, rfl⟩
                        rw [heb]
                        go_wp2_with fail
                        clear x0 x1 x2 x3 x4 x5 HRB
                        go_loopg [5, 96] n (fun g a5 a96 wr => ∃ (i : Nat) (at_ : Int), i + g = n ∧ a5 = .int .u64 at_ ∧ a96 = .int .i64 i ∧ zA = aheadB lim at_ (ahead.drop i) ∧ Below w3.heap.size w3 wr)
                        case atStart => exact ⟨0, next, by omega, rfl, rfl, by rw [HZA.out]; simp, Below.refl _ _⟩
                        case round =>
                          obtain ⟨i, at_, hig, rfl, rfl, hri, bb⟩ := hrel
                          have HI := Lib.hid hri
                          have HBR0 := Lib.hid bb
                          have HBR := Lib.hid (HB.out.ca bb)
                          have HBBR := Lib.hid (bl_ca HBB.out bb)
                          have hwr := Nat.lt_of_lt_of_le hw3 bb.size
                          clear hri
                          by_cases hlt : i < n
                          · have hi1 : (i : Int) < (n : Int) := by omega
                            obtain ⟨ad, hh, K, kn, kc, rfl, hx, s1⟩ := LH4_at (Lay.rd_below HRA.out bb) hlt
                            have f0 := s1.c0
                            have f1 := s1.c1
                            have f2 := s1.c2
                            have f3 := s1.c3
                            have HKR := Lib.hid s1.rd
                            have hkn := Nat.le_trans s1.nc s1.cm
                            have HS := Lib.hid (aheadB_at (lim := lim) (a := at_) hx)
                            clear hx s1 bb
                            obtain ⟨seq, rows, fin, cnt⟩ := hh
                            dsimp only at *
                            by_cases t1 : at_ < seq
                            · have d1 : decide (seq ≤ at_) = false := by simp; omega
                              have HZ1 := Lib.hid (show decide (at_ < seq) = true from by simp; omega)
                              by_cases t2 : seq ≤ lim
                              · have d2 : decide (lim < seq) = false := by simp; omega
                                have HZ2 := Lib.hid (show decide (seq ≤ lim) = true from by simp; omega)
                                cases hq : batchB ⟨rows, fin, cnt⟩ seq
                                · have HQB := Lib.hid hq
                                  clear hq
                                  go_wp2_with fail
                                  have q5 := bl_al (Below.refl wr.heap.size wr) (.cells #[.int .u64 seq, .slice K kn kc, .bool fin, .int .u64 cnt] 81)
                                  have HF5 := Lib.hid (Blk.new wr 81 #[.int .u64 seq, .slice K kn kc, .bool fin, .int .u64 cnt])
                                  have HR5 := Lib.hid (Lay.rd_below HKR.out q5)
                                  have HB5 := Lib.hid (HBR.out.ca q5)
                                  have HBB5 := Lib.hid (bl_ca HBBR.out q5)
                                  have hw5 : wr.heap.size < (wr.alloc (.cells #[.int .u64 seq, .slice K kn kc, .bool fin, .int .u64 cnt] 81)).heap.size := by simp only [World.size_alloc]; omega
                                  have HQ5 := Lib.hid q5
                                  clear q5 f0 f1 f2 f3
                                  generalize wr.alloc (.cells #[.int .u64 seq, .slice K kn kc, .bool fin, .int .u64 cnt] 81) = w5 at *
                                  refine wp_region_ps (S := fun _ _ w' => Below w5.heap.size w5 w') (by kernel_rfl) ?spsw1 ?ppsw1
                                  case spsw1 =>
                                    exact (Below.refl _ _).drew
                                  refine Ps.step (i := 0) (d := some 101) (u := ?uw1_1) rfl rfl (by kernel_rfl) (by kernel_rfl) (by kernel_rfl) (by kernel_rfl) ?yw1_1 ?rw1_1
                                  case yw1_1 =>
                                    refine StepS.pure (fun _ _ _ h => h) (by rfl) (fun w9 => ?_)
                                    go_simp
                                    try rfl
                                  try simp only [Act.put, List.setIfInBounds_toArray, List.set_cons_zero, List.set_cons_succ]
                                  refine Ps.step (i := 1) (d := some 102) (u := ?uw1_2) rfl rfl (by kernel_rfl) (by kernel_rfl) (by kernel_rfl) (by kernel_rfl) ?yw1_2 ?rw1_2
                                  case yw1_2 =>
                                    refine StepS.read [] (by kernel_rfl) (fun _ _ _ h => h) (by rfl) (fun L9 m9 w9 hSh hAt hDn hS => ?_)
                                    have hT : Below w5.heap.size w5 w9 := hS
                                    have x0 : w9.cell? ⟨wr.heap.size, 0, none⟩ = some (.int .u64 seq) := (HF5.out.ca hT).cell 0
                                    clear hT hS
                                    go_simp
                                    try rfl
                                  try simp only [Act.put, List.setIfInBounds_toArray, List.set_cons_zero, List.set_cons_succ]
                                  refine Ps.step (i := 2) (d := some 103) (u := ?uw1_3) rfl rfl (by kernel_rfl) (by kernel_rfl) (by kernel_rfl) (by kernel_rfl) ?yw1_3 ?rw1_3
                                  case yw1_3 =>
                                    refine StepS.pure (fun _ _ _ h => h) (by rfl) (fun w9 => ?_)
                                    go_simp
                                    try rfl
                                  try simp only [Act.put, List.setIfInBounds_toArray, List.set_cons_zero, List.set_cons_succ]
                                  refine Ps.step (i := 3) (d := some 104) (u := ?uw1_4) rfl rfl (by kernel_rfl) (by kernel_rfl) (by kernel_rfl) (by kernel_rfl) ?yw1_4 ?rw1_4
                                  case yw1_4 =>
                                    refine StepS.pure (fun _ _ _ h => h) (by rfl) (fun w9 => ?_)
                                    go_simp
                                    try rfl
                                  try simp only [Act.put, List.setIfInBounds_toArray, List.set_cons_zero, List.set_cons_succ]
                                  refine Ps.step (i := 4) (d := some 105) (u := ?uw1_5) rfl rfl (by kernel_rfl) (by kernel_rfl) (by kernel_rfl) (by kernel_rfl) ?yw1_5 ?rw1_5
                                  case yw1_5 =>
                                    refine StepS.pure (fun _ _ _ h => h) (by rfl) (fun w9 => ?_)
                                    go_simp
                                    try rfl
                                  try simp only [Act.put, List.setIfInBounds_toArray, List.set_cons_zero, List.set_cons_succ]
                                  refine Ps.step (i := 5) (d := some 106) (u := ?uw1_6) rfl rfl (by kernel_rfl) (by kernel_rfl) (by kernel_rfl) (by kernel_rfl) ?yw1_6 ?rw1_6
                                  case yw1_6 =>
                                    refine StepS.pure (fun _ _ _ h => h) (by rfl) (fun w9 => ?_)
                                    go_simp
                                    try rfl
                                  try simp only [Act.put, List.setIfInBounds_toArray, List.set_cons_zero, List.set_cons_succ]
                                  refine Ps.step (i := 6) (d := some 107) (u := ?uw1_7) rfl rfl (by kernel_rfl) (by kernel_rfl) (by kernel_rfl) (by kernel_rfl) ?yw1_7 ?rw1_7
                                  case yw1_7 =>
                                    refine StepS.read [] (by kernel_rfl) (fun _ _ _ h => h) (by rfl) (fun L9 m9 w9 hSh hAt hDn hS => ?_)
                                    have hT : Below w5.heap.size w5 w9 := hS
                                    have x0 : w9.cell? ⟨wr.heap.size, 0, none⟩ = some (.int .u64 seq) := (HF5.out.ca hT).cell 0
                                    clear hT hS
                                    go_simp
                                    try rfl
                                  try simp only [Act.put, List.setIfInBounds_toArray, List.set_cons_zero, List.set_cons_succ]
                                  refine Ps.step (i := 7) (d := some 108) (u := ?uw1_8) rfl rfl (by kernel_rfl) (by kernel_rfl) (by kernel_rfl) (by kernel_rfl) ?yw1_8 ?rw1_8
                                  case yw1_8 =>
                                    refine StepS.read [] (by kernel_rfl) (fun _ _ _ h => h) (by rfl) (fun L9 m9 w9 hSh hAt hDn hS => ?_)
                                    have hT : Below w5.heap.size w5 w9 := hS
                                    have x0 : w9.cell? ⟨w.heap.size, 0, none⟩ = some (.int .u32 ses) := (HB5.out.ca hT).cell 0
                                    have x1 : w9.cell? ⟨w.heap.size, 1, none⟩ = some (.int .u64 next) := (HB5.out.ca hT).cell 1
                                    have x2 : w9.cell? ⟨w.heap.size, 2, none⟩ = some (.slice (some ad) n c) := (HB5.out.ca hT).cell 2
                                    have x3 : w9.cell? ⟨w.heap.size, 3, none⟩ = some (.slice B m d) := (HB5.out.ca hT).cell 3
                                    have x4 : w9.cell? ⟨w.heap.size, 4, none⟩ = some (.int .i64 room) := (HB5.out.ca hT).cell 4
                                    have x5 : w9.cell? ⟨w.heap.size, 5, none⟩ = some (.bool false) := (HB5.out.ca hT).cell 5
                                    clear hT hS
                                    go_simp
                                    try rfl
                                  try simp only [Act.put, List.setIfInBounds_toArray, List.set_cons_zero, List.set_cons_succ]
                                  refine Ps.step (i := 8) (d := some 109) (u := (.int .u64 lim)) rfl rfl (by kernel_rfl) (by kernel_rfl) (by kernel_rfl) (by kernel_rfl) ?yw1_9 ?rw1_9
                                  case yw1_9 =>
                                    refine StepS.call ?fw1_9 ?aw1_9 [] (by kernel_rfl) (by rfl) (fun w9 => ?hw1_9) (fun L9 m9 w9 hSh hAt hDn hS => ?cw1_9)
                                    case hw1_9 => go_simp; refine ⟨?_, ?_⟩ <;> rfl
                                    case cw1_9 =>
                                      have hT : Below w5.heap.size w5 w9 := hS
                                      refine (limit_any ⟨ses, next, ahead, buf, room, false⟩ (some ad) n c B m d w9 HLB.out (by dsimp only; omega) (by dsimp only; omega) (by dsimp only; omega) (by dsimp only; omega)).mono ?_
                                      rintro e w8 ⟨rfl, q8⟩
                                      exact ⟨by rw [HLIM.out], bl_ca hT q8⟩
                                  try simp only [Act.put, List.setIfInBounds_toArray, List.set_cons_zero, List.set_cons_succ]
                                  refine Ps.step (i := 9) (d := some 110) (u := ?uw1_10) rfl rfl (by kernel_rfl) (by kernel_rfl) (by kernel_rfl) (by kernel_rfl) ?yw1_10 ?rw1_10
                                  case yw1_10 =>
                                    refine StepS.pure (fun _ _ _ h => h) (by rfl) (fun w9 => ?_)
                                    go_simp
                                    try rfl
                                  try simp only [Act.put, List.setIfInBounds_toArray, List.set_cons_zero, List.set_cons_succ]
                                  refine Ps.step (i := 10) (d := some 111) (u := ?uw1_11) rfl rfl (by kernel_rfl) (by kernel_rfl) (by kernel_rfl) (by kernel_rfl) ?yw1_11 ?rw1_11
                                  case yw1_11 =>
                                    refine StepS.pure (fun _ _ _ h => h) (by rfl) (fun w9 => ?_)
                                    go_simp
                                    try rfl
                                  try simp only [Act.put, List.setIfInBounds_toArray, List.set_cons_zero, List.set_cons_succ]
                                  refine Ps.step (i := 11) (d := some 112) (u := ?uw1_12) rfl rfl (by kernel_rfl) (by kernel_rfl) (by kernel_rfl) (by kernel_rfl) ?yw1_12 ?rw1_12
                                  case yw1_12 =>
                                    refine StepS.pure (fun _ _ _ h => h) (by rfl) (fun w9 => ?_)
                                    go_simp
                                    try rfl
                                  try simp only [Act.put, List.setIfInBounds_toArray, List.set_cons_zero, List.set_cons_succ]
                                  refine Ps.step (i := 12) (d := some 113) (u := ?uw1_13) rfl rfl (by kernel_rfl) (by kernel_rfl) (by kernel_rfl) (by kernel_rfl) ?yw1_13 ?rw1_13
                                  case yw1_13 =>
                                    refine StepS.pure (fun _ _ _ h => h) (by rfl) (fun w9 => ?_)
                                    go_simp
                                    try rfl
                                  try simp only [Act.put, List.setIfInBounds_toArray, List.set_cons_zero, List.set_cons_succ]
                                  refine Ps.step (i := 13) (d := some 114) (u := ?uw1_14) rfl rfl (by kernel_rfl) (by kernel_rfl) (by kernel_rfl) (by kernel_rfl) ?yw1_14 ?rw1_14
                                  case yw1_14 =>
                                    refine StepS.read [] (by kernel_rfl) (fun _ _ _ h => h) (by rfl) (fun L9 m9 w9 hSh hAt hDn hS => ?_)
                                    have hT : Below w5.heap.size w5 w9 := hS
                                    have x1 : w9.cell? ⟨wr.heap.size, 1, none⟩ = some (.slice K kn kc) := (HF5.out.ca hT).cell 1
                                    have x2 : w9.cell? ⟨wr.heap.size, 2, none⟩ = some (.bool fin) := (HF5.out.ca hT).cell 2
                                    have x3 : w9.cell? ⟨wr.heap.size, 3, none⟩ = some (.int .u64 cnt) := (HF5.out.ca hT).cell 3
                                    clear hT hS
                                    go_simp
                                    try rfl
                                  try simp only [Act.put, List.setIfInBounds_toArray, List.set_cons_zero, List.set_cons_succ]
                                  refine Ps.step (i := 14) (d := some 115) (u := ?uw1_15) rfl rfl (by kernel_rfl) (by kernel_rfl) (by kernel_rfl) (by kernel_rfl) ?yw1_15 ?rw1_15
                                  case yw1_15 =>
                                    refine StepS.pure (fun _ _ _ h => h) (by rfl) (fun w9 => ?_)
                                    go_simp
                                    try rfl
                                  try simp only [Act.put, List.setIfInBounds_toArray, List.set_cons_zero, List.set_cons_succ]
                                  refine Ps.step (i := 15) (d := some 116) (u := ?uw1_16) rfl rfl (by kernel_rfl) (by kernel_rfl) (by kernel_rfl) (by kernel_rfl) ?yw1_16 ?rw1_16
                                  case yw1_16 =>
                                    refine StepS.read [] (by kernel_rfl) (fun _ _ _ h => h) (by rfl) (fun L9 m9 w9 hSh hAt hDn hS => ?_)
                                    have hT : Below w5.heap.size w5 w9 := hS
                                    have x0 : w9.cell? ⟨wr.heap.size, 0, none⟩ = some (.int .u64 seq) := (HF5.out.ca hT).cell 0
                                    clear hT hS
                                    go_simp
                                    try rfl
                                  try simp only [Act.put, List.setIfInBounds_toArray, List.set_cons_zero, List.set_cons_succ]
                                  refine Ps.step (i := 16) (d := some 117) (u := (.bool false)) rfl rfl (by kernel_rfl) (by kernel_rfl) (by kernel_rfl) (by kernel_rfl) ?yw1_17 ?rw1_17
                                  case yw1_17 =>
                                    refine StepS.call ?fw1_17 ?aw1_17 [] (by kernel_rfl) (by rfl) (fun w9 => ?hw1_17) (fun L9 m9 w9 hSh hAt hDn hS => ?cw1_17)
                                    case hw1_17 => go_simp; refine ⟨?_, ?_⟩ <;> rfl
                                    case cw1_17 =>
                                      have hT : Below w5.heap.size w5 w9 := hS
                                      refine (batch_any Fr ⟨rows, fin, cnt⟩ K kn kc seq w9 (Lay.rd_below HR5.out hT) hkn).mono ?_
                                      rintro e w8 ⟨rfl, q8⟩
                                      exact ⟨by rw [HQB.out], bl_ca hT q8⟩
                                  try simp only [Act.put, List.setIfInBounds_toArray, List.set_cons_zero, List.set_cons_succ]
                                  refine Ps.step (i := 17) (d := some 118) (u := ?uw1_18) rfl rfl (by kernel_rfl) (by kernel_rfl) (by kernel_rfl) (by kernel_rfl) ?yw1_18 ?rw1_18
                                  case yw1_18 =>
                                    refine StepS.pure (fun _ _ _ h => h) (by rfl) (fun w9 => ?_)
                                    go_simp
                                    try rfl
                                  try simp only [Act.put, List.setIfInBounds_toArray, List.set_cons_zero, List.set_cons_succ]
                                  refine Ps.step (i := 18) (d := some 119) (u := ?uw1_19) rfl rfl (by kernel_rfl) (by kernel_rfl) (by kernel_rfl) (by kernel_rfl) ?yw1_19 ?rw1_19
                                  case yw1_19 =>
                                    refine StepS.pure (fun _ _ _ h => h) (by rfl) (fun w9 => ?_)
                                    go_simp
                                    try rfl
                                  try simp only [Act.put, List.setIfInBounds_toArray, List.set_cons_zero, List.set_cons_succ]
                                  refine Ps.step (i := 19) (d := some 120) (u := ?uw1_20) rfl rfl (by kernel_rfl) (by kernel_rfl) (by kernel_rfl) (by kernel_rfl) ?yw1_20 ?rw1_20
                                  case yw1_20 =>
                                    refine StepS.pure (fun _ _ _ h => h) (by rfl) (fun w9 => ?_)
                                    go_simp
                                    try rfl
                                  try simp only [Act.put, List.setIfInBounds_toArray, List.set_cons_zero, List.set_cons_succ]
                                  refine Ps.step (i := 20) (d := some 121) (u := undef) rfl rfl (by kernel_rfl) (by kernel_rfl) (by kernel_rfl) (by kernel_rfl) ?yw1_21 ?rw1_21
                                  case yw1_21 =>
                                    exact StepS.skip (fun _ _ _ h => h) (by rfl)
                                  try simp only [Act.put, List.setIfInBounds_toArray, List.set_cons_zero, List.set_cons_succ]
                                  refine Ps.step (i := 21) (d := some 122) (u := undef) rfl rfl (by kernel_rfl) (by kernel_rfl) (by kernel_rfl) (by kernel_rfl) ?yw1_22 ?rw1_22
                                  case yw1_22 =>
                                    exact StepS.skip (fun _ _ _ h => h) (by rfl)
                                  try simp only [Act.put, List.setIfInBounds_toArray, List.set_cons_zero, List.set_cons_succ]
                                  refine Ps.step (i := 22) (d := some 123) (u := undef) rfl rfl (by kernel_rfl) (by kernel_rfl) (by kernel_rfl) (by kernel_rfl) ?yw1_23 ?rw1_23
                                  case yw1_23 =>
                                    exact StepS.skip (fun _ _ _ h => h) (by rfl)
                                  try simp only [Act.put, List.setIfInBounds_toArray, List.set_cons_zero, List.set_cons_succ]
                                  refine Ps.step (i := 23) (d := some 124) (u := undef) rfl rfl (by kernel_rfl) (by kernel_rfl) (by kernel_rfl) (by kernel_rfl) ?yw1_24 ?rw1_24
                                  case yw1_24 =>
                                    exact StepS.skip (fun _ _ _ h => h) (by rfl)
                                  try simp only [Act.put, List.setIfInBounds_toArray, List.set_cons_zero, List.set_cons_succ]
                                  refine Ps.step (i := 24) (d := some 125) (u := undef) rfl rfl (by kernel_rfl) (by kernel_rfl) (by kernel_rfl) (by kernel_rfl) ?yw1_25 ?rw1_25
                                  case yw1_25 =>
                                    exact StepS.skip (fun _ _ _ h => h) (by rfl)
                                  try simp only [Act.put, List.setIfInBounds_toArray, List.set_cons_zero, List.set_cons_succ]
                                  refine Ps.step (i := 25) (d := some 126) (u := undef) rfl rfl (by kernel_rfl) (by kernel_rfl) (by kernel_rfl) (by kernel_rfl) ?yw1_26 ?rw1_26
                                  case yw1_26 =>
                                    exact StepS.skip (fun _ _ _ h => h) (by rfl)
                                  try simp only [Act.put, List.setIfInBounds_toArray, List.set_cons_zero, List.set_cons_succ]
                                  refine Ps.step (i := 26) (d := some 127) (u := undef) rfl rfl (by kernel_rfl) (by kernel_rfl) (by kernel_rfl) (by kernel_rfl) ?yw1_27 ?rw1_27
                                  case yw1_27 =>
                                    exact StepS.skip (fun _ _ _ h => h) (by rfl)
                                  try simp only [Act.put, List.setIfInBounds_toArray, List.set_cons_zero, List.set_cons_succ]
                                  refine Ps.step (i := 27) (d := some 128) (u := undef) rfl rfl (by kernel_rfl) (by kernel_rfl) (by kernel_rfl) (by kernel_rfl) ?yw1_28 ?rw1_28
                                  case yw1_28 =>
                                    exact StepS.skip (fun _ _ _ h => h) (by rfl)
                                  try simp only [Act.put, List.setIfInBounds_toArray, List.set_cons_zero, List.set_cons_succ]
                                  refine Ps.step (i := 28) (d := some 129) (u := undef) rfl rfl (by kernel_rfl) (by kernel_rfl) (by kernel_rfl) (by kernel_rfl) ?yw1_29 ?rw1_29
                                  case yw1_29 =>
                                    exact StepS.skip (fun _ _ _ h => h) (by rfl)
                                  try simp only [Act.put, List.setIfInBounds_toArray, List.set_cons_zero, List.set_cons_succ]
                                  refine Ps.step (i := 29) (d := some 130) (u := undef) rfl rfl (by kernel_rfl) (by kernel_rfl) (by kernel_rfl) (by kernel_rfl) ?yw1_30 ?rw1_30
                                  case yw1_30 =>
                                    exact StepS.skip (fun _ _ _ h => h) (by rfl)
                                  try simp only [Act.put, List.setIfInBounds_toArray, List.set_cons_zero, List.set_cons_succ]
                                  refine Ps.step (i := 30) (d := some 131) (u := undef) rfl rfl (by kernel_rfl) (by kernel_rfl) (by kernel_rfl) (by kernel_rfl) ?yw1_31 ?rw1_31
                                  case yw1_31 =>
                                    exact StepS.skip (fun _ _ _ h => h) (by rfl)
                                  try simp only [Act.put, List.setIfInBounds_toArray, List.set_cons_zero, List.set_cons_succ]
                                  refine Ps.step (i := 31) (d := some 132) (u := ?uw1_32) rfl rfl (by kernel_rfl) (by kernel_rfl) (by kernel_rfl) (by kernel_rfl) ?yw1_32 ?rw1_32
                                  case yw1_32 =>
                                    refine StepS.pure (fun _ _ _ h => h) (by rfl) (fun w9 => ?_)
                                    go_simp
                                    try rfl
                                  try simp only [Act.put, List.setIfInBounds_toArray, List.set_cons_zero, List.set_cons_succ]
                                  refine Ps.done (by kernel_rfl) (fun w1 hS => ?_) _
                                  have HQ := Lib.hid (show Below w5.heap.size w5 _ from hS)
                                  clear hS
                                  obtain ⟨w7, rfl⟩ : ∃ x, x = w1 := ⟨_, rfl⟩
                                  go_wp2
                                  go_ret
                                  exact ⟨ret_int (by rw [HRR.out, HGB.out, HI.out, HS.out, HZ1.out, HZ2.out, HQB.out]; rfl), bl_ca HBB5.out HQ.out⟩
                                · have HQB := Lib.hid hq
                                  clear hq
                                  cases fin
                                  · skip
                                    go_wp2_with fail
                                    have q5 := bl_al (Below.refl wr.heap.size wr) (.cells #[.int .u64 seq, .slice K kn kc, .bool false, .int .u64 cnt] 81)
                                    have HF5 := Lib.hid (Blk.new wr 81 #[.int .u64 seq, .slice K kn kc, .bool false, .int .u64 cnt])
                                    have HR5 := Lib.hid (Lay.rd_below HKR.out q5)
                                    have HB5 := Lib.hid (HBR.out.ca q5)
                                    have HBB5 := Lib.hid (bl_ca HBBR.out q5)
                                    have hw5 : wr.heap.size < (wr.alloc (.cells #[.int .u64 seq, .slice K kn kc, .bool false, .int .u64 cnt] 81)).heap.size := by simp only [World.size_alloc]; omega
                                    have HQ5 := Lib.hid q5
                                    clear q5 f0 f1 f2 f3
                                    generalize wr.alloc (.cells #[.int .u64 seq, .slice K kn kc, .bool false, .int .u64 cnt] 81) = w5 at *
                                    refine wp_region_ps (S := fun _ _ w' => Below w5.heap.size w5 w') (by kernel_rfl) ?spsw33 ?ppsw33
                                    case spsw33 =>
                                      exact (Below.refl _ _).drew
                                    refine Ps.step (i := 0) (d := some 101) (u := ?uw33_33) rfl rfl (by kernel_rfl) (by kernel_rfl) (by kernel_rfl) (by kernel_rfl) ?yw33_33 ?rw33_33
                                    case yw33_33 =>
                                      refine StepS.pure (fun _ _ _ h => h) (by rfl) (fun w9 => ?_)
                                      go_simp
                                      try rfl
                                    try simp only [Act.put, List.setIfInBounds_toArray, List.set_cons_zero, List.set_cons_succ]
                                    refine Ps.step (i := 1) (d := some 102) (u := ?uw33_34) rfl rfl (by kernel_rfl) (by kernel_rfl) (by kernel_rfl) (by kernel_rfl) ?yw33_34 ?rw33_34
                                    case yw33_34 =>
                                      refine StepS.read [] (by kernel_rfl) (fun _ _ _ h => h) (by rfl) (fun L9 m9 w9 hSh hAt hDn hS => ?_)
                                      have hT : Below w5.heap.size w5 w9 := hS
                                      have x0 : w9.cell? ⟨wr.heap.size, 0, none⟩ = some (.int .u64 seq) := (HF5.out.ca hT).cell 0
                                      clear hT hS
                                      go_simp
                                      try rfl
                                    try simp only [Act.put, List.setIfInBounds_toArray, List.set_cons_zero, List.set_cons_succ]
                                    refine Ps.step (i := 2) (d := some 103) (u := ?uw33_35) rfl rfl (by kernel_rfl) (by kernel_rfl) (by kernel_rfl) (by kernel_rfl) ?yw33_35 ?rw33_35
                                    case yw33_35 =>
                                      refine StepS.pure (fun _ _ _ h => h) (by rfl) (fun w9 => ?_)
                                      go_simp
                                      try rfl
                                    try simp only [Act.put, List.setIfInBounds_toArray, List.set_cons_zero, List.set_cons_succ]
                                    refine Ps.step (i := 3) (d := some 104) (u := ?uw33_36) rfl rfl (by kernel_rfl) (by kernel_rfl) (by kernel_rfl) (by kernel_rfl) ?yw33_36 ?rw33_36
                                    case yw33_36 =>
                                      refine StepS.pure (fun _ _ _ h => h) (by rfl) (fun w9 => ?_)
                                      go_simp
                                      try rfl
                                    try simp only [Act.put, List.setIfInBounds_toArray, List.set_cons_zero, List.set_cons_succ]
                                    refine Ps.step (i := 4) (d := some 105) (u := ?uw33_37) rfl rfl (by kernel_rfl) (by kernel_rfl) (by kernel_rfl) (by kernel_rfl) ?yw33_37 ?rw33_37
                                    case yw33_37 =>
                                      refine StepS.pure (fun _ _ _ h => h) (by rfl) (fun w9 => ?_)
                                      go_simp
                                      try rfl
                                    try simp only [Act.put, List.setIfInBounds_toArray, List.set_cons_zero, List.set_cons_succ]
                                    refine Ps.step (i := 5) (d := some 106) (u := ?uw33_38) rfl rfl (by kernel_rfl) (by kernel_rfl) (by kernel_rfl) (by kernel_rfl) ?yw33_38 ?rw33_38
                                    case yw33_38 =>
                                      refine StepS.pure (fun _ _ _ h => h) (by rfl) (fun w9 => ?_)
                                      go_simp
                                      try rfl
                                    try simp only [Act.put, List.setIfInBounds_toArray, List.set_cons_zero, List.set_cons_succ]
                                    refine Ps.step (i := 6) (d := some 107) (u := ?uw33_39) rfl rfl (by kernel_rfl) (by kernel_rfl) (by kernel_rfl) (by kernel_rfl) ?yw33_39 ?rw33_39
                                    case yw33_39 =>
                                      refine StepS.read [] (by kernel_rfl) (fun _ _ _ h => h) (by rfl) (fun L9 m9 w9 hSh hAt hDn hS => ?_)
                                      have hT : Below w5.heap.size w5 w9 := hS
                                      have x0 : w9.cell? ⟨wr.heap.size, 0, none⟩ = some (.int .u64 seq) := (HF5.out.ca hT).cell 0
                                      clear hT hS
                                      go_simp
                                      try rfl
                                    try simp only [Act.put, List.setIfInBounds_toArray, List.set_cons_zero, List.set_cons_succ]
                                    refine Ps.step (i := 7) (d := some 108) (u := ?uw33_40) rfl rfl (by kernel_rfl) (by kernel_rfl) (by kernel_rfl) (by kernel_rfl) ?yw33_40 ?rw33_40
                                    case yw33_40 =>
                                      refine StepS.read [] (by kernel_rfl) (fun _ _ _ h => h) (by rfl) (fun L9 m9 w9 hSh hAt hDn hS => ?_)
                                      have hT : Below w5.heap.size w5 w9 := hS
                                      have x0 : w9.cell? ⟨w.heap.size, 0, none⟩ = some (.int .u32 ses) := (HB5.out.ca hT).cell 0
                                      have x1 : w9.cell? ⟨w.heap.size, 1, none⟩ = some (.int .u64 next) := (HB5.out.ca hT).cell 1
                                      have x2 : w9.cell? ⟨w.heap.size, 2, none⟩ = some (.slice (some ad) n c) := (HB5.out.ca hT).cell 2
                                      have x3 : w9.cell? ⟨w.heap.size, 3, none⟩ = some (.slice B m d) := (HB5.out.ca hT).cell 3
                                      have x4 : w9.cell? ⟨w.heap.size, 4, none⟩ = some (.int .i64 room) := (HB5.out.ca hT).cell 4
                                      have x5 : w9.cell? ⟨w.heap.size, 5, none⟩ = some (.bool false) := (HB5.out.ca hT).cell 5
                                      clear hT hS
                                      go_simp
                                      try rfl
                                    try simp only [Act.put, List.setIfInBounds_toArray, List.set_cons_zero, List.set_cons_succ]
                                    refine Ps.step (i := 8) (d := some 109) (u := (.int .u64 lim)) rfl rfl (by kernel_rfl) (by kernel_rfl) (by kernel_rfl) (by kernel_rfl) ?yw33_41 ?rw33_41
                                    case yw33_41 =>
                                      refine StepS.call ?fw33_41 ?aw33_41 [] (by kernel_rfl) (by rfl) (fun w9 => ?hw33_41) (fun L9 m9 w9 hSh hAt hDn hS => ?cw33_41)
                                      case hw33_41 => go_simp; refine ⟨?_, ?_⟩ <;> rfl
                                      case cw33_41 =>
                                        have hT : Below w5.heap.size w5 w9 := hS
                                        refine (limit_any ⟨ses, next, ahead, buf, room, false⟩ (some ad) n c B m d w9 HLB.out (by dsimp only; omega) (by dsimp only; omega) (by dsimp only; omega) (by dsimp only; omega)).mono ?_
                                        rintro e w8 ⟨rfl, q8⟩
                                        exact ⟨by rw [HLIM.out], bl_ca hT q8⟩
                                    try simp only [Act.put, List.setIfInBounds_toArray, List.set_cons_zero, List.set_cons_succ]
                                    refine Ps.step (i := 9) (d := some 110) (u := ?uw33_42) rfl rfl (by kernel_rfl) (by kernel_rfl) (by kernel_rfl) (by kernel_rfl) ?yw33_42 ?rw33_42
                                    case yw33_42 =>
                                      refine StepS.pure (fun _ _ _ h => h) (by rfl) (fun w9 => ?_)
                                      go_simp
                                      try rfl
                                    try simp only [Act.put, List.setIfInBounds_toArray, List.set_cons_zero, List.set_cons_succ]
                                    refine Ps.step (i := 10) (d := some 111) (u := ?uw33_43) rfl rfl (by kernel_rfl) (by kernel_rfl) (by kernel_rfl) (by kernel_rfl) ?yw33_43 ?rw33_43
                                    case yw33_43 =>
                                      refine StepS.pure (fun _ _ _ h => h) (by rfl) (fun w9 => ?_)
                                      go_simp
                                      try rfl
                                    try simp only [Act.put, List.setIfInBounds_toArray, List.set_cons_zero, List.set_cons_succ]
                                    refine Ps.step (i := 11) (d := some 112) (u := ?uw33_44) rfl rfl (by kernel_rfl) (by kernel_rfl) (by kernel_rfl) (by kernel_rfl) ?yw33_44 ?rw33_44
                                    case yw33_44 =>
                                      refine StepS.pure (fun _ _ _ h => h) (by rfl) (fun w9 => ?_)
                                      go_simp
                                      try rfl
                                    try simp only [Act.put, List.setIfInBounds_toArray, List.set_cons_zero, List.set_cons_succ]
                                    refine Ps.step (i := 12) (d := some 113) (u := ?uw33_45) rfl rfl (by kernel_rfl) (by kernel_rfl) (by kernel_rfl) (by kernel_rfl) ?yw33_45 ?rw33_45
                                    case yw33_45 =>
                                      refine StepS.pure (fun _ _ _ h => h) (by rfl) (fun w9 => ?_)
                                      go_simp
                                      try rfl
                                    try simp only [Act.put, List.setIfInBounds_toArray, List.set_cons_zero, List.set_cons_succ]
                                    refine Ps.step (i := 13) (d := some 114) (u := ?uw33_46) rfl rfl (by kernel_rfl) (by kernel_rfl) (by kernel_rfl) (by kernel_rfl) ?yw33_46 ?rw33_46
                                    case yw33_46 =>
                                      refine StepS.read [] (by kernel_rfl) (fun _ _ _ h => h) (by rfl) (fun L9 m9 w9 hSh hAt hDn hS => ?_)
                                      have hT : Below w5.heap.size w5 w9 := hS
                                      have x1 : w9.cell? ⟨wr.heap.size, 1, none⟩ = some (.slice K kn kc) := (HF5.out.ca hT).cell 1
                                      have x2 : w9.cell? ⟨wr.heap.size, 2, none⟩ = some (.bool false) := (HF5.out.ca hT).cell 2
                                      have x3 : w9.cell? ⟨wr.heap.size, 3, none⟩ = some (.int .u64 cnt) := (HF5.out.ca hT).cell 3
                                      clear hT hS
                                      go_simp
                                      try rfl
                                    try simp only [Act.put, List.setIfInBounds_toArray, List.set_cons_zero, List.set_cons_succ]
                                    refine Ps.step (i := 14) (d := some 115) (u := ?uw33_47) rfl rfl (by kernel_rfl) (by kernel_rfl) (by kernel_rfl) (by kernel_rfl) ?yw33_47 ?rw33_47
                                    case yw33_47 =>
                                      refine StepS.pure (fun _ _ _ h => h) (by rfl) (fun w9 => ?_)
                                      go_simp
                                      try rfl
                                    try simp only [Act.put, List.setIfInBounds_toArray, List.set_cons_zero, List.set_cons_succ]
                                    refine Ps.step (i := 15) (d := some 116) (u := ?uw33_48) rfl rfl (by kernel_rfl) (by kernel_rfl) (by kernel_rfl) (by kernel_rfl) ?yw33_48 ?rw33_48
                                    case yw33_48 =>
                                      refine StepS.read [] (by kernel_rfl) (fun _ _ _ h => h) (by rfl) (fun L9 m9 w9 hSh hAt hDn hS => ?_)
                                      have hT : Below w5.heap.size w5 w9 := hS
                                      have x0 : w9.cell? ⟨wr.heap.size, 0, none⟩ = some (.int .u64 seq) := (HF5.out.ca hT).cell 0
                                      clear hT hS
                                      go_simp
                                      try rfl
                                    try simp only [Act.put, List.setIfInBounds_toArray, List.set_cons_zero, List.set_cons_succ]
                                    refine Ps.step (i := 16) (d := some 117) (u := (.bool true)) rfl rfl (by kernel_rfl) (by kernel_rfl) (by kernel_rfl) (by kernel_rfl) ?yw33_49 ?rw33_49
                                    case yw33_49 =>
                                      refine StepS.call ?fw33_49 ?aw33_49 [] (by kernel_rfl) (by rfl) (fun w9 => ?hw33_49) (fun L9 m9 w9 hSh hAt hDn hS => ?cw33_49)
                                      case hw33_49 => go_simp; refine ⟨?_, ?_⟩ <;> rfl
                                      case cw33_49 =>
                                        have hT : Below w5.heap.size w5 w9 := hS
                                        refine (batch_any Fr ⟨rows, false, cnt⟩ K kn kc seq w9 (Lay.rd_below HR5.out hT) hkn).mono ?_
                                        rintro e w8 ⟨rfl, q8⟩
                                        exact ⟨by rw [HQB.out], bl_ca hT q8⟩
                                    try simp only [Act.put, List.setIfInBounds_toArray, List.set_cons_zero, List.set_cons_succ]
                                    refine Ps.step (i := 17) (d := some 118) (u := ?uw33_50) rfl rfl (by kernel_rfl) (by kernel_rfl) (by kernel_rfl) (by kernel_rfl) ?yw33_50 ?rw33_50
                                    case yw33_50 =>
                                      refine StepS.pure (fun _ _ _ h => h) (by rfl) (fun w9 => ?_)
                                      go_simp
                                      try rfl
                                    try simp only [Act.put, List.setIfInBounds_toArray, List.set_cons_zero, List.set_cons_succ]
                                    refine Ps.step (i := 18) (d := some 119) (u := ?uw33_51) rfl rfl (by kernel_rfl) (by kernel_rfl) (by kernel_rfl) (by kernel_rfl) ?yw33_51 ?rw33_51
                                    case yw33_51 =>
                                      refine StepS.pure (fun _ _ _ h => h) (by rfl) (fun w9 => ?_)
                                      go_simp
                                      try rfl
                                    try simp only [Act.put, List.setIfInBounds_toArray, List.set_cons_zero, List.set_cons_succ]
                                    refine Ps.step (i := 19) (d := some 120) (u := ?uw33_52) rfl rfl (by kernel_rfl) (by kernel_rfl) (by kernel_rfl) (by kernel_rfl) ?yw33_52 ?rw33_52
                                    case yw33_52 =>
                                      refine StepS.pure (fun _ _ _ h => h) (by rfl) (fun w9 => ?_)
                                      go_simp
                                      try rfl
                                    try simp only [Act.put, List.setIfInBounds_toArray, List.set_cons_zero, List.set_cons_succ]
                                    refine Ps.step (i := 20) (d := some 121) (u := ?uw33_53) rfl rfl (by kernel_rfl) (by kernel_rfl) (by kernel_rfl) (by kernel_rfl) ?yw33_53 ?rw33_53
                                    case yw33_53 =>
                                      refine StepS.pure (fun _ _ _ h => h) (by rfl) (fun w9 => ?_)
                                      go_simp
                                      try rfl
                                    try simp only [Act.put, List.setIfInBounds_toArray, List.set_cons_zero, List.set_cons_succ]
                                    refine Ps.step (i := 21) (d := some 122) (u := ?uw33_54) rfl rfl (by kernel_rfl) (by kernel_rfl) (by kernel_rfl) (by kernel_rfl) ?yw33_54 ?rw33_54
                                    case yw33_54 =>
                                      refine StepS.pure (fun _ _ _ h => h) (by rfl) (fun w9 => ?_)
                                      go_simp
                                      try rfl
                                    try simp only [Act.put, List.setIfInBounds_toArray, List.set_cons_zero, List.set_cons_succ]
                                    refine Ps.step (i := 22) (d := some 123) (u := ?uw33_55) rfl rfl (by kernel_rfl) (by kernel_rfl) (by kernel_rfl) (by kernel_rfl) ?yw33_55 ?rw33_55
                                    case yw33_55 =>
                                      refine StepS.read [] (by kernel_rfl) (fun _ _ _ h => h) (by rfl) (fun L9 m9 w9 hSh hAt hDn hS => ?_)
                                      have hT : Below w5.heap.size w5 w9 := hS
                                      have x2 : w9.cell? ⟨wr.heap.size, 2, none⟩ = some (.bool false) := (HF5.out.ca hT).cell 2
                                      clear hT hS
                                      go_simp
                                      try rfl
                                    try simp only [Act.put, List.setIfInBounds_toArray, List.set_cons_zero, List.set_cons_succ]
                                    refine Ps.step (i := 23) (d := some 124) (u := ?uw33_56) rfl rfl (by kernel_rfl) (by kernel_rfl) (by kernel_rfl) (by kernel_rfl) ?yw33_56 ?rw33_56
                                    case yw33_56 =>
                                      refine StepS.pure (fun _ _ _ h => h) (by rfl) (fun w9 => ?_)
                                      go_simp
                                      try rfl
                                    try simp only [Act.put, List.setIfInBounds_toArray, List.set_cons_zero, List.set_cons_succ]
                                    refine Ps.step (i := 24) (d := some 125) (u := undef) rfl rfl (by kernel_rfl) (by kernel_rfl) (by kernel_rfl) (by kernel_rfl) ?yw33_57 ?rw33_57
                                    case yw33_57 =>
                                      exact StepS.skip (fun _ _ _ h => h) (by rfl)
                                    try simp only [Act.put, List.setIfInBounds_toArray, List.set_cons_zero, List.set_cons_succ]
                                    refine Ps.step (i := 25) (d := some 126) (u := undef) rfl rfl (by kernel_rfl) (by kernel_rfl) (by kernel_rfl) (by kernel_rfl) ?yw33_58 ?rw33_58
                                    case yw33_58 =>
                                      exact StepS.skip (fun _ _ _ h => h) (by rfl)
                                    try simp only [Act.put, List.setIfInBounds_toArray, List.set_cons_zero, List.set_cons_succ]
                                    refine Ps.step (i := 26) (d := some 127) (u := undef) rfl rfl (by kernel_rfl) (by kernel_rfl) (by kernel_rfl) (by kernel_rfl) ?yw33_59 ?rw33_59
                                    case yw33_59 =>
                                      exact StepS.skip (fun _ _ _ h => h) (by rfl)
                                    try simp only [Act.put, List.setIfInBounds_toArray, List.set_cons_zero, List.set_cons_succ]
                                    refine Ps.step (i := 27) (d := some 128) (u := undef) rfl rfl (by kernel_rfl) (by kernel_rfl) (by kernel_rfl) (by kernel_rfl) ?yw33_60 ?rw33_60
                                    case yw33_60 =>
                                      exact StepS.skip (fun _ _ _ h => h) (by rfl)
                                    try simp only [Act.put, List.setIfInBounds_toArray, List.set_cons_zero, List.set_cons_succ]
                                    refine Ps.step (i := 28) (d := some 129) (u := undef) rfl rfl (by kernel_rfl) (by kernel_rfl) (by kernel_rfl) (by kernel_rfl) ?yw33_61 ?rw33_61
                                    case yw33_61 =>
                                      exact StepS.skip (fun _ _ _ h => h) (by rfl)
                                    try simp only [Act.put, List.setIfInBounds_toArray, List.set_cons_zero, List.set_cons_succ]
                                    refine Ps.step (i := 29) (d := some 130) (u := undef) rfl rfl (by kernel_rfl) (by kernel_rfl) (by kernel_rfl) (by kernel_rfl) ?yw33_62 ?rw33_62
                                    case yw33_62 =>
                                      exact StepS.skip (fun _ _ _ h => h) (by rfl)
                                    try simp only [Act.put, List.setIfInBounds_toArray, List.set_cons_zero, List.set_cons_succ]
                                    refine Ps.step (i := 30) (d := some 131) (u := ?uw33_63) rfl rfl (by kernel_rfl) (by kernel_rfl) (by kernel_rfl) (by kernel_rfl) ?yw33_63 ?rw33_63
                                    case yw33_63 =>
                                      refine StepS.pure (fun _ _ _ h => h) (by rfl) (fun w9 => ?_)
                                      go_simp
                                      try rfl
                                    try simp only [Act.put, List.setIfInBounds_toArray, List.set_cons_zero, List.set_cons_succ]
                                    refine Ps.step (i := 31) (d := some 132) (u := ?uw33_64) rfl rfl (by kernel_rfl) (by kernel_rfl) (by kernel_rfl) (by kernel_rfl) ?yw33_64 ?rw33_64
                                    case yw33_64 =>
                                      refine StepS.pure (fun _ _ _ h => h) (by rfl) (fun w9 => ?_)
                                      go_simp
                                      try rfl
                                    try simp only [Act.put, List.setIfInBounds_toArray, List.set_cons_zero, List.set_cons_succ]
                                    refine Ps.done (by kernel_rfl) (fun w33 hS => ?_) _
                                    have HQ := Lib.hid (show Below w5.heap.size w5 _ from hS)
                                    clear hS
                                    obtain ⟨w7, rfl⟩ : ∃ x, x = w33 := ⟨_, rfl⟩
                                    have x0 : w7.cell? ⟨wr.heap.size, 0, none⟩ = some (.int .u64 seq) := (HF5.out.ca HQ.out).cell 0
                                    go_wp2
                                    go_roundg (gk - 1)
                                    · exact ⟨i + 1, seq, by omega, rfl, by go_num, by rw [HI.out, HS.out, HZ1.out, HZ2.out, HQB.out]; rfl, bl_ca (bl_ca HBR0.out HQ5.out) HQ.out⟩
                                    · omega
                                  · have hwn : IntKind.i64.wrap ((n : Int) - 1) = (n : Int) - 1 := by simp [IntKind.wrap, IntKind.signed, IntKind.bits]; omega
                                    by_cases t4 : n ≤ i + 1
                                    · have d4 : decide ((i : Int) < (n : Int) - 1) = false := by simp; omega
                                      have HZ4 := Lib.hid (show decide (n ≤ i + 1) = true from by simp; omega)
                                      go_wp2_with fail
                                      have q5 := bl_al (Below.refl wr.heap.size wr) (.cells #[.int .u64 seq, .slice K kn kc, .bool true, .int .u64 cnt] 81)
                                      have HF5 := Lib.hid (Blk.new wr 81 #[.int .u64 seq, .slice K kn kc, .bool true, .int .u64 cnt])
                                      have HR5 := Lib.hid (Lay.rd_below HKR.out q5)
                                      have HB5 := Lib.hid (HBR.out.ca q5)
                                      have HBB5 := Lib.hid (bl_ca HBBR.out q5)
                                      have hw5 : wr.heap.size < (wr.alloc (.cells #[.int .u64 seq, .slice K kn kc, .bool true, .int .u64 cnt] 81)).heap.size := by simp only [World.size_alloc]; omega
                                      have HQ5 := Lib.hid q5
                                      clear q5 f0 f1 f2 f3
                                      generalize wr.alloc (.cells #[.int .u64 seq, .slice K kn kc, .bool true, .int .u64 cnt] 81) = w5 at *
                                      refine wp_region_ps (S := fun _ _ w' => Below w5.heap.size w5 w') (by kernel_rfl) ?spsw65 ?ppsw65
                                      case spsw65 =>
                                        exact (Below.refl _ _).drew
                                      refine Ps.step (i := 0) (d := some 101) (u := ?uw65_65) rfl rfl (by kernel_rfl) (by kernel_rfl) (by kernel_rfl) (by kernel_rfl) ?yw65_65 ?rw65_65
                                      case yw65_65 =>
                                        refine StepS.pure (fun _ _ _ h => h) (by rfl) (fun w9 => ?_)
                                        go_simp
                                        try rfl
                                      try simp only [Act.put, List.setIfInBounds_toArray, List.set_cons_zero, List.set_cons_succ]
                                      refine Ps.step (i := 1) (d := some 102) (u := ?uw65_66) rfl rfl (by kernel_rfl) (by kernel_rfl) (by kernel_rfl) (by kernel_rfl) ?yw65_66 ?rw65_66
                                      case yw65_66 =>
                                        refine StepS.read [] (by kernel_rfl) (fun _ _ _ h => h) (by rfl) (fun L9 m9 w9 hSh hAt hDn hS => ?_)
                                        have hT : Below w5.heap.size w5 w9 := hS
                                        have x0 : w9.cell? ⟨wr.heap.size, 0, none⟩ = some (.int .u64 seq) := (HF5.out.ca hT).cell 0
                                        clear hT hS
                                        go_simp
                                        try rfl
                                      try simp only [Act.put, List.setIfInBounds_toArray, List.set_cons_zero, List.set_cons_succ]
                                      refine Ps.step (i := 2) (d := some 103) (u := ?uw65_67) rfl rfl (by kernel_rfl) (by kernel_rfl) (by kernel_rfl) (by kernel_rfl) ?yw65_67 ?rw65_67
                                      case yw65_67 =>
                                        refine StepS.pure (fun _ _ _ h => h) (by rfl) (fun w9 => ?_)
                                        go_simp
                                        try rfl
                                      try simp only [Act.put, List.setIfInBounds_toArray, List.set_cons_zero, List.set_cons_succ]
                                      refine Ps.step (i := 3) (d := some 104) (u := ?uw65_68) rfl rfl (by kernel_rfl) (by kernel_rfl) (by kernel_rfl) (by kernel_rfl) ?yw65_68 ?rw65_68
                                      case yw65_68 =>
                                        refine StepS.pure (fun _ _ _ h => h) (by rfl) (fun w9 => ?_)
                                        go_simp
                                        try rfl
                                      try simp only [Act.put, List.setIfInBounds_toArray, List.set_cons_zero, List.set_cons_succ]
                                      refine Ps.step (i := 4) (d := some 105) (u := ?uw65_69) rfl rfl (by kernel_rfl) (by kernel_rfl) (by kernel_rfl) (by kernel_rfl) ?yw65_69 ?rw65_69
                                      case yw65_69 =>
                                        refine StepS.pure (fun _ _ _ h => h) (by rfl) (fun w9 => ?_)
                                        go_simp
                                        try rfl
                                      try simp only [Act.put, List.setIfInBounds_toArray, List.set_cons_zero, List.set_cons_succ]
                                      refine Ps.step (i := 5) (d := some 106) (u := ?uw65_70) rfl rfl (by kernel_rfl) (by kernel_rfl) (by kernel_rfl) (by kernel_rfl) ?yw65_70 ?rw65_70
                                      case yw65_70 =>
                                        refine StepS.pure (fun _ _ _ h => h) (by rfl) (fun w9 => ?_)
                                        go_simp
                                        try rfl
                                      try simp only [Act.put, List.setIfInBounds_toArray, List.set_cons_zero, List.set_cons_succ]
                                      refine Ps.step (i := 6) (d := some 107) (u := ?uw65_71) rfl rfl (by kernel_rfl) (by kernel_rfl) (by kernel_rfl) (by kernel_rfl) ?yw65_71 ?rw65_71
                                      case yw65_71 =>
                                        refine StepS.read [] (by kernel_rfl) (fun _ _ _ h => h) (by rfl) (fun L9 m9 w9 hSh hAt hDn hS => ?_)
                                        have hT : Below w5.heap.size w5 w9 := hS
                                        have x0 : w9.cell? ⟨wr.heap.size, 0, none⟩ = some (.int .u64 seq) := (HF5.out.ca hT).cell 0
                                        clear hT hS
                                        go_simp
                                        try rfl
                                      try simp only [Act.put, List.setIfInBounds_toArray, List.set_cons_zero, List.set_cons_succ]
                                      refine Ps.step (i := 7) (d := some 108) (u := ?uw65_72) rfl rfl (by kernel_rfl) (by kernel_rfl) (by kernel_rfl) (by kernel_rfl) ?yw65_72 ?rw65_72
                                      case yw65_72 =>
                                        refine StepS.read [] (by kernel_rfl) (fun _ _ _ h => h) (by rfl) (fun L9 m9 w9 hSh hAt hDn hS => ?_)
                                        have hT : Below w5.heap.size w5 w9 := hS
                                        have x0 : w9.cell? ⟨w.heap.size, 0, none⟩ = some (.int .u32 ses) := (HB5.out.ca hT).cell 0
                                        have x1 : w9.cell? ⟨w.heap.size, 1, none⟩ = some (.int .u64 next) := (HB5.out.ca hT).cell 1
                                        have x2 : w9.cell? ⟨w.heap.size, 2, none⟩ = some (.slice (some ad) n c) := (HB5.out.ca hT).cell 2
                                        have x3 : w9.cell? ⟨w.heap.size, 3, none⟩ = some (.slice B m d) := (HB5.out.ca hT).cell 3
                                        have x4 : w9.cell? ⟨w.heap.size, 4, none⟩ = some (.int .i64 room) := (HB5.out.ca hT).cell 4
                                        have x5 : w9.cell? ⟨w.heap.size, 5, none⟩ = some (.bool false) := (HB5.out.ca hT).cell 5
                                        clear hT hS
                                        go_simp
                                        try rfl
                                      try simp only [Act.put, List.setIfInBounds_toArray, List.set_cons_zero, List.set_cons_succ]
                                      refine Ps.step (i := 8) (d := some 109) (u := (.int .u64 lim)) rfl rfl (by kernel_rfl) (by kernel_rfl) (by kernel_rfl) (by kernel_rfl) ?yw65_73 ?rw65_73
                                      case yw65_73 =>
                                        refine StepS.call ?fw65_73 ?aw65_73 [] (by kernel_rfl) (by rfl) (fun w9 => ?hw65_73) (fun L9 m9 w9 hSh hAt hDn hS => ?cw65_73)
                                        case hw65_73 => go_simp; refine ⟨?_, ?_⟩ <;> rfl
                                        case cw65_73 =>
                                          have hT : Below w5.heap.size w5 w9 := hS
                                          refine (limit_any ⟨ses, next, ahead, buf, room, false⟩ (some ad) n c B m d w9 HLB.out (by dsimp only; omega) (by dsimp only; omega) (by dsimp only; omega) (by dsimp only; omega)).mono ?_
                                          rintro e w8 ⟨rfl, q8⟩
                                          exact ⟨by rw [HLIM.out], bl_ca hT q8⟩
                                      try simp only [Act.put, List.setIfInBounds_toArray, List.set_cons_zero, List.set_cons_succ]
                                      refine Ps.step (i := 9) (d := some 110) (u := ?uw65_74) rfl rfl (by kernel_rfl) (by kernel_rfl) (by kernel_rfl) (by kernel_rfl) ?yw65_74 ?rw65_74
                                      case yw65_74 =>
                                        refine StepS.pure (fun _ _ _ h => h) (by rfl) (fun w9 => ?_)
                                        go_simp
                                        try rfl
                                      try simp only [Act.put, List.setIfInBounds_toArray, List.set_cons_zero, List.set_cons_succ]
                                      refine Ps.step (i := 10) (d := some 111) (u := ?uw65_75) rfl rfl (by kernel_rfl) (by kernel_rfl) (by kernel_rfl) (by kernel_rfl) ?yw65_75 ?rw65_75
                                      case yw65_75 =>
                                        refine StepS.pure (fun _ _ _ h => h) (by rfl) (fun w9 => ?_)
                                        go_simp
                                        try rfl
                                      try simp only [Act.put, List.setIfInBounds_toArray, List.set_cons_zero, List.set_cons_succ]
                                      refine Ps.step (i := 11) (d := some 112) (u := ?uw65_76) rfl rfl (by kernel_rfl) (by kernel_rfl) (by kernel_rfl) (by kernel_rfl) ?yw65_76 ?rw65_76
                                      case yw65_76 =>
                                        refine StepS.pure (fun _ _ _ h => h) (by rfl) (fun w9 => ?_)
                                        go_simp
                                        try rfl
                                      try simp only [Act.put, List.setIfInBounds_toArray, List.set_cons_zero, List.set_cons_succ]
                                      refine Ps.step (i := 12) (d := some 113) (u := ?uw65_77) rfl rfl (by kernel_rfl) (by kernel_rfl) (by kernel_rfl) (by kernel_rfl) ?yw65_77 ?rw65_77
                                      case yw65_77 =>
                                        refine StepS.pure (fun _ _ _ h => h) (by rfl) (fun w9 => ?_)
                                        go_simp
                                        try rfl
                                      try simp only [Act.put, List.setIfInBounds_toArray, List.set_cons_zero, List.set_cons_succ]
                                      refine Ps.step (i := 13) (d := some 114) (u := ?uw65_78) rfl rfl (by kernel_rfl) (by kernel_rfl) (by kernel_rfl) (by kernel_rfl) ?yw65_78 ?rw65_78
                                      case yw65_78 =>
                                        refine StepS.read [] (by kernel_rfl) (fun _ _ _ h => h) (by rfl) (fun L9 m9 w9 hSh hAt hDn hS => ?_)
                                        have hT : Below w5.heap.size w5 w9 := hS
                                        have x1 : w9.cell? ⟨wr.heap.size, 1, none⟩ = some (.slice K kn kc) := (HF5.out.ca hT).cell 1
                                        have x2 : w9.cell? ⟨wr.heap.size, 2, none⟩ = some (.bool true) := (HF5.out.ca hT).cell 2
                                        have x3 : w9.cell? ⟨wr.heap.size, 3, none⟩ = some (.int .u64 cnt) := (HF5.out.ca hT).cell 3
                                        clear hT hS
                                        go_simp
                                        try rfl
                                      try simp only [Act.put, List.setIfInBounds_toArray, List.set_cons_zero, List.set_cons_succ]
                                      refine Ps.step (i := 14) (d := some 115) (u := ?uw65_79) rfl rfl (by kernel_rfl) (by kernel_rfl) (by kernel_rfl) (by kernel_rfl) ?yw65_79 ?rw65_79
                                      case yw65_79 =>
                                        refine StepS.pure (fun _ _ _ h => h) (by rfl) (fun w9 => ?_)
                                        go_simp
                                        try rfl
                                      try simp only [Act.put, List.setIfInBounds_toArray, List.set_cons_zero, List.set_cons_succ]
                                      refine Ps.step (i := 15) (d := some 116) (u := ?uw65_80) rfl rfl (by kernel_rfl) (by kernel_rfl) (by kernel_rfl) (by kernel_rfl) ?yw65_80 ?rw65_80
                                      case yw65_80 =>
                                        refine StepS.read [] (by kernel_rfl) (fun _ _ _ h => h) (by rfl) (fun L9 m9 w9 hSh hAt hDn hS => ?_)
                                        have hT : Below w5.heap.size w5 w9 := hS
                                        have x0 : w9.cell? ⟨wr.heap.size, 0, none⟩ = some (.int .u64 seq) := (HF5.out.ca hT).cell 0
                                        clear hT hS
                                        go_simp
                                        try rfl
                                      try simp only [Act.put, List.setIfInBounds_toArray, List.set_cons_zero, List.set_cons_succ]
                                      refine Ps.step (i := 16) (d := some 117) (u := (.bool true)) rfl rfl (by kernel_rfl) (by kernel_rfl) (by kernel_rfl) (by kernel_rfl) ?yw65_81 ?rw65_81
                                      case yw65_81 =>
                                        refine StepS.call ?fw65_81 ?aw65_81 [] (by kernel_rfl) (by rfl) (fun w9 => ?hw65_81) (fun L9 m9 w9 hSh hAt hDn hS => ?cw65_81)
                                        case hw65_81 => go_simp; refine ⟨?_, ?_⟩ <;> rfl
                                        case cw65_81 =>
                                          have hT : Below w5.heap.size w5 w9 := hS
                                          refine (batch_any Fr ⟨rows, true, cnt⟩ K kn kc seq w9 (Lay.rd_below HR5.out hT) hkn).mono ?_
                                          rintro e w8 ⟨rfl, q8⟩
                                          exact ⟨by rw [HQB.out], bl_ca hT q8⟩
                                      try simp only [Act.put, List.setIfInBounds_toArray, List.set_cons_zero, List.set_cons_succ]
                                      refine Ps.step (i := 17) (d := some 118) (u := ?uw65_82) rfl rfl (by kernel_rfl) (by kernel_rfl) (by kernel_rfl) (by kernel_rfl) ?yw65_82 ?rw65_82
                                      case yw65_82 =>
                                        refine StepS.pure (fun _ _ _ h => h) (by rfl) (fun w9 => ?_)
                                        go_simp
                                        try rfl
                                      try simp only [Act.put, List.setIfInBounds_toArray, List.set_cons_zero, List.set_cons_succ]
                                      refine Ps.step (i := 18) (d := some 119) (u := ?uw65_83) rfl rfl (by kernel_rfl) (by kernel_rfl) (by kernel_rfl) (by kernel_rfl) ?yw65_83 ?rw65_83
                                      case yw65_83 =>
                                        refine StepS.pure (fun _ _ _ h => h) (by rfl) (fun w9 => ?_)
                                        go_simp
                                        try rfl
                                      try simp only [Act.put, List.setIfInBounds_toArray, List.set_cons_zero, List.set_cons_succ]
                                      refine Ps.step (i := 19) (d := some 120) (u := ?uw65_84) rfl rfl (by kernel_rfl) (by kernel_rfl) (by kernel_rfl) (by kernel_rfl) ?yw65_84 ?rw65_84
                                      case yw65_84 =>
                                        refine StepS.pure (fun _ _ _ h => h) (by rfl) (fun w9 => ?_)
                                        go_simp
                                        try rfl
                                      try simp only [Act.put, List.setIfInBounds_toArray, List.set_cons_zero, List.set_cons_succ]
                                      refine Ps.step (i := 20) (d := some 121) (u := ?uw65_85) rfl rfl (by kernel_rfl) (by kernel_rfl) (by kernel_rfl) (by kernel_rfl) ?yw65_85 ?rw65_85
                                      case yw65_85 =>
                                        refine StepS.pure (fun _ _ _ h => h) (by rfl) (fun w9 => ?_)
                                        go_simp
                                        try rfl
                                      try simp only [Act.put, List.setIfInBounds_toArray, List.set_cons_zero, List.set_cons_succ]
                                      refine Ps.step (i := 21) (d := some 122) (u := ?uw65_86) rfl rfl (by kernel_rfl) (by kernel_rfl) (by kernel_rfl) (by kernel_rfl) ?yw65_86 ?rw65_86
                                      case yw65_86 =>
                                        refine StepS.pure (fun _ _ _ h => h) (by rfl) (fun w9 => ?_)
                                        go_simp
                                        try rfl
                                      try simp only [Act.put, List.setIfInBounds_toArray, List.set_cons_zero, List.set_cons_succ]
                                      refine Ps.step (i := 22) (d := some 123) (u := ?uw65_87) rfl rfl (by kernel_rfl) (by kernel_rfl) (by kernel_rfl) (by kernel_rfl) ?yw65_87 ?rw65_87
                                      case yw65_87 =>
                                        refine StepS.read [] (by kernel_rfl) (fun _ _ _ h => h) (by rfl) (fun L9 m9 w9 hSh hAt hDn hS => ?_)
                                        have hT : Below w5.heap.size w5 w9 := hS
                                        have x2 : w9.cell? ⟨wr.heap.size, 2, none⟩ = some (.bool true) := (HF5.out.ca hT).cell 2
                                        clear hT hS
                                        go_simp
                                        try rfl
                                      try simp only [Act.put, List.setIfInBounds_toArray, List.set_cons_zero, List.set_cons_succ]
                                      refine Ps.step (i := 23) (d := some 124) (u := ?uw65_88) rfl rfl (by kernel_rfl) (by kernel_rfl) (by kernel_rfl) (by kernel_rfl) ?yw65_88 ?rw65_88
                                      case yw65_88 =>
                                        refine StepS.pure (fun _ _ _ h => h) (by rfl) (fun w9 => ?_)
                                        go_simp
                                        try rfl
                                      try simp only [Act.put, List.setIfInBounds_toArray, List.set_cons_zero, List.set_cons_succ]
                                      refine Ps.step (i := 24) (d := some 125) (u := ?uw65_89) rfl rfl (by kernel_rfl) (by kernel_rfl) (by kernel_rfl) (by kernel_rfl) ?yw65_89 ?rw65_89
                                      case yw65_89 =>
                                        refine StepS.pure (fun _ _ _ h => h) (by rfl) (fun w9 => ?_)
                                        go_simp
                                        try rfl
                                      try simp only [Act.put, List.setIfInBounds_toArray, List.set_cons_zero, List.set_cons_succ]
                                      refine Ps.step (i := 25) (d := some 126) (u := ?uw65_90) rfl rfl (by kernel_rfl) (by kernel_rfl) (by kernel_rfl) (by kernel_rfl) ?yw65_90 ?rw65_90
                                      case yw65_90 =>
                                        refine StepS.pure (fun _ _ _ h => h) (by rfl) (fun w9 => ?_)
                                        go_simp
                                        try rfl
                                      try simp only [Act.put, List.setIfInBounds_toArray, List.set_cons_zero, List.set_cons_succ]
                                      refine Ps.step (i := 26) (d := some 127) (u := ?uw65_91) rfl rfl (by kernel_rfl) (by kernel_rfl) (by kernel_rfl) (by kernel_rfl) ?yw65_91 ?rw65_91
                                      case yw65_91 =>
                                        refine StepS.read [] (by kernel_rfl) (fun _ _ _ h => h) (by rfl) (fun L9 m9 w9 hSh hAt hDn hS => ?_)
                                        have hT : Below w5.heap.size w5 w9 := hS
                                        have x2 : w9.cell? ⟨w.heap.size, 2, none⟩ = some (.slice (some ad) n c) := (HB5.out.ca hT).cell 2
                                        clear hT hS
                                        go_simp
                                        try rfl
                                      try simp only [Act.put, List.setIfInBounds_toArray, List.set_cons_zero, List.set_cons_succ]
                                      refine Ps.step (i := 27) (d := some 128) (u := ?uw65_92) rfl rfl (by kernel_rfl) (by kernel_rfl) (by kernel_rfl) (by kernel_rfl) ?yw65_92 ?rw65_92
                                      case yw65_92 =>
                                        refine StepS.pure (fun _ _ _ h => h) (by rfl) (fun w9 => ?_)
                                        go_simp
                                        try rfl
                                      try simp only [Act.put, List.setIfInBounds_toArray, List.set_cons_zero, List.set_cons_succ]
                                      refine Ps.step (i := 28) (d := some 129) (u := ?uw65_93) rfl rfl (by kernel_rfl) (by kernel_rfl) (by kernel_rfl) (by kernel_rfl) ?yw65_93 ?rw65_93
                                      case yw65_93 =>
                                        refine StepS.pure (fun _ _ _ h => h) (by rfl) (fun w9 => ?_)
                                        go_simp
                                        try rfl
                                      try simp only [Act.put, List.setIfInBounds_toArray, List.set_cons_zero, List.set_cons_succ]
                                      refine Ps.step (i := 29) (d := some 130) (u := ?uw65_94) rfl rfl (by kernel_rfl) (by kernel_rfl) (by kernel_rfl) (by kernel_rfl) ?yw65_94 ?rw65_94
                                      case yw65_94 =>
                                        refine StepS.pure (fun _ _ _ h => h) (by rfl) (fun w9 => ?_)
                                        go_simp
                                        try rfl
                                      try simp only [Act.put, List.setIfInBounds_toArray, List.set_cons_zero, List.set_cons_succ]
                                      refine Ps.step (i := 30) (d := some 131) (u := ?uw65_95) rfl rfl (by kernel_rfl) (by kernel_rfl) (by kernel_rfl) (by kernel_rfl) ?yw65_95 ?rw65_95
                                      case yw65_95 =>
                                        refine StepS.pure (fun _ _ _ h => h) (by rfl) (fun w9 => ?_)
                                        go_simp
                                        try rfl
                                      try simp only [Act.put, List.setIfInBounds_toArray, List.set_cons_zero, List.set_cons_succ]
                                      refine Ps.step (i := 31) (d := some 132) (u := ?uw65_96) rfl rfl (by kernel_rfl) (by kernel_rfl) (by kernel_rfl) (by kernel_rfl) ?yw65_96 ?rw65_96
                                      case yw65_96 =>
                                        refine StepS.pure (fun _ _ _ h => h) (by rfl) (fun w9 => ?_)
                                        go_simp
                                        try rfl
                                      try simp only [Act.put, List.setIfInBounds_toArray, List.set_cons_zero, List.set_cons_succ]
                                      refine Ps.done (by kernel_rfl) (fun w65 hS => ?_) _
                                      have HQ := Lib.hid (show Below w5.heap.size w5 _ from hS)
                                      clear hS
                                      obtain ⟨w7, rfl⟩ : ∃ x, x = w65 := ⟨_, rfl⟩
                                      have x0 : w7.cell? ⟨wr.heap.size, 0, none⟩ = some (.int .u64 seq) := (HF5.out.ca HQ.out).cell 0
                                      go_wp2
                                      go_roundg (gk - 1)
                                      · exact ⟨i + 1, seq, by omega, rfl, by go_num, by rw [HI.out, HS.out, HZ1.out, HZ2.out, HQB.out, HLA.out, HZ4.out]; rfl, bl_ca (bl_ca HBR0.out HQ5.out) HQ.out⟩
                                      · omega
                                    · have d4 : decide ((i : Int) < (n : Int) - 1) = true := by simp; omega
                                      have HZ4 := Lib.hid (show decide (n ≤ i + 1) = false from by simp; omega)
                                      go_wp2_with fail
                                      have q5 := bl_al (Below.refl wr.heap.size wr) (.cells #[.int .u64 seq, .slice K kn kc, .bool true, .int .u64 cnt] 81)
                                      have HF5 := Lib.hid (Blk.new wr 81 #[.int .u64 seq, .slice K kn kc, .bool true, .int .u64 cnt])
                                      have HR5 := Lib.hid (Lay.rd_below HKR.out q5)
                                      have HB5 := Lib.hid (HBR.out.ca q5)
                                      have HBB5 := Lib.hid (bl_ca HBBR.out q5)
                                      have hw5 : wr.heap.size < (wr.alloc (.cells #[.int .u64 seq, .slice K kn kc, .bool true, .int .u64 cnt] 81)).heap.size := by simp only [World.size_alloc]; omega
                                      have HQ5 := Lib.hid q5
                                      clear q5 f0 f1 f2 f3
                                      generalize wr.alloc (.cells #[.int .u64 seq, .slice K kn kc, .bool true, .int .u64 cnt] 81) = w5 at *
                                      refine wp_region_ps (S := fun _ _ w' => Below w5.heap.size w5 w') (by kernel_rfl) ?spsw97 ?ppsw97
                                      case spsw97 =>
                                        exact (Below.refl _ _).drew
                                      refine Ps.step (i := 0) (d := some 101) (u := ?uw97_97) rfl rfl (by kernel_rfl) (by kernel_rfl) (by kernel_rfl) (by kernel_rfl) ?yw97_97 ?rw97_97
                                      case yw97_97 =>
                                        refine StepS.pure (fun _ _ _ h => h) (by rfl) (fun w9 => ?_)
                                        go_simp
                                        try rfl
                                      try simp only [Act.put, List.setIfInBounds_toArray, List.set_cons_zero, List.set_cons_succ]
                                      refine Ps.step (i := 1) (d := some 102) (u := ?uw97_98) rfl rfl (by kernel_rfl) (by kernel_rfl) (by kernel_rfl) (by kernel_rfl) ?yw97_98 ?rw97_98
                                      case yw97_98 =>
                                        refine StepS.read [] (by kernel_rfl) (fun _ _ _ h => h) (by rfl) (fun L9 m9 w9 hSh hAt hDn hS => ?_)
                                        have hT : Below w5.heap.size w5 w9 := hS
                                        have x0 : w9.cell? ⟨wr.heap.size, 0, none⟩ = some (.int .u64 seq) := (HF5.out.ca hT).cell 0
                                        clear hT hS
                                        go_simp
                                        try rfl
                                      try simp only [Act.put, List.setIfInBounds_toArray, List.set_cons_zero, List.set_cons_succ]
                                      refine Ps.step (i := 2) (d := some 103) (u := ?uw97_99) rfl rfl (by kernel_rfl) (by kernel_rfl) (by kernel_rfl) (by kernel_rfl) ?yw97_99 ?rw97_99
                                      case yw97_99 =>
                                        refine StepS.pure (fun _ _ _ h => h) (by rfl) (fun w9 => ?_)
                                        go_simp
                                        try rfl
                                      try simp only [Act.put, List.setIfInBounds_toArray, List.set_cons_zero, List.set_cons_succ]
                                      refine Ps.step (i := 3) (d := some 104) (u := ?uw97_100) rfl rfl (by kernel_rfl) (by kernel_rfl) (by kernel_rfl) (by kernel_rfl) ?yw97_100 ?rw97_100
                                      case yw97_100 =>
                                        refine StepS.pure (fun _ _ _ h => h) (by rfl) (fun w9 => ?_)
                                        go_simp
                                        try rfl
                                      try simp only [Act.put, List.setIfInBounds_toArray, List.set_cons_zero, List.set_cons_succ]
                                      refine Ps.step (i := 4) (d := some 105) (u := ?uw97_101) rfl rfl (by kernel_rfl) (by kernel_rfl) (by kernel_rfl) (by kernel_rfl) ?yw97_101 ?rw97_101
                                      case yw97_101 =>
                                        refine StepS.pure (fun _ _ _ h => h) (by rfl) (fun w9 => ?_)
                                        go_simp
                                        try rfl
                                      try simp only [Act.put, List.setIfInBounds_toArray, List.set_cons_zero, List.set_cons_succ]
                                      refine Ps.step (i := 5) (d := some 106) (u := ?uw97_102) rfl rfl (by kernel_rfl) (by kernel_rfl) (by kernel_rfl) (by kernel_rfl) ?yw97_102 ?rw97_102
                                      case yw97_102 =>
                                        refine StepS.pure (fun _ _ _ h => h) (by rfl) (fun w9 => ?_)
                                        go_simp
                                        try rfl
                                      try simp only [Act.put, List.setIfInBounds_toArray, List.set_cons_zero, List.set_cons_succ]
                                      refine Ps.step (i := 6) (d := some 107) (u := ?uw97_103) rfl rfl (by kernel_rfl) (by kernel_rfl) (by kernel_rfl) (by kernel_rfl) ?yw97_103 ?rw97_103
                                      case yw97_103 =>
                                        refine StepS.read [] (by kernel_rfl) (fun _ _ _ h => h) (by rfl) (fun L9 m9 w9 hSh hAt hDn hS => ?_)
                                        have hT : Below w5.heap.size w5 w9 := hS
                                        have x0 : w9.cell? ⟨wr.heap.size, 0, none⟩ = some (.int .u64 seq) := (HF5.out.ca hT).cell 0
                                        clear hT hS
                                        go_simp
                                        try rfl
                                      try simp only [Act.put, List.setIfInBounds_toArray, List.set_cons_zero, List.set_cons_succ]
                                      refine Ps.step (i := 7) (d := some 108) (u := ?uw97_104) rfl rfl (by kernel_rfl) (by kernel_rfl) (by kernel_rfl) (by kernel_rfl) ?yw97_104 ?rw97_104
                                      case yw97_104 =>
                                        refine StepS.read [] (by kernel_rfl) (fun _ _ _ h => h) (by rfl) (fun L9 m9 w9 hSh hAt hDn hS => ?_)
                                        have hT : Below w5.heap.size w5 w9 := hS
                                        have x0 : w9.cell? ⟨w.heap.size, 0, none⟩ = some (.int .u32 ses) := (HB5.out.ca hT).cell 0
                                        have x1 : w9.cell? ⟨w.heap.size, 1, none⟩ = some (.int .u64 next) := (HB5.out.ca hT).cell 1
                                        have x2 : w9.cell? ⟨w.heap.size, 2, none⟩ = some (.slice (some ad) n c) := (HB5.out.ca hT).cell 2
                                        have x3 : w9.cell? ⟨w.heap.size, 3, none⟩ = some (.slice B m d) := (HB5.out.ca hT).cell 3
                                        have x4 : w9.cell? ⟨w.heap.size, 4, none⟩ = some (.int .i64 room) := (HB5.out.ca hT).cell 4
                                        have x5 : w9.cell? ⟨w.heap.size, 5, none⟩ = some (.bool false) := (HB5.out.ca hT).cell 5
                                        clear hT hS
                                        go_simp
                                        try rfl
                                      try simp only [Act.put, List.setIfInBounds_toArray, List.set_cons_zero, List.set_cons_succ]
                                      refine Ps.step (i := 8) (d := some 109) (u := (.int .u64 lim)) rfl rfl (by kernel_rfl) (by kernel_rfl) (by kernel_rfl) (by kernel_rfl) ?yw97_105 ?rw97_105
                                      case yw97_105 =>
                                        refine StepS.call ?fw97_105 ?aw97_105 [] (by kernel_rfl) (by rfl) (fun w9 => ?hw97_105) (fun L9 m9 w9 hSh hAt hDn hS => ?cw97_105)
                                        case hw97_105 => go_simp; refine ⟨?_, ?_⟩ <;> rfl
                                        case cw97_105 =>
                                          have hT : Below w5.heap.size w5 w9 := hS
                                          refine (limit_any ⟨ses, next, ahead, buf, room, false⟩ (some ad) n c B m d w9 HLB.out (by dsimp only; omega) (by dsimp only; omega) (by dsimp only; omega) (by dsimp only; omega)).mono ?_
                                          rintro e w8 ⟨rfl, q8⟩
                                          exact ⟨by rw [HLIM.out], bl_ca hT q8⟩
                                      try simp only [Act.put, List.setIfInBounds_toArray, List.set_cons_zero, List.set_cons_succ]
                                      refine Ps.step (i := 9) (d := some 110) (u := ?uw97_106) rfl rfl (by kernel_rfl) (by kernel_rfl) (by kernel_rfl) (by kernel_rfl) ?yw97_106 ?rw97_106
                                      case yw97_106 =>
                                        refine StepS.pure (fun _ _ _ h => h) (by rfl) (fun w9 => ?_)
                                        go_simp
                                        try rfl
                                      try simp only [Act.put, List.setIfInBounds_toArray, List.set_cons_zero, List.set_cons_succ]
                                      refine Ps.step (i := 10) (d := some 111) (u := ?uw97_107) rfl rfl (by kernel_rfl) (by kernel_rfl) (by kernel_rfl) (by kernel_rfl) ?yw97_107 ?rw97_107
                                      case yw97_107 =>
                                        refine StepS.pure (fun _ _ _ h => h) (by rfl) (fun w9 => ?_)
                                        go_simp
                                        try rfl
                                      try simp only [Act.put, List.setIfInBounds_toArray, List.set_cons_zero, List.set_cons_succ]
                                      refine Ps.step (i := 11) (d := some 112) (u := ?uw97_108) rfl rfl (by kernel_rfl) (by kernel_rfl) (by kernel_rfl) (by kernel_rfl) ?yw97_108 ?rw97_108
                                      case yw97_108 =>
                                        refine StepS.pure (fun _ _ _ h => h) (by rfl) (fun w9 => ?_)
                                        go_simp
                                        try rfl
                                      try simp only [Act.put, List.setIfInBounds_toArray, List.set_cons_zero, List.set_cons_succ]
                                      refine Ps.step (i := 12) (d := some 113) (u := ?uw97_109) rfl rfl (by kernel_rfl) (by kernel_rfl) (by kernel_rfl) (by kernel_rfl) ?yw97_109 ?rw97_109
                                      case yw97_109 =>
                                        refine StepS.pure (fun _ _ _ h => h) (by rfl) (fun w9 => ?_)
                                        go_simp
                                        try rfl
                                      try simp only [Act.put, List.setIfInBounds_toArray, List.set_cons_zero, List.set_cons_succ]
                                      refine Ps.step (i := 13) (d := some 114) (u := ?uw97_110) rfl rfl (by kernel_rfl) (by kernel_rfl) (by kernel_rfl) (by kernel_rfl) ?yw97_110 ?rw97_110
                                      case yw97_110 =>
                                        refine StepS.read [] (by kernel_rfl) (fun _ _ _ h => h) (by rfl) (fun L9 m9 w9 hSh hAt hDn hS => ?_)
                                        have hT : Below w5.heap.size w5 w9 := hS
                                        have x1 : w9.cell? ⟨wr.heap.size, 1, none⟩ = some (.slice K kn kc) := (HF5.out.ca hT).cell 1
                                        have x2 : w9.cell? ⟨wr.heap.size, 2, none⟩ = some (.bool true) := (HF5.out.ca hT).cell 2
                                        have x3 : w9.cell? ⟨wr.heap.size, 3, none⟩ = some (.int .u64 cnt) := (HF5.out.ca hT).cell 3
                                        clear hT hS
                                        go_simp
                                        try rfl
                                      try simp only [Act.put, List.setIfInBounds_toArray, List.set_cons_zero, List.set_cons_succ]
                                      refine Ps.step (i := 14) (d := some 115) (u := ?uw97_111) rfl rfl (by kernel_rfl) (by kernel_rfl) (by kernel_rfl) (by kernel_rfl) ?yw97_111 ?rw97_111
                                      case yw97_111 =>
                                        refine StepS.pure (fun _ _ _ h => h) (by rfl) (fun w9 => ?_)
                                        go_simp
                                        try rfl
                                      try simp only [Act.put, List.setIfInBounds_toArray, List.set_cons_zero, List.set_cons_succ]
                                      refine Ps.step (i := 15) (d := some 116) (u := ?uw97_112) rfl rfl (by kernel_rfl) (by kernel_rfl) (by kernel_rfl) (by kernel_rfl) ?yw97_112 ?rw97_112
                                      case yw97_112 =>
                                        refine StepS.read [] (by kernel_rfl) (fun _ _ _ h => h) (by rfl) (fun L9 m9 w9 hSh hAt hDn hS => ?_)
                                        have hT : Below w5.heap.size w5 w9 := hS
                                        have x0 : w9.cell? ⟨wr.heap.size, 0, none⟩ = some (.int .u64 seq) := (HF5.out.ca hT).cell 0
                                        clear hT hS
                                        go_simp
                                        try rfl
                                      try simp only [Act.put, List.setIfInBounds_toArray, List.set_cons_zero, List.set_cons_succ]
                                      refine Ps.step (i := 16) (d := some 117) (u := (.bool true)) rfl rfl (by kernel_rfl) (by kernel_rfl) (by kernel_rfl) (by kernel_rfl) ?yw97_113 ?rw97_113
                                      case yw97_113 =>
                                        refine StepS.call ?fw97_113 ?aw97_113 [] (by kernel_rfl) (by rfl) (fun w9 => ?hw97_113) (fun L9 m9 w9 hSh hAt hDn hS => ?cw97_113)
                                        case hw97_113 => go_simp; refine ⟨?_, ?_⟩ <;> rfl
                                        case cw97_113 =>
                                          have hT : Below w5.heap.size w5 w9 := hS
                                          refine (batch_any Fr ⟨rows, true, cnt⟩ K kn kc seq w9 (Lay.rd_below HR5.out hT) hkn).mono ?_
                                          rintro e w8 ⟨rfl, q8⟩
                                          exact ⟨by rw [HQB.out], bl_ca hT q8⟩
                                      try simp only [Act.put, List.setIfInBounds_toArray, List.set_cons_zero, List.set_cons_succ]
                                      refine Ps.step (i := 17) (d := some 118) (u := ?uw97_114) rfl rfl (by kernel_rfl) (by kernel_rfl) (by kernel_rfl) (by kernel_rfl) ?yw97_114 ?rw97_114
                                      case yw97_114 =>
                                        refine StepS.pure (fun _ _ _ h => h) (by rfl) (fun w9 => ?_)
                                        go_simp
                                        try rfl
                                      try simp only [Act.put, List.setIfInBounds_toArray, List.set_cons_zero, List.set_cons_succ]
                                      refine Ps.step (i := 18) (d := some 119) (u := ?uw97_115) rfl rfl (by kernel_rfl) (by kernel_rfl) (by kernel_rfl) (by kernel_rfl) ?yw97_115 ?rw97_115
                                      case yw97_115 =>
                                        refine StepS.pure (fun _ _ _ h => h) (by rfl) (fun w9 => ?_)
                                        go_simp
                                        try rfl
                                      try simp only [Act.put, List.setIfInBounds_toArray, List.set_cons_zero, List.set_cons_succ]
                                      refine Ps.step (i := 19) (d := some 120) (u := ?uw97_116) rfl rfl (by kernel_rfl) (by kernel_rfl) (by kernel_rfl) (by kernel_rfl) ?yw97_116 ?rw97_116
                                      case yw97_116 =>
                                        refine StepS.pure (fun _ _ _ h => h) (by rfl) (fun w9 => ?_)
                                        go_simp
                                        try rfl
                                      try simp only [Act.put, List.setIfInBounds_toArray, List.set_cons_zero, List.set_cons_succ]
                                      refine Ps.step (i := 20) (d := some 121) (u := ?uw97_117) rfl rfl (by kernel_rfl) (by kernel_rfl) (by kernel_rfl) (by kernel_rfl) ?yw97_117 ?rw97_117
                                      case yw97_117 =>
                                        refine StepS.pure (fun _ _ _ h => h) (by rfl) (fun w9 => ?_)
                                        go_simp
                                        try rfl
                                      try simp only [Act.put, List.setIfInBounds_toArray, List.set_cons_zero, List.set_cons_succ]
                                      refine Ps.step (i := 21) (d := some 122) (u := ?uw97_118) rfl rfl (by kernel_rfl) (by kernel_rfl) (by kernel_rfl) (by kernel_rfl) ?yw97_118 ?rw97_118
                                      case yw97_118 =>
                                        refine StepS.pure (fun _ _ _ h => h) (by rfl) (fun w9 => ?_)
                                        go_simp
                                        try rfl
                                      try simp only [Act.put, List.setIfInBounds_toArray, List.set_cons_zero, List.set_cons_succ]
                                      refine Ps.step (i := 22) (d := some 123) (u := ?uw97_119) rfl rfl (by kernel_rfl) (by kernel_rfl) (by kernel_rfl) (by kernel_rfl) ?yw97_119 ?rw97_119
                                      case yw97_119 =>
                                        refine StepS.read [] (by kernel_rfl) (fun _ _ _ h => h) (by rfl) (fun L9 m9 w9 hSh hAt hDn hS => ?_)
                                        have hT : Below w5.heap.size w5 w9 := hS
                                        have x2 : w9.cell? ⟨wr.heap.size, 2, none⟩ = some (.bool true) := (HF5.out.ca hT).cell 2
                                        clear hT hS
                                        go_simp
                                        try rfl
                                      try simp only [Act.put, List.setIfInBounds_toArray, List.set_cons_zero, List.set_cons_succ]
                                      refine Ps.step (i := 23) (d := some 124) (u := ?uw97_120) rfl rfl (by kernel_rfl) (by kernel_rfl) (by kernel_rfl) (by kernel_rfl) ?yw97_120 ?rw97_120
                                      case yw97_120 =>
                                        refine StepS.pure (fun _ _ _ h => h) (by rfl) (fun w9 => ?_)
                                        go_simp
                                        try rfl
                                      try simp only [Act.put, List.setIfInBounds_toArray, List.set_cons_zero, List.set_cons_succ]
                                      refine Ps.step (i := 24) (d := some 125) (u := ?uw97_121) rfl rfl (by kernel_rfl) (by kernel_rfl) (by kernel_rfl) (by kernel_rfl) ?yw97_121 ?rw97_121
                                      case yw97_121 =>
                                        refine StepS.pure (fun _ _ _ h => h) (by rfl) (fun w9 => ?_)
                                        go_simp
                                        try rfl
                                      try simp only [Act.put, List.setIfInBounds_toArray, List.set_cons_zero, List.set_cons_succ]
                                      refine Ps.step (i := 25) (d := some 126) (u := ?uw97_122) rfl rfl (by kernel_rfl) (by kernel_rfl) (by kernel_rfl) (by kernel_rfl) ?yw97_122 ?rw97_122
                                      case yw97_122 =>
                                        refine StepS.pure (fun _ _ _ h => h) (by rfl) (fun w9 => ?_)
                                        go_simp
                                        try rfl
                                      try simp only [Act.put, List.setIfInBounds_toArray, List.set_cons_zero, List.set_cons_succ]
                                      refine Ps.step (i := 26) (d := some 127) (u := ?uw97_123) rfl rfl (by kernel_rfl) (by kernel_rfl) (by kernel_rfl) (by kernel_rfl) ?yw97_123 ?rw97_123
                                      case yw97_123 =>
                                        refine StepS.read [] (by kernel_rfl) (fun _ _ _ h => h) (by rfl) (fun L9 m9 w9 hSh hAt hDn hS => ?_)
                                        have hT : Below w5.heap.size w5 w9 := hS
                                        have x2 : w9.cell? ⟨w.heap.size, 2, none⟩ = some (.slice (some ad) n c) := (HB5.out.ca hT).cell 2
                                        clear hT hS
                                        go_simp
                                        try rfl
                                      try simp only [Act.put, List.setIfInBounds_toArray, List.set_cons_zero, List.set_cons_succ]
                                      refine Ps.step (i := 27) (d := some 128) (u := ?uw97_124) rfl rfl (by kernel_rfl) (by kernel_rfl) (by kernel_rfl) (by kernel_rfl) ?yw97_124 ?rw97_124
                                      case yw97_124 =>
                                        refine StepS.pure (fun _ _ _ h => h) (by rfl) (fun w9 => ?_)
                                        go_simp
                                        try rfl
                                      try simp only [Act.put, List.setIfInBounds_toArray, List.set_cons_zero, List.set_cons_succ]
                                      refine Ps.step (i := 28) (d := some 129) (u := ?uw97_125) rfl rfl (by kernel_rfl) (by kernel_rfl) (by kernel_rfl) (by kernel_rfl) ?yw97_125 ?rw97_125
                                      case yw97_125 =>
                                        refine StepS.pure (fun _ _ _ h => h) (by rfl) (fun w9 => ?_)
                                        go_simp
                                        try rfl
                                      try simp only [Act.put, List.setIfInBounds_toArray, List.set_cons_zero, List.set_cons_succ]
                                      refine Ps.step (i := 29) (d := some 130) (u := ?uw97_126) rfl rfl (by kernel_rfl) (by kernel_rfl) (by kernel_rfl) (by kernel_rfl) ?yw97_126 ?rw97_126
                                      case yw97_126 =>
                                        refine StepS.pure (fun _ _ _ h => h) (by rfl) (fun w9 => ?_)
                                        go_simp
                                        try rfl
                                      try simp only [Act.put, List.setIfInBounds_toArray, List.set_cons_zero, List.set_cons_succ]
                                      refine Ps.step (i := 30) (d := some 131) (u := ?uw97_127) rfl rfl (by kernel_rfl) (by kernel_rfl) (by kernel_rfl) (by kernel_rfl) ?yw97_127 ?rw97_127
                                      case yw97_127 =>
                                        refine StepS.pure (fun _ _ _ h => h) (by rfl) (fun w9 => ?_)
                                        go_simp
                                        try rfl
                                      try simp only [Act.put, List.setIfInBounds_toArray, List.set_cons_zero, List.set_cons_succ]
                                      refine Ps.step (i := 31) (d := some 132) (u := ?uw97_128) rfl rfl (by kernel_rfl) (by kernel_rfl) (by kernel_rfl) (by kernel_rfl) ?yw97_128 ?rw97_128
                                      case yw97_128 =>
                                        refine StepS.pure (fun _ _ _ h => h) (by rfl) (fun w9 => ?_)
                                        go_simp
                                        try rfl
                                      try simp only [Act.put, List.setIfInBounds_toArray, List.set_cons_zero, List.set_cons_succ]
                                      refine Ps.done (by kernel_rfl) (fun w97 hS => ?_) _
                                      have HQ := Lib.hid (show Below w5.heap.size w5 _ from hS)
                                      clear hS
                                      obtain ⟨w7, rfl⟩ : ∃ x, x = w97 := ⟨_, rfl⟩
                                      go_wp2
                                      go_ret
                                      exact ⟨ret_int (by rw [HRR.out, HGB.out, HI.out, HS.out, HZ1.out, HZ2.out, HQB.out, HLA.out, HZ4.out]; rfl), bl_ca HBB5.out HQ.out⟩
                              · have d2 : decide (lim < seq) = true := by simp; omega
                                have HZ2 := Lib.hid (show decide (seq ≤ lim) = false from by simp; omega)
                                go_wp2_with fail
                                have q5 := bl_al (Below.refl wr.heap.size wr) (.cells #[.int .u64 seq, .slice K kn kc, .bool fin, .int .u64 cnt] 81)
                                have HF5 := Lib.hid (Blk.new wr 81 #[.int .u64 seq, .slice K kn kc, .bool fin, .int .u64 cnt])
                                have HR5 := Lib.hid (Lay.rd_below HKR.out q5)
                                have HB5 := Lib.hid (HBR.out.ca q5)
                                have HBB5 := Lib.hid (bl_ca HBBR.out q5)
                                have hw5 : wr.heap.size < (wr.alloc (.cells #[.int .u64 seq, .slice K kn kc, .bool fin, .int .u64 cnt] 81)).heap.size := by simp only [World.size_alloc]; omega
                                have HQ5 := Lib.hid q5
                                clear q5 f0 f1 f2 f3
                                generalize wr.alloc (.cells #[.int .u64 seq, .slice K kn kc, .bool fin, .int .u64 cnt] 81) = w5 at *
                                refine wp_region_ps (S := fun _ _ w' => Below w5.heap.size w5 w') (by kernel_rfl) ?spsw129 ?ppsw129
                                case spsw129 =>
                                  exact (Below.refl _ _).drew
                                refine Ps.step (i := 0) (d := some 101) (u := ?uw129_129) rfl rfl (by kernel_rfl) (by kernel_rfl) (by kernel_rfl) (by kernel_rfl) ?yw129_129 ?rw129_129
                                case yw129_129 =>
                                  refine StepS.pure (fun _ _ _ h => h) (by rfl) (fun w9 => ?_)
                                  go_simp
                                  try rfl
                                try simp only [Act.put, List.setIfInBounds_toArray, List.set_cons_zero, List.set_cons_succ]
                                refine Ps.step (i := 1) (d := some 102) (u := ?uw129_130) rfl rfl (by kernel_rfl) (by kernel_rfl) (by kernel_rfl) (by kernel_rfl) ?yw129_130 ?rw129_130
                                case yw129_130 =>
                                  refine StepS.read [] (by kernel_rfl) (fun _ _ _ h => h) (by rfl) (fun L9 m9 w9 hSh hAt hDn hS => ?_)
                                  have hT : Below w5.heap.size w5 w9 := hS
                                  have x0 : w9.cell? ⟨wr.heap.size, 0, none⟩ = some (.int .u64 seq) := (HF5.out.ca hT).cell 0
                                  clear hT hS
                                  go_simp
                                  try rfl
                                try simp only [Act.put, List.setIfInBounds_toArray, List.set_cons_zero, List.set_cons_succ]
                                refine Ps.step (i := 2) (d := some 103) (u := ?uw129_131) rfl rfl (by kernel_rfl) (by kernel_rfl) (by kernel_rfl) (by kernel_rfl) ?yw129_131 ?rw129_131
                                case yw129_131 =>
                                  refine StepS.pure (fun _ _ _ h => h) (by rfl) (fun w9 => ?_)
                                  go_simp
                                  try rfl
                                try simp only [Act.put, List.setIfInBounds_toArray, List.set_cons_zero, List.set_cons_succ]
                                refine Ps.step (i := 3) (d := some 104) (u := ?uw129_132) rfl rfl (by kernel_rfl) (by kernel_rfl) (by kernel_rfl) (by kernel_rfl) ?yw129_132 ?rw129_132
                                case yw129_132 =>
                                  refine StepS.pure (fun _ _ _ h => h) (by rfl) (fun w9 => ?_)
                                  go_simp
                                  try rfl
                                try simp only [Act.put, List.setIfInBounds_toArray, List.set_cons_zero, List.set_cons_succ]
                                refine Ps.step (i := 4) (d := some 105) (u := ?uw129_133) rfl rfl (by kernel_rfl) (by kernel_rfl) (by kernel_rfl) (by kernel_rfl) ?yw129_133 ?rw129_133
                                case yw129_133 =>
                                  refine StepS.pure (fun _ _ _ h => h) (by rfl) (fun w9 => ?_)
                                  go_simp
                                  try rfl
                                try simp only [Act.put, List.setIfInBounds_toArray, List.set_cons_zero, List.set_cons_succ]
                                refine Ps.step (i := 5) (d := some 106) (u := ?uw129_134) rfl rfl (by kernel_rfl) (by kernel_rfl) (by kernel_rfl) (by kernel_rfl) ?yw129_134 ?rw129_134
                                case yw129_134 =>
                                  refine StepS.pure (fun _ _ _ h => h) (by rfl) (fun w9 => ?_)
                                  go_simp
                                  try rfl
                                try simp only [Act.put, List.setIfInBounds_toArray, List.set_cons_zero, List.set_cons_succ]
                                refine Ps.step (i := 6) (d := some 107) (u := ?uw129_135) rfl rfl (by kernel_rfl) (by kernel_rfl) (by kernel_rfl) (by kernel_rfl) ?yw129_135 ?rw129_135
                                case yw129_135 =>
                                  refine StepS.read [] (by kernel_rfl) (fun _ _ _ h => h) (by rfl) (fun L9 m9 w9 hSh hAt hDn hS => ?_)
                                  have hT : Below w5.heap.size w5 w9 := hS
                                  have x0 : w9.cell? ⟨wr.heap.size, 0, none⟩ = some (.int .u64 seq) := (HF5.out.ca hT).cell 0
                                  clear hT hS
                                  go_simp
                                  try rfl
                                try simp only [Act.put, List.setIfInBounds_toArray, List.set_cons_zero, List.set_cons_succ]
                                refine Ps.step (i := 7) (d := some 108) (u := ?uw129_136) rfl rfl (by kernel_rfl) (by kernel_rfl) (by kernel_rfl) (by kernel_rfl) ?yw129_136 ?rw129_136
                                case yw129_136 =>
                                  refine StepS.read [] (by kernel_rfl) (fun _ _ _ h => h) (by rfl) (fun L9 m9 w9 hSh hAt hDn hS => ?_)
                                  have hT : Below w5.heap.size w5 w9 := hS
                                  have x0 : w9.cell? ⟨w.heap.size, 0, none⟩ = some (.int .u32 ses) := (HB5.out.ca hT).cell 0
                                  have x1 : w9.cell? ⟨w.heap.size, 1, none⟩ = some (.int .u64 next) := (HB5.out.ca hT).cell 1
                                  have x2 : w9.cell? ⟨w.heap.size, 2, none⟩ = some (.slice (some ad) n c) := (HB5.out.ca hT).cell 2
                                  have x3 : w9.cell? ⟨w.heap.size, 3, none⟩ = some (.slice B m d) := (HB5.out.ca hT).cell 3
                                  have x4 : w9.cell? ⟨w.heap.size, 4, none⟩ = some (.int .i64 room) := (HB5.out.ca hT).cell 4
                                  have x5 : w9.cell? ⟨w.heap.size, 5, none⟩ = some (.bool false) := (HB5.out.ca hT).cell 5
                                  clear hT hS
                                  go_simp
                                  try rfl
                                try simp only [Act.put, List.setIfInBounds_toArray, List.set_cons_zero, List.set_cons_succ]
                                refine Ps.step (i := 8) (d := some 109) (u := (.int .u64 lim)) rfl rfl (by kernel_rfl) (by kernel_rfl) (by kernel_rfl) (by kernel_rfl) ?yw129_137 ?rw129_137
                                case yw129_137 =>
                                  refine StepS.call ?fw129_137 ?aw129_137 [] (by kernel_rfl) (by rfl) (fun w9 => ?hw129_137) (fun L9 m9 w9 hSh hAt hDn hS => ?cw129_137)
                                  case hw129_137 => go_simp; refine ⟨?_, ?_⟩ <;> rfl
                                  case cw129_137 =>
                                    have hT : Below w5.heap.size w5 w9 := hS
                                    refine (limit_any ⟨ses, next, ahead, buf, room, false⟩ (some ad) n c B m d w9 HLB.out (by dsimp only; omega) (by dsimp only; omega) (by dsimp only; omega) (by dsimp only; omega)).mono ?_
                                    rintro e w8 ⟨rfl, q8⟩
                                    exact ⟨by rw [HLIM.out], bl_ca hT q8⟩
                                try simp only [Act.put, List.setIfInBounds_toArray, List.set_cons_zero, List.set_cons_succ]
                                refine Ps.step (i := 9) (d := some 110) (u := ?uw129_138) rfl rfl (by kernel_rfl) (by kernel_rfl) (by kernel_rfl) (by kernel_rfl) ?yw129_138 ?rw129_138
                                case yw129_138 =>
                                  refine StepS.pure (fun _ _ _ h => h) (by rfl) (fun w9 => ?_)
                                  go_simp
                                  try rfl
                                try simp only [Act.put, List.setIfInBounds_toArray, List.set_cons_zero, List.set_cons_succ]
                                refine Ps.step (i := 10) (d := some 111) (u := ?uw129_139) rfl rfl (by kernel_rfl) (by kernel_rfl) (by kernel_rfl) (by kernel_rfl) ?yw129_139 ?rw129_139
                                case yw129_139 =>
                                  refine StepS.pure (fun _ _ _ h => h) (by rfl) (fun w9 => ?_)
                                  go_simp
                                  try rfl
                                try simp only [Act.put, List.setIfInBounds_toArray, List.set_cons_zero, List.set_cons_succ]
                                refine Ps.step (i := 11) (d := some 112) (u := ?uw129_140) rfl rfl (by kernel_rfl) (by kernel_rfl) (by kernel_rfl) (by kernel_rfl) ?yw129_140 ?rw129_140
                                case yw129_140 =>
                                  refine StepS.pure (fun _ _ _ h => h) (by rfl) (fun w9 => ?_)
                                  go_simp
                                  try rfl
                                try simp only [Act.put, List.setIfInBounds_toArray, List.set_cons_zero, List.set_cons_succ]
                                refine Ps.step (i := 12) (d := some 113) (u := undef) rfl rfl (by kernel_rfl) (by kernel_rfl) (by kernel_rfl) (by kernel_rfl) ?yw129_141 ?rw129_141
                                case yw129_141 =>
                                  exact StepS.skip (fun _ _ _ h => h) (by rfl)
                                try simp only [Act.put, List.setIfInBounds_toArray, List.set_cons_zero, List.set_cons_succ]
                                refine Ps.step (i := 13) (d := some 114) (u := undef) rfl rfl (by kernel_rfl) (by kernel_rfl) (by kernel_rfl) (by kernel_rfl) ?yw129_142 ?rw129_142
                                case yw129_142 =>
                                  exact StepS.skip (fun _ _ _ h => h) (by rfl)
                                try simp only [Act.put, List.setIfInBounds_toArray, List.set_cons_zero, List.set_cons_succ]
                                refine Ps.step (i := 14) (d := some 115) (u := undef) rfl rfl (by kernel_rfl) (by kernel_rfl) (by kernel_rfl) (by kernel_rfl) ?yw129_143 ?rw129_143
                                case yw129_143 =>
                                  exact StepS.skip (fun _ _ _ h => h) (by rfl)
                                try simp only [Act.put, List.setIfInBounds_toArray, List.set_cons_zero, List.set_cons_succ]
                                refine Ps.step (i := 15) (d := some 116) (u := undef) rfl rfl (by kernel_rfl) (by kernel_rfl) (by kernel_rfl) (by kernel_rfl) ?yw129_144 ?rw129_144
                                case yw129_144 =>
                                  exact StepS.skip (fun _ _ _ h => h) (by rfl)
                                try simp only [Act.put, List.setIfInBounds_toArray, List.set_cons_zero, List.set_cons_succ]
                                refine Ps.step (i := 16) (d := some 117) (u := undef) rfl rfl (by kernel_rfl) (by kernel_rfl) (by kernel_rfl) (by kernel_rfl) ?yw129_145 ?rw129_145
                                case yw129_145 =>
                                  exact StepS.skip (fun _ _ _ h => h) (by rfl)
                                try simp only [Act.put, List.setIfInBounds_toArray, List.set_cons_zero, List.set_cons_succ]
                                refine Ps.step (i := 17) (d := some 118) (u := undef) rfl rfl (by kernel_rfl) (by kernel_rfl) (by kernel_rfl) (by kernel_rfl) ?yw129_146 ?rw129_146
                                case yw129_146 =>
                                  exact StepS.skip (fun _ _ _ h => h) (by rfl)
                                try simp only [Act.put, List.setIfInBounds_toArray, List.set_cons_zero, List.set_cons_succ]
                                refine Ps.step (i := 18) (d := some 119) (u := ?uw129_147) rfl rfl (by kernel_rfl) (by kernel_rfl) (by kernel_rfl) (by kernel_rfl) ?yw129_147 ?rw129_147
                                case yw129_147 =>
                                  refine StepS.pure (fun _ _ _ h => h) (by rfl) (fun w9 => ?_)
                                  go_simp
                                  try rfl
                                try simp only [Act.put, List.setIfInBounds_toArray, List.set_cons_zero, List.set_cons_succ]
                                refine Ps.step (i := 19) (d := some 120) (u := ?uw129_148) rfl rfl (by kernel_rfl) (by kernel_rfl) (by kernel_rfl) (by kernel_rfl) ?yw129_148 ?rw129_148
                                case yw129_148 =>
                                  refine StepS.pure (fun _ _ _ h => h) (by rfl) (fun w9 => ?_)
                                  go_simp
                                  try rfl
                                try simp only [Act.put, List.setIfInBounds_toArray, List.set_cons_zero, List.set_cons_succ]
                                refine Ps.step (i := 20) (d := some 121) (u := undef) rfl rfl (by kernel_rfl) (by kernel_rfl) (by kernel_rfl) (by kernel_rfl) ?yw129_149 ?rw129_149
                                case yw129_149 =>
                                  exact StepS.skip (fun _ _ _ h => h) (by rfl)
                                try simp only [Act.put, List.setIfInBounds_toArray, List.set_cons_zero, List.set_cons_succ]
                                refine Ps.step (i := 21) (d := some 122) (u := undef) rfl rfl (by kernel_rfl) (by kernel_rfl) (by kernel_rfl) (by kernel_rfl) ?yw129_150 ?rw129_150
                                case yw129_150 =>
                                  exact StepS.skip (fun _ _ _ h => h) (by rfl)
                                try simp only [Act.put, List.setIfInBounds_toArray, List.set_cons_zero, List.set_cons_succ]
                                refine Ps.step (i := 22) (d := some 123) (u := undef) rfl rfl (by kernel_rfl) (by kernel_rfl) (by kernel_rfl) (by kernel_rfl) ?yw129_151 ?rw129_151
                                case yw129_151 =>
                                  exact StepS.skip (fun _ _ _ h => h) (by rfl)
                                try simp only [Act.put, List.setIfInBounds_toArray, List.set_cons_zero, List.set_cons_succ]
                                refine Ps.step (i := 23) (d := some 124) (u := undef) rfl rfl (by kernel_rfl) (by kernel_rfl) (by kernel_rfl) (by kernel_rfl) ?yw129_152 ?rw129_152
                                case yw129_152 =>
                                  exact StepS.skip (fun _ _ _ h => h) (by rfl)
                                try simp only [Act.put, List.setIfInBounds_toArray, List.set_cons_zero, List.set_cons_succ]
                                refine Ps.step (i := 24) (d := some 125) (u := undef) rfl rfl (by kernel_rfl) (by kernel_rfl) (by kernel_rfl) (by kernel_rfl) ?yw129_153 ?rw129_153
                                case yw129_153 =>
                                  exact StepS.skip (fun _ _ _ h => h) (by rfl)
                                try simp only [Act.put, List.setIfInBounds_toArray, List.set_cons_zero, List.set_cons_succ]
                                refine Ps.step (i := 25) (d := some 126) (u := undef) rfl rfl (by kernel_rfl) (by kernel_rfl) (by kernel_rfl) (by kernel_rfl) ?yw129_154 ?rw129_154
                                case yw129_154 =>
                                  exact StepS.skip (fun _ _ _ h => h) (by rfl)
                                try simp only [Act.put, List.setIfInBounds_toArray, List.set_cons_zero, List.set_cons_succ]
                                refine Ps.step (i := 26) (d := some 127) (u := undef) rfl rfl (by kernel_rfl) (by kernel_rfl) (by kernel_rfl) (by kernel_rfl) ?yw129_155 ?rw129_155
                                case yw129_155 =>
                                  exact StepS.skip (fun _ _ _ h => h) (by rfl)
                                try simp only [Act.put, List.setIfInBounds_toArray, List.set_cons_zero, List.set_cons_succ]
                                refine Ps.step (i := 27) (d := some 128) (u := undef) rfl rfl (by kernel_rfl) (by kernel_rfl) (by kernel_rfl) (by kernel_rfl) ?yw129_156 ?rw129_156
                                case yw129_156 =>
                                  exact StepS.skip (fun _ _ _ h => h) (by rfl)
                                try simp only [Act.put, List.setIfInBounds_toArray, List.set_cons_zero, List.set_cons_succ]
                                refine Ps.step (i := 28) (d := some 129) (u := undef) rfl rfl (by kernel_rfl) (by kernel_rfl) (by kernel_rfl) (by kernel_rfl) ?yw129_157 ?rw129_157
                                case yw129_157 =>
                                  exact StepS.skip (fun _ _ _ h => h) (by rfl)
                                try simp only [Act.put, List.setIfInBounds_toArray, List.set_cons_zero, List.set_cons_succ]
                                refine Ps.step (i := 29) (d := some 130) (u := undef) rfl rfl (by kernel_rfl) (by kernel_rfl) (by kernel_rfl) (by kernel_rfl) ?yw129_158 ?rw129_158
                                case yw129_158 =>
                                  exact StepS.skip (fun _ _ _ h => h) (by rfl)
                                try simp only [Act.put, List.setIfInBounds_toArray, List.set_cons_zero, List.set_cons_succ]
                                refine Ps.step (i := 30) (d := some 131) (u := undef) rfl rfl (by kernel_rfl) (by kernel_rfl) (by kernel_rfl) (by kernel_rfl) ?yw129_159 ?rw129_159
                                case yw129_159 =>
                                  exact StepS.skip (fun _ _ _ h => h) (by rfl)
                                try simp only [Act.put, List.setIfInBounds_toArray, List.set_cons_zero, List.set_cons_succ]
                                refine Ps.step (i := 31) (d := some 132) (u := ?uw129_160) rfl rfl (by kernel_rfl) (by kernel_rfl) (by kernel_rfl) (by kernel_rfl) ?yw129_160 ?rw129_160
                                case yw129_160 =>
                                  refine StepS.pure (fun _ _ _ h => h) (by rfl) (fun w9 => ?_)
                                  go_simp
                                  try rfl
                                try simp only [Act.put, List.setIfInBounds_toArray, List.set_cons_zero, List.set_cons_succ]
                                refine Ps.done (by kernel_rfl) (fun w129 hS => ?_) _
                                have HQ := Lib.hid (show Below w5.heap.size w5 _ from hS)
                                clear hS
                                obtain ⟨w7, rfl⟩ : ∃ x, x = w129 := ⟨_, rfl⟩
                                go_wp2
                                go_ret
                                exact ⟨ret_int (by rw [HRR.out, HGB.out, HI.out, HS.out, HZ1.out, HZ2.out]; rfl), bl_ca HBB5.out HQ.out⟩
                            · have d1 : decide (seq ≤ at_) = true := by simp; omega
                              have HZ1 := Lib.hid (show decide (at_ < seq) = false from by simp; omega)
                              go_wp2_with fail
                              have q5 := bl_al (Below.refl wr.heap.size wr) (.cells #[.int .u64 seq, .slice K kn kc, .bool fin, .int .u64 cnt] 81)
                              have HF5 := Lib.hid (Blk.new wr 81 #[.int .u64 seq, .slice K kn kc, .bool fin, .int .u64 cnt])
                              have HR5 := Lib.hid (Lay.rd_below HKR.out q5)
                              have HB5 := Lib.hid (HBR.out.ca q5)
                              have HBB5 := Lib.hid (bl_ca HBBR.out q5)
                              have hw5 : wr.heap.size < (wr.alloc (.cells #[.int .u64 seq, .slice K kn kc, .bool fin, .int .u64 cnt] 81)).heap.size := by simp only [World.size_alloc]; omega
                              have HQ5 := Lib.hid q5
                              clear q5 f0 f1 f2 f3
                              generalize wr.alloc (.cells #[.int .u64 seq, .slice K kn kc, .bool fin, .int .u64 cnt] 81) = w5 at *
                              refine wp_region_ps (S := fun _ _ w' => Below w5.heap.size w5 w') (by kernel_rfl) ?spsw161 ?ppsw161
                              case spsw161 =>
                                exact (Below.refl _ _).drew
                              refine Ps.step (i := 0) (d := some 101) (u := ?uw161_161) rfl rfl (by kernel_rfl) (by kernel_rfl) (by kernel_rfl) (by kernel_rfl) ?yw161_161 ?rw161_161
                              case yw161_161 =>
                                refine StepS.pure (fun _ _ _ h => h) (by rfl) (fun w9 => ?_)
                                go_simp
                                try rfl
                              try simp only [Act.put, List.setIfInBounds_toArray, List.set_cons_zero, List.set_cons_succ]
                              refine Ps.step (i := 1) (d := some 102) (u := ?uw161_162) rfl rfl (by kernel_rfl) (by kernel_rfl) (by kernel_rfl) (by kernel_rfl) ?yw161_162 ?rw161_162
                              case yw161_162 =>
                                refine StepS.read [] (by kernel_rfl) (fun _ _ _ h => h) (by rfl) (fun L9 m9 w9 hSh hAt hDn hS => ?_)
                                have hT : Below w5.heap.size w5 w9 := hS
                                have x0 : w9.cell? ⟨wr.heap.size, 0, none⟩ = some (.int .u64 seq) := (HF5.out.ca hT).cell 0
                                clear hT hS
                                go_simp
                                try rfl
                              try simp only [Act.put, List.setIfInBounds_toArray, List.set_cons_zero, List.set_cons_succ]
                              refine Ps.step (i := 2) (d := some 103) (u := ?uw161_163) rfl rfl (by kernel_rfl) (by kernel_rfl) (by kernel_rfl) (by kernel_rfl) ?yw161_163 ?rw161_163
                              case yw161_163 =>
                                refine StepS.pure (fun _ _ _ h => h) (by rfl) (fun w9 => ?_)
                                go_simp
                                try rfl
                              try simp only [Act.put, List.setIfInBounds_toArray, List.set_cons_zero, List.set_cons_succ]
                              refine Ps.step (i := 3) (d := some 104) (u := ?uw161_164) rfl rfl (by kernel_rfl) (by kernel_rfl) (by kernel_rfl) (by kernel_rfl) ?yw161_164 ?rw161_164
                              case yw161_164 =>
                                refine StepS.pure (fun _ _ _ h => h) (by rfl) (fun w9 => ?_)
                                go_simp
                                try rfl
                              try simp only [Act.put, List.setIfInBounds_toArray, List.set_cons_zero, List.set_cons_succ]
                              refine Ps.step (i := 4) (d := some 105) (u := ?uw161_165) rfl rfl (by kernel_rfl) (by kernel_rfl) (by kernel_rfl) (by kernel_rfl) ?yw161_165 ?rw161_165
                              case yw161_165 =>
                                refine StepS.pure (fun _ _ _ h => h) (by rfl) (fun w9 => ?_)
                                go_simp
                                try rfl
                              try simp only [Act.put, List.setIfInBounds_toArray, List.set_cons_zero, List.set_cons_succ]
                              refine Ps.step (i := 5) (d := some 106) (u := undef) rfl rfl (by kernel_rfl) (by kernel_rfl) (by kernel_rfl) (by kernel_rfl) ?yw161_166 ?rw161_166
                              case yw161_166 =>
                                exact StepS.skip (fun _ _ _ h => h) (by rfl)
                              try simp only [Act.put, List.setIfInBounds_toArray, List.set_cons_zero, List.set_cons_succ]
                              refine Ps.step (i := 6) (d := some 107) (u := undef) rfl rfl (by kernel_rfl) (by kernel_rfl) (by kernel_rfl) (by kernel_rfl) ?yw161_167 ?rw161_167
                              case yw161_167 =>
                                exact StepS.skip (fun _ _ _ h => h) (by rfl)
                              try simp only [Act.put, List.setIfInBounds_toArray, List.set_cons_zero, List.set_cons_succ]
                              refine Ps.step (i := 7) (d := some 108) (u := undef) rfl rfl (by kernel_rfl) (by kernel_rfl) (by kernel_rfl) (by kernel_rfl) ?yw161_168 ?rw161_168
                              case yw161_168 =>
                                exact StepS.skip (fun _ _ _ h => h) (by rfl)
                              try simp only [Act.put, List.setIfInBounds_toArray, List.set_cons_zero, List.set_cons_succ]
                              refine Ps.step (i := 8) (d := some 109) (u := undef) rfl rfl (by kernel_rfl) (by kernel_rfl) (by kernel_rfl) (by kernel_rfl) ?yw161_169 ?rw161_169
                              case yw161_169 =>
                                exact StepS.skip (fun _ _ _ h => h) (by rfl)
                              try simp only [Act.put, List.setIfInBounds_toArray, List.set_cons_zero, List.set_cons_succ]
                              refine Ps.step (i := 9) (d := some 110) (u := undef) rfl rfl (by kernel_rfl) (by kernel_rfl) (by kernel_rfl) (by kernel_rfl) ?yw161_170 ?rw161_170
                              case yw161_170 =>
                                exact StepS.skip (fun _ _ _ h => h) (by rfl)
                              try simp only [Act.put, List.setIfInBounds_toArray, List.set_cons_zero, List.set_cons_succ]
                              refine Ps.step (i := 10) (d := some 111) (u := ?uw161_171) rfl rfl (by kernel_rfl) (by kernel_rfl) (by kernel_rfl) (by kernel_rfl) ?yw161_171 ?rw161_171
                              case yw161_171 =>
                                refine StepS.pure (fun _ _ _ h => h) (by rfl) (fun w9 => ?_)
                                go_simp
                                try rfl
                              try simp only [Act.put, List.setIfInBounds_toArray, List.set_cons_zero, List.set_cons_succ]
                              refine Ps.step (i := 11) (d := some 112) (u := ?uw161_172) rfl rfl (by kernel_rfl) (by kernel_rfl) (by kernel_rfl) (by kernel_rfl) ?yw161_172 ?rw161_172
                              case yw161_172 =>
                                refine StepS.pure (fun _ _ _ h => h) (by rfl) (fun w9 => ?_)
                                go_simp
                                try rfl
                              try simp only [Act.put, List.setIfInBounds_toArray, List.set_cons_zero, List.set_cons_succ]
                              refine Ps.step (i := 12) (d := some 113) (u := undef) rfl rfl (by kernel_rfl) (by kernel_rfl) (by kernel_rfl) (by kernel_rfl) ?yw161_173 ?rw161_173
                              case yw161_173 =>
                                exact StepS.skip (fun _ _ _ h => h) (by rfl)
                              try simp only [Act.put, List.setIfInBounds_toArray, List.set_cons_zero, List.set_cons_succ]
                              refine Ps.step (i := 13) (d := some 114) (u := undef) rfl rfl (by kernel_rfl) (by kernel_rfl) (by kernel_rfl) (by kernel_rfl) ?yw161_174 ?rw161_174
                              case yw161_174 =>
                                exact StepS.skip (fun _ _ _ h => h) (by rfl)
                              try simp only [Act.put, List.setIfInBounds_toArray, List.set_cons_zero, List.set_cons_succ]
                              refine Ps.step (i := 14) (d := some 115) (u := undef) rfl rfl (by kernel_rfl) (by kernel_rfl) (by kernel_rfl) (by kernel_rfl) ?yw161_175 ?rw161_175
                              case yw161_175 =>
                                exact StepS.skip (fun _ _ _ h => h) (by rfl)
                              try simp only [Act.put, List.setIfInBounds_toArray, List.set_cons_zero, List.set_cons_succ]
                              refine Ps.step (i := 15) (d := some 116) (u := undef) rfl rfl (by kernel_rfl) (by kernel_rfl) (by kernel_rfl) (by kernel_rfl) ?yw161_176 ?rw161_176
                              case yw161_176 =>
                                exact StepS.skip (fun _ _ _ h => h) (by rfl)
                              try simp only [Act.put, List.setIfInBounds_toArray, List.set_cons_zero, List.set_cons_succ]
                              refine Ps.step (i := 16) (d := some 117) (u := undef) rfl rfl (by kernel_rfl) (by kernel_rfl) (by kernel_rfl) (by kernel_rfl) ?yw161_177 ?rw161_177
                              case yw161_177 =>
                                exact StepS.skip (fun _ _ _ h => h) (by rfl)
                              try simp only [Act.put, List.setIfInBounds_toArray, List.set_cons_zero, List.set_cons_succ]
                              refine Ps.step (i := 17) (d := some 118) (u := undef) rfl rfl (by kernel_rfl) (by kernel_rfl) (by kernel_rfl) (by kernel_rfl) ?yw161_178 ?rw161_178
                              case yw161_178 =>
                                exact StepS.skip (fun _ _ _ h => h) (by rfl)
                              try simp only [Act.put, List.setIfInBounds_toArray, List.set_cons_zero, List.set_cons_succ]
                              refine Ps.step (i := 18) (d := some 119) (u := ?uw161_179) rfl rfl (by kernel_rfl) (by kernel_rfl) (by kernel_rfl) (by kernel_rfl) ?yw161_179 ?rw161_179
                              case yw161_179 =>
                                refine StepS.pure (fun _ _ _ h => h) (by rfl) (fun w9 => ?_)
                                go_simp
                                try rfl
                              try simp only [Act.put, List.setIfInBounds_toArray, List.set_cons_zero, List.set_cons_succ]
                              refine Ps.step (i := 19) (d := some 120) (u := ?uw161_180) rfl rfl (by kernel_rfl) (by kernel_rfl) (by kernel_rfl) (by kernel_rfl) ?yw161_180 ?rw161_180
                              case yw161_180 =>
                                refine StepS.pure (fun _ _ _ h => h) (by rfl) (fun w9 => ?_)
                                go_simp
                                try rfl
                              try simp only [Act.put, List.setIfInBounds_toArray, List.set_cons_zero, List.set_cons_succ]
                              refine Ps.step (i := 20) (d := some 121) (u := undef) rfl rfl (by kernel_rfl) (by kernel_rfl) (by kernel_rfl) (by kernel_rfl) ?yw161_181 ?rw161_181
                              case yw161_181 =>
                                exact StepS.skip (fun _ _ _ h => h) (by rfl)
                              try simp only [Act.put, List.setIfInBounds_toArray, List.set_cons_zero, List.set_cons_succ]
                              refine Ps.step (i := 21) (d := some 122) (u := undef) rfl rfl (by kernel_rfl) (by kernel_rfl) (by kernel_rfl) (by kernel_rfl) ?yw161_182 ?rw161_182
                              case yw161_182 =>
                                exact StepS.skip (fun _ _ _ h => h) (by rfl)
                              try simp only [Act.put, List.setIfInBounds_toArray, List.set_cons_zero, List.set_cons_succ]
                              refine Ps.step (i := 22) (d := some 123) (u := undef) rfl rfl (by kernel_rfl) (by kernel_rfl) (by kernel_rfl) (by kernel_rfl) ?yw161_183 ?rw161_183
                              case yw161_183 =>
                                exact StepS.skip (fun _ _ _ h => h) (by rfl)
                              try simp only [Act.put, List.setIfInBounds_toArray, List.set_cons_zero, List.set_cons_succ]
                              refine Ps.step (i := 23) (d := some 124) (u := undef) rfl rfl (by kernel_rfl) (by kernel_rfl) (by kernel_rfl) (by kernel_rfl) ?yw161_184 ?rw161_184
                              case yw161_184 =>
                                exact StepS.skip (fun _ _ _ h => h) (by rfl)
                              try simp only [Act.put, List.setIfInBounds_toArray, List.set_cons_zero, List.set_cons_succ]
                              refine Ps.step (i := 24) (d := some 125) (u := undef) rfl rfl (by kernel_rfl) (by kernel_rfl) (by kernel_rfl) (by kernel_rfl) ?yw161_185 ?rw161_185
                              case yw161_185 =>
                                exact StepS.skip (fun _ _ _ h => h) (by rfl)
                              try simp only [Act.put, List.setIfInBounds_toArray, List.set_cons_zero, List.set_cons_succ]
                              refine Ps.step (i := 25) (d := some 126) (u := undef) rfl rfl (by kernel_rfl) (by kernel_rfl) (by kernel_rfl) (by kernel_rfl) ?yw161_186 ?rw161_186
                              case yw161_186 =>
                                exact StepS.skip (fun _ _ _ h => h) (by rfl)
                              try simp only [Act.put, List.setIfInBounds_toArray, List.set_cons_zero, List.set_cons_succ]
                              refine Ps.step (i := 26) (d := some 127) (u := undef) rfl rfl (by kernel_rfl) (by kernel_rfl) (by kernel_rfl) (by kernel_rfl) ?yw161_187 ?rw161_187
                              case yw161_187 =>
                                exact StepS.skip (fun _ _ _ h => h) (by rfl)
                              try simp only [Act.put, List.setIfInBounds_toArray, List.set_cons_zero, List.set_cons_succ]
                              refine Ps.step (i := 27) (d := some 128) (u := undef) rfl rfl (by kernel_rfl) (by kernel_rfl) (by kernel_rfl) (by kernel_rfl) ?yw161_188 ?rw161_188
                              case yw161_188 =>
                                exact StepS.skip (fun _ _ _ h => h) (by rfl)
                              try simp only [Act.put, List.setIfInBounds_toArray, List.set_cons_zero, List.set_cons_succ]
                              refine Ps.step (i := 28) (d := some 129) (u := undef) rfl rfl (by kernel_rfl) (by kernel_rfl) (by kernel_rfl) (by kernel_rfl) ?yw161_189 ?rw161_189
                              case yw161_189 =>
                                exact StepS.skip (fun _ _ _ h => h) (by rfl)
                              try simp only [Act.put, List.setIfInBounds_toArray, List.set_cons_zero, List.set_cons_succ]
                              refine Ps.step (i := 29) (d := some 130) (u := undef) rfl rfl (by kernel_rfl) (by kernel_rfl) (by kernel_rfl) (by kernel_rfl) ?yw161_190 ?rw161_190
                              case yw161_190 =>
                                exact StepS.skip (fun _ _ _ h => h) (by rfl)
                              try simp only [Act.put, List.setIfInBounds_toArray, List.set_cons_zero, List.set_cons_succ]
                              refine Ps.step (i := 30) (d := some 131) (u := undef) rfl rfl (by kernel_rfl) (by kernel_rfl) (by kernel_rfl) (by kernel_rfl) ?yw161_191 ?rw161_191
                              case yw161_191 =>
                                exact StepS.skip (fun _ _ _ h => h) (by rfl)
                              try simp only [Act.put, List.setIfInBounds_toArray, List.set_cons_zero, List.set_cons_succ]
                              refine Ps.step (i := 31) (d := some 132) (u := ?uw161_192) rfl rfl (by kernel_rfl) (by kernel_rfl) (by kernel_rfl) (by kernel_rfl) ?yw161_192 ?rw161_192
                              case yw161_192 =>
                                refine StepS.pure (fun _ _ _ h => h) (by rfl) (fun w9 => ?_)
                                go_simp
                                try rfl
                              try simp only [Act.put, List.setIfInBounds_toArray, List.set_cons_zero, List.set_cons_succ]
                              refine Ps.done (by kernel_rfl) (fun w161 hS => ?_) _
                              have HQ := Lib.hid (show Below w5.heap.size w5 _ from hS)
                              clear hS
                              obtain ⟨w7, rfl⟩ : ∃ x, x = w161 := ⟨_, rfl⟩
                              go_wp2
                              go_ret
                              exact ⟨ret_int (by rw [HRR.out, HGB.out, HI.out, HS.out, HZ1.out]; rfl), bl_ca HBB5.out HQ.out⟩
                          · obtain rfl : i = n := by omega
                            have hi1 : (i : Int) ≤ (i : Int) := by omega
                            clear bb
                            go_wp2
                            go_ret
                            exact ⟨ret_int (by rw [HRR.out, HGB.out, HI.out, List.drop_of_length_le (by rw [HLA.out]; exact Nat.le_refl _)]; rfl), HBBR.out⟩
                      · by_cases m0 : m = 0
                        · have mp : decide ((0 : Int) < (m : Int)) = false := by simp; omega
                          have HM0 := Lib.hid m0
                          clear m0
                          have HF := Lib.hid (show recB ⟨ses, next, ahead, buf, room, true⟩ = false from by unfold recB; rw [show recT ⟨ses, next, ahead, buf, room, true⟩ = false from by unfold recT; simp [HLA.out, n0]]; simp)
                          have b1 := bl_al (Below.refl w.heap.size w) (.cells #[.int .u32 ses, .int .u64 next, .slice A n c, .slice B m d, .int .i64 room, .bool true] 36)
                          have HB := Lib.hid (Blk.new w 36 #[.int .u32 ses, .int .u64 next, .slice A n c, .slice B m d, .int .i64 room, .bool true])
                          have HRA := Lib.hid (Lay.rd_below HA.out b1)
                          have HRB := Lib.hid (Lay.rd_below HBU.out b1)
                          have HBB := Lib.hid b1
                          have hw1 : w.heap.size < (w.alloc (.cells #[.int .u32 ses, .int .u64 next, .slice A n c, .slice B m d, .int .i64 room, .bool true] 36)).heap.size := by simp only [World.size_alloc]; omega
                          have HIN := Lib.hid (inRow_any F2 B m d buf (next - ((m : Nat) : Int)) _ HRB.out (by omega) (by omega) (by omega))
                          rw [hin] at HIN
                          clear b1
                          have x0 : (w.alloc (.cells #[.int .u32 ses, .int .u64 next, .slice A n c, .slice B m d, .int .i64 room, .bool true] 36)).cell? ⟨w.heap.size, 0, none⟩ = some (.int .u32 ses) := HB.out.cell 0
                          have x1 : (w.alloc (.cells #[.int .u32 ses, .int .u64 next, .slice A n c, .slice B m d, .int .i64 room, .bool true] 36)).cell? ⟨w.heap.size, 1, none⟩ = some (.int .u64 next) := HB.out.cell 1
                          have x2 : (w.alloc (.cells #[.int .u32 ses, .int .u64 next, .slice A n c, .slice B m d, .int .i64 room, .bool true] 36)).cell? ⟨w.heap.size, 2, none⟩ = some (.slice A n c) := HB.out.cell 2
                          have x3 : (w.alloc (.cells #[.int .u32 ses, .int .u64 next, .slice A n c, .slice B m d, .int .i64 room, .bool true] 36)).cell? ⟨w.heap.size, 3, none⟩ = some (.slice B m d) := HB.out.cell 3
                          have x4 : (w.alloc (.cells #[.int .u32 ses, .int .u64 next, .slice A n c, .slice B m d, .int .i64 room, .bool true] 36)).cell? ⟨w.heap.size, 4, none⟩ = some (.int .i64 room) := HB.out.cell 4
                          have x5 : (w.alloc (.cells #[.int .u32 ses, .int .u64 next, .slice A n c, .slice B m d, .int .i64 room, .bool true] 36)).cell? ⟨w.heap.size, 5, none⟩ = some (.bool true) := HB.out.cell 5
                          go_enter Try.func24, Try.ntmps24
                          go_wp2_with fail
                          generalize w.alloc (.cells #[.int .u32 ses, .int .u64 next, .slice A n c, .slice B m d, .int .i64 room, .bool true] 36) = w1 at *
                          refine (HSS.out _).mono ?_
                          rintro e w2 ⟨rfl, rfl⟩
                          go_wp2_with fail
                          refine HIN.out.mono ?_
                          rintro e w3 ⟨rfl, q3⟩
                          replace HB := Lib.hid (HB.out.ca q3)
                          replace HRA := Lib.hid (Lay.rd_below HRA.out q3)
                          replace HRB := Lib.hid (Lay.rd_below HRB.out q3)
                          replace HBB := Lib.hid (bl_ca HBB.out q3)
                          have hw3 := Nat.lt_of_lt_of_le hw1 q3.size
                          clear q3 x0 x1 x2 x3 x4 x5 HIN hw1
                          have x0 : w3.cell? ⟨w.heap.size, 0, none⟩ = some (.int .u32 ses) := HB.out.cell 0
                          have x1 : w3.cell? ⟨w.heap.size, 1, none⟩ = some (.int .u64 next) := HB.out.cell 1
                          have x2 : w3.cell? ⟨w.heap.size, 2, none⟩ = some (.slice A n c) := HB.out.cell 2
                          have x3 : w3.cell? ⟨w.heap.size, 3, none⟩ = some (.slice B m d) := HB.out.cell 3
                          have x4 : w3.cell? ⟨w.heap.size, 4, none⟩ = some (.int .i64 room) := HB.out.cell 4
                          have x5 : w3.cell? ⟨w.heap.size, 5, none⟩ = some (.bool true) := HB.out.cell 5
                          go_wp2_with fail
                          refine (ends_any F2 B m d buf w3 HRB.out (by omega)).mono ?_
                          rintro e w4 ⟨rfl, rfl⟩
                          rw [heb]
                          go_wp2
                          go_ret
                          exact ⟨ret_int (by rw [HRR.out, HF.out]; rfl), HBB.out⟩
                        · have mp : (0 : Int) < (m : Int) := by omega
                          have HF := Lib.hid (show recB ⟨ses, next, ahead, buf, room, true⟩ = false from by unfold recB; rw [show recT ⟨ses, next, ahead, buf, room, true⟩ = false from by unfold recT; simp [HLB.out, m0]]; simp)
                          have b1 := bl_al (Below.refl w.heap.size w) (.cells #[.int .u32 ses, .int .u64 next, .slice A n c, .slice B m d, .int .i64 room, .bool true] 36)
                          have HB := Lib.hid (Blk.new w 36 #[.int .u32 ses, .int .u64 next, .slice A n c, .slice B m d, .int .i64 room, .bool true])
                          have HRA := Lib.hid (Lay.rd_below HA.out b1)
                          have HRB := Lib.hid (Lay.rd_below HBU.out b1)
                          have HBB := Lib.hid b1
                          have hw1 : w.heap.size < (w.alloc (.cells #[.int .u32 ses, .int .u64 next, .slice A n c, .slice B m d, .int .i64 room, .bool true] 36)).heap.size := by simp only [World.size_alloc]; omega
                          have HIN := Lib.hid (inRow_any F2 B m d buf (next - ((m : Nat) : Int)) _ HRB.out (by omega) (by omega) (by omega))
                          rw [hin] at HIN
                          clear b1
                          have x0 : (w.alloc (.cells #[.int .u32 ses, .int .u64 next, .slice A n c, .slice B m d, .int .i64 room, .bool true] 36)).cell? ⟨w.heap.size, 0, none⟩ = some (.int .u32 ses) := HB.out.cell 0
                          have x1 : (w.alloc (.cells #[.int .u32 ses, .int .u64 next, .slice A n c, .slice B m d, .int .i64 room, .bool true] 36)).cell? ⟨w.heap.size, 1, none⟩ = some (.int .u64 next) := HB.out.cell 1
                          have x2 : (w.alloc (.cells #[.int .u32 ses, .int .u64 next, .slice A n c, .slice B m d, .int .i64 room, .bool true] 36)).cell? ⟨w.heap.size, 2, none⟩ = some (.slice A n c) := HB.out.cell 2
                          have x3 : (w.alloc (.cells #[.int .u32 ses, .int .u64 next, .slice A n c, .slice B m d, .int .i64 room, .bool true] 36)).cell? ⟨w.heap.size, 3, none⟩ = some (.slice B m d) := HB.out.cell 3
                          have x4 : (w.alloc (.cells #[.int .u32 ses, .int .u64 next, .slice A n c, .slice B m d, .int .i64 room, .bool true] 36)).cell? ⟨w.heap.size, 4, none⟩ = some (.int .i64 room) := HB.out.cell 4
                          have x5 : (w.alloc (.cells #[.int .u32 ses, .int .u64 next, .slice A n c, .slice B m d, .int .i64 room, .bool true] 36)).cell? ⟨w.heap.size, 5, none⟩ = some (.bool true) := HB.out.cell 5
                          go_enter Try.func24, Try.ntmps24
                          go_wp2_with fail
                          generalize w.alloc (.cells #[.int .u32 ses, .int .u64 next, .slice A n c, .slice B m d, .int .i64 room, .bool true] 36) = w1 at *
                          refine (HSS.out _).mono ?_
                          rintro e w2 ⟨rfl, rfl⟩
                          go_wp2_with fail
                          refine HIN.out.mono ?_
                          rintro e w3 ⟨rfl, q3⟩
                          replace HB := Lib.hid (HB.out.ca q3)
                          replace HRA := Lib.hid (Lay.rd_below HRA.out q3)
                          replace HRB := Lib.hid (Lay.rd_below HRB.out q3)
                          replace HBB := Lib.hid (bl_ca HBB.out q3)
                          have hw3 := Nat.lt_of_lt_of_le hw1 q3.size
                          clear q3 x0 x1 x2 x3 x4 x5 HIN hw1
                          have x0 : w3.cell? ⟨w.heap.size, 0, none⟩ = some (.int .u32 ses) := HB.out.cell 0
                          have x1 : w3.cell? ⟨w.heap.size, 1, none⟩ = some (.int .u64 next) := HB.out.cell 1
                          have x2 : w3.cell? ⟨w.heap.size, 2, none⟩ = some (.slice A n c) := HB.out.cell 2
                          have x3 : w3.cell? ⟨w.heap.size, 3, none⟩ = some (.slice B m d) := HB.out.cell 3
                          have x4 : w3.cell? ⟨w.heap.size, 4, none⟩ = some (.int .i64 room) := HB.out.cell 4
                          have x5 : w3.cell? ⟨w.heap.size, 5, none⟩ = some (.bool true) := HB.out.cell 5
                          go_wp2_with fail
                          refine (ends_any F2 B m d buf w3 HRB.out (by omega)).mono ?_
                          rintro e w4 ⟨rfl, rfl⟩
                          rw [heb]
                          go_wp2
                          go_ret
                          exact ⟨ret_int (by rw [HRR.out, HF.out]; rfl), HBB.out⟩
                    · skip
                      have HF := Lib.hid (show recB ⟨ses, next, ahead, buf, room, over⟩ = false from by unfold recB; rw [show recM ⟨ses, next, ahead, buf, room, over⟩ = false from by unfold recM; simp [HLA.out, heb, n0]]; simp)
                      have b1 := bl_al (Below.refl w.heap.size w) (.cells #[.int .u32 ses, .int .u64 next, .slice A n c, .slice B m d, .int .i64 room, .bool over] 36)
                      have HB := Lib.hid (Blk.new w 36 #[.int .u32 ses, .int .u64 next, .slice A n c, .slice B m d, .int .i64 room, .bool over])
                      have HRA := Lib.hid (Lay.rd_below HA.out b1)
                      have HRB := Lib.hid (Lay.rd_below HBU.out b1)
                      have HBB := Lib.hid b1
                      have hw1 : w.heap.size < (w.alloc (.cells #[.int .u32 ses, .int .u64 next, .slice A n c, .slice B m d, .int .i64 room, .bool over] 36)).heap.size := by simp only [World.size_alloc]; omega
                      have HIN := Lib.hid (inRow_any F2 B m d buf (next - ((m : Nat) : Int)) _ HRB.out (by omega) (by omega) (by omega))
                      rw [hin] at HIN
                      clear b1
                      have x0 : (w.alloc (.cells #[.int .u32 ses, .int .u64 next, .slice A n c, .slice B m d, .int .i64 room, .bool over] 36)).cell? ⟨w.heap.size, 0, none⟩ = some (.int .u32 ses) := HB.out.cell 0
                      have x1 : (w.alloc (.cells #[.int .u32 ses, .int .u64 next, .slice A n c, .slice B m d, .int .i64 room, .bool over] 36)).cell? ⟨w.heap.size, 1, none⟩ = some (.int .u64 next) := HB.out.cell 1
                      have x2 : (w.alloc (.cells #[.int .u32 ses, .int .u64 next, .slice A n c, .slice B m d, .int .i64 room, .bool over] 36)).cell? ⟨w.heap.size, 2, none⟩ = some (.slice A n c) := HB.out.cell 2
                      have x3 : (w.alloc (.cells #[.int .u32 ses, .int .u64 next, .slice A n c, .slice B m d, .int .i64 room, .bool over] 36)).cell? ⟨w.heap.size, 3, none⟩ = some (.slice B m d) := HB.out.cell 3
                      have x4 : (w.alloc (.cells #[.int .u32 ses, .int .u64 next, .slice A n c, .slice B m d, .int .i64 room, .bool over] 36)).cell? ⟨w.heap.size, 4, none⟩ = some (.int .i64 room) := HB.out.cell 4
                      have x5 : (w.alloc (.cells #[.int .u32 ses, .int .u64 next, .slice A n c, .slice B m d, .int .i64 room, .bool over] 36)).cell? ⟨w.heap.size, 5, none⟩ = some (.bool over) := HB.out.cell 5
                      go_enter Try.func24, Try.ntmps24
                      go_wp2_with fail
                      generalize w.alloc (.cells #[.int .u32 ses, .int .u64 next, .slice A n c, .slice B m d, .int .i64 room, .bool over] 36) = w1 at *
                      refine (HSS.out _).mono ?_
                      rintro e w2 ⟨rfl, rfl⟩
                      go_wp2_with fail
                      refine HIN.out.mono ?_
                      rintro e w3 ⟨rfl, q3⟩
                      replace HB := Lib.hid (HB.out.ca q3)
                      replace HRA := Lib.hid (Lay.rd_below HRA.out q3)
                      replace HRB := Lib.hid (Lay.rd_below HRB.out q3)
                      replace HBB := Lib.hid (bl_ca HBB.out q3)
                      have hw3 := Nat.lt_of_lt_of_le hw1 q3.size
                      clear q3 x0 x1 x2 x3 x4 x5 HIN hw1
                      have x0 : w3.cell? ⟨w.heap.size, 0, none⟩ = some (.int .u32 ses) := HB.out.cell 0
                      have x1 : w3.cell? ⟨w.heap.size, 1, none⟩ = some (.int .u64 next) := HB.out.cell 1
                      have x2 : w3.cell? ⟨w.heap.size, 2, none⟩ = some (.slice A n c) := HB.out.cell 2
                      have x3 : w3.cell? ⟨w.heap.size, 3, none⟩ = some (.slice B m d) := HB.out.cell 3
                      have x4 : w3.cell? ⟨w.heap.size, 4, none⟩ = some (.int .i64 room) := HB.out.cell 4
                      have x5 : w3.cell? ⟨w.heap.size, 5, none⟩ = some (.bool over) := HB.out.cell 5
                      go_wp2_with fail
                      refine (ends_any F2 B m d buf w3 HRB.out (by omega)).mono ?_
                      rintro e w4 ⟨rfl, rfl⟩
                      rw [heb]
                      go_wp2
                      go_ret
                      exact ⟨ret_int (by rw [HRR.out, HF.out]; rfl), HBB.out⟩
              · have e6 : decide ((m : Int) < next) = false := by simpa using a6
                have HF := Lib.hid (show recB ⟨ses, next, ahead, buf, room, over⟩ = false from by unfold recB; rw [show recA ⟨ses, next, ahead, buf, room, over⟩ = false from by unfold recA; simp [← HZ.out, HLB.out, a6]]; simp)
                have b1 := bl_al (Below.refl w.heap.size w) (.cells #[.int .u32 ses, .int .u64 next, .slice A n c, .slice B m d, .int .i64 room, .bool over] 36)
                have HB := Lib.hid (Blk.new w 36 #[.int .u32 ses, .int .u64 next, .slice A n c, .slice B m d, .int .i64 room, .bool over])
                have HRA := Lib.hid (Lay.rd_below HA.out b1)
                have HRB := Lib.hid (Lay.rd_below HBU.out b1)
                have HBB := Lib.hid b1
                have hw1 : w.heap.size < (w.alloc (.cells #[.int .u32 ses, .int .u64 next, .slice A n c, .slice B m d, .int .i64 room, .bool over] 36)).heap.size := by simp only [World.size_alloc]; omega
                clear b1
                have x0 : (w.alloc (.cells #[.int .u32 ses, .int .u64 next, .slice A n c, .slice B m d, .int .i64 room, .bool over] 36)).cell? ⟨w.heap.size, 0, none⟩ = some (.int .u32 ses) := HB.out.cell 0
                have x1 : (w.alloc (.cells #[.int .u32 ses, .int .u64 next, .slice A n c, .slice B m d, .int .i64 room, .bool over] 36)).cell? ⟨w.heap.size, 1, none⟩ = some (.int .u64 next) := HB.out.cell 1
                have x2 : (w.alloc (.cells #[.int .u32 ses, .int .u64 next, .slice A n c, .slice B m d, .int .i64 room, .bool over] 36)).cell? ⟨w.heap.size, 2, none⟩ = some (.slice A n c) := HB.out.cell 2
                have x3 : (w.alloc (.cells #[.int .u32 ses, .int .u64 next, .slice A n c, .slice B m d, .int .i64 room, .bool over] 36)).cell? ⟨w.heap.size, 3, none⟩ = some (.slice B m d) := HB.out.cell 3
                have x4 : (w.alloc (.cells #[.int .u32 ses, .int .u64 next, .slice A n c, .slice B m d, .int .i64 room, .bool over] 36)).cell? ⟨w.heap.size, 4, none⟩ = some (.int .i64 room) := HB.out.cell 4
                have x5 : (w.alloc (.cells #[.int .u32 ses, .int .u64 next, .slice A n c, .slice B m d, .int .i64 room, .bool over] 36)).cell? ⟨w.heap.size, 5, none⟩ = some (.bool over) := HB.out.cell 5
                go_enter Try.func24, Try.ntmps24
                go_wp2_with fail
                generalize w.alloc (.cells #[.int .u32 ses, .int .u64 next, .slice A n c, .slice B m d, .int .i64 room, .bool over] 36) = w1 at *
                refine (HSS.out _).mono ?_
                rintro e w2 ⟨rfl, rfl⟩
                go_wp2
                go_ret
                exact ⟨ret_int (by rw [HRR.out, HF.out]; rfl), HBB.out⟩
            · have e5 : decide ((m : Int) ≤ room) = false := by simpa using a5
              have HF := Lib.hid (show recB ⟨ses, next, ahead, buf, room, over⟩ = false from by unfold recB; rw [show recA ⟨ses, next, ahead, buf, room, over⟩ = false from by unfold recA; simp [← HZ.out, HLB.out, a5]]; simp)
              have b1 := bl_al (Below.refl w.heap.size w) (.cells #[.int .u32 ses, .int .u64 next, .slice A n c, .slice B m d, .int .i64 room, .bool over] 36)
              have HB := Lib.hid (Blk.new w 36 #[.int .u32 ses, .int .u64 next, .slice A n c, .slice B m d, .int .i64 room, .bool over])
              have HRA := Lib.hid (Lay.rd_below HA.out b1)
              have HRB := Lib.hid (Lay.rd_below HBU.out b1)
              have HBB := Lib.hid b1
              have hw1 : w.heap.size < (w.alloc (.cells #[.int .u32 ses, .int .u64 next, .slice A n c, .slice B m d, .int .i64 room, .bool over] 36)).heap.size := by simp only [World.size_alloc]; omega
              clear b1
              have x0 : (w.alloc (.cells #[.int .u32 ses, .int .u64 next, .slice A n c, .slice B m d, .int .i64 room, .bool over] 36)).cell? ⟨w.heap.size, 0, none⟩ = some (.int .u32 ses) := HB.out.cell 0
              have x1 : (w.alloc (.cells #[.int .u32 ses, .int .u64 next, .slice A n c, .slice B m d, .int .i64 room, .bool over] 36)).cell? ⟨w.heap.size, 1, none⟩ = some (.int .u64 next) := HB.out.cell 1
              have x2 : (w.alloc (.cells #[.int .u32 ses, .int .u64 next, .slice A n c, .slice B m d, .int .i64 room, .bool over] 36)).cell? ⟨w.heap.size, 2, none⟩ = some (.slice A n c) := HB.out.cell 2
              have x3 : (w.alloc (.cells #[.int .u32 ses, .int .u64 next, .slice A n c, .slice B m d, .int .i64 room, .bool over] 36)).cell? ⟨w.heap.size, 3, none⟩ = some (.slice B m d) := HB.out.cell 3
              have x4 : (w.alloc (.cells #[.int .u32 ses, .int .u64 next, .slice A n c, .slice B m d, .int .i64 room, .bool over] 36)).cell? ⟨w.heap.size, 4, none⟩ = some (.int .i64 room) := HB.out.cell 4
              have x5 : (w.alloc (.cells #[.int .u32 ses, .int .u64 next, .slice A n c, .slice B m d, .int .i64 room, .bool over] 36)).cell? ⟨w.heap.size, 5, none⟩ = some (.bool over) := HB.out.cell 5
              go_enter Try.func24, Try.ntmps24
              go_wp2_with fail
              generalize w.alloc (.cells #[.int .u32 ses, .int .u64 next, .slice A n c, .slice B m d, .int .i64 room, .bool over] 36) = w1 at *
              refine (HSS.out _).mono ?_
              rintro e w2 ⟨rfl, rfl⟩
              go_wp2
              go_ret
              exact ⟨ret_int (by rw [HRR.out, HF.out]; rfl), HBB.out⟩
          · have e4 : decide (next ≤ 1099511627777) = false := by simpa using a4
            have HF := Lib.hid (show recB ⟨ses, next, ahead, buf, room, over⟩ = false from by unfold recB; rw [show recA ⟨ses, next, ahead, buf, room, over⟩ = false from by unfold recA; simp [← HZ.out, HLB.out, a4]]; simp)
            have b1 := bl_al (Below.refl w.heap.size w) (.cells #[.int .u32 ses, .int .u64 next, .slice A n c, .slice B m d, .int .i64 room, .bool over] 36)
            have HB := Lib.hid (Blk.new w 36 #[.int .u32 ses, .int .u64 next, .slice A n c, .slice B m d, .int .i64 room, .bool over])
            have HRA := Lib.hid (Lay.rd_below HA.out b1)
            have HRB := Lib.hid (Lay.rd_below HBU.out b1)
            have HBB := Lib.hid b1
            have hw1 : w.heap.size < (w.alloc (.cells #[.int .u32 ses, .int .u64 next, .slice A n c, .slice B m d, .int .i64 room, .bool over] 36)).heap.size := by simp only [World.size_alloc]; omega
            clear b1
            have x0 : (w.alloc (.cells #[.int .u32 ses, .int .u64 next, .slice A n c, .slice B m d, .int .i64 room, .bool over] 36)).cell? ⟨w.heap.size, 0, none⟩ = some (.int .u32 ses) := HB.out.cell 0
            have x1 : (w.alloc (.cells #[.int .u32 ses, .int .u64 next, .slice A n c, .slice B m d, .int .i64 room, .bool over] 36)).cell? ⟨w.heap.size, 1, none⟩ = some (.int .u64 next) := HB.out.cell 1
            have x2 : (w.alloc (.cells #[.int .u32 ses, .int .u64 next, .slice A n c, .slice B m d, .int .i64 room, .bool over] 36)).cell? ⟨w.heap.size, 2, none⟩ = some (.slice A n c) := HB.out.cell 2
            have x3 : (w.alloc (.cells #[.int .u32 ses, .int .u64 next, .slice A n c, .slice B m d, .int .i64 room, .bool over] 36)).cell? ⟨w.heap.size, 3, none⟩ = some (.slice B m d) := HB.out.cell 3
            have x4 : (w.alloc (.cells #[.int .u32 ses, .int .u64 next, .slice A n c, .slice B m d, .int .i64 room, .bool over] 36)).cell? ⟨w.heap.size, 4, none⟩ = some (.int .i64 room) := HB.out.cell 4
            have x5 : (w.alloc (.cells #[.int .u32 ses, .int .u64 next, .slice A n c, .slice B m d, .int .i64 room, .bool over] 36)).cell? ⟨w.heap.size, 5, none⟩ = some (.bool over) := HB.out.cell 5
            go_enter Try.func24, Try.ntmps24
            go_wp2_with fail
            generalize w.alloc (.cells #[.int .u32 ses, .int .u64 next, .slice A n c, .slice B m d, .int .i64 room, .bool over] 36) = w1 at *
            refine (HSS.out _).mono ?_
            rintro e w2 ⟨rfl, rfl⟩
            go_wp2
            go_ret
            exact ⟨ret_int (by rw [HRR.out, HF.out]; rfl), HBB.out⟩
        · have e3 : decide (1 ≤ next) = false := by simpa using a3
          have HF := Lib.hid (show recB ⟨ses, next, ahead, buf, room, over⟩ = false from by unfold recB; rw [show recA ⟨ses, next, ahead, buf, room, over⟩ = false from by unfold recA; simp [← HZ.out, HLB.out, a3]]; simp)
          have b1 := bl_al (Below.refl w.heap.size w) (.cells #[.int .u32 ses, .int .u64 next, .slice A n c, .slice B m d, .int .i64 room, .bool over] 36)
          have HB := Lib.hid (Blk.new w 36 #[.int .u32 ses, .int .u64 next, .slice A n c, .slice B m d, .int .i64 room, .bool over])
          have HRA := Lib.hid (Lay.rd_below HA.out b1)
          have HRB := Lib.hid (Lay.rd_below HBU.out b1)
          have HBB := Lib.hid b1
          have hw1 : w.heap.size < (w.alloc (.cells #[.int .u32 ses, .int .u64 next, .slice A n c, .slice B m d, .int .i64 room, .bool over] 36)).heap.size := by simp only [World.size_alloc]; omega
          clear b1
          have x0 : (w.alloc (.cells #[.int .u32 ses, .int .u64 next, .slice A n c, .slice B m d, .int .i64 room, .bool over] 36)).cell? ⟨w.heap.size, 0, none⟩ = some (.int .u32 ses) := HB.out.cell 0
          have x1 : (w.alloc (.cells #[.int .u32 ses, .int .u64 next, .slice A n c, .slice B m d, .int .i64 room, .bool over] 36)).cell? ⟨w.heap.size, 1, none⟩ = some (.int .u64 next) := HB.out.cell 1
          have x2 : (w.alloc (.cells #[.int .u32 ses, .int .u64 next, .slice A n c, .slice B m d, .int .i64 room, .bool over] 36)).cell? ⟨w.heap.size, 2, none⟩ = some (.slice A n c) := HB.out.cell 2
          have x3 : (w.alloc (.cells #[.int .u32 ses, .int .u64 next, .slice A n c, .slice B m d, .int .i64 room, .bool over] 36)).cell? ⟨w.heap.size, 3, none⟩ = some (.slice B m d) := HB.out.cell 3
          have x4 : (w.alloc (.cells #[.int .u32 ses, .int .u64 next, .slice A n c, .slice B m d, .int .i64 room, .bool over] 36)).cell? ⟨w.heap.size, 4, none⟩ = some (.int .i64 room) := HB.out.cell 4
          have x5 : (w.alloc (.cells #[.int .u32 ses, .int .u64 next, .slice A n c, .slice B m d, .int .i64 room, .bool over] 36)).cell? ⟨w.heap.size, 5, none⟩ = some (.bool over) := HB.out.cell 5
          go_enter Try.func24, Try.ntmps24
          go_wp2_with fail
          generalize w.alloc (.cells #[.int .u32 ses, .int .u64 next, .slice A n c, .slice B m d, .int .i64 room, .bool over] 36) = w1 at *
          refine (HSS.out _).mono ?_
          rintro e w2 ⟨rfl, rfl⟩
          go_wp2
          go_ret
          exact ⟨ret_int (by rw [HRR.out, HF.out]; rfl), HBB.out⟩
      · have e2 : decide (room ≤ 8) = false := by simpa using a2
        have HF := Lib.hid (show recB ⟨ses, next, ahead, buf, room, over⟩ = false from by unfold recB; rw [show recA ⟨ses, next, ahead, buf, room, over⟩ = false from by unfold recA; simp [← HZ.out, HLB.out, a2]]; simp)
        have b1 := bl_al (Below.refl w.heap.size w) (.cells #[.int .u32 ses, .int .u64 next, .slice A n c, .slice B m d, .int .i64 room, .bool over] 36)
        have HB := Lib.hid (Blk.new w 36 #[.int .u32 ses, .int .u64 next, .slice A n c, .slice B m d, .int .i64 room, .bool over])
        have HRA := Lib.hid (Lay.rd_below HA.out b1)
        have HRB := Lib.hid (Lay.rd_below HBU.out b1)
        have HBB := Lib.hid b1
        have hw1 : w.heap.size < (w.alloc (.cells #[.int .u32 ses, .int .u64 next, .slice A n c, .slice B m d, .int .i64 room, .bool over] 36)).heap.size := by simp only [World.size_alloc]; omega
        clear b1
        have x0 : (w.alloc (.cells #[.int .u32 ses, .int .u64 next, .slice A n c, .slice B m d, .int .i64 room, .bool over] 36)).cell? ⟨w.heap.size, 0, none⟩ = some (.int .u32 ses) := HB.out.cell 0
        have x1 : (w.alloc (.cells #[.int .u32 ses, .int .u64 next, .slice A n c, .slice B m d, .int .i64 room, .bool over] 36)).cell? ⟨w.heap.size, 1, none⟩ = some (.int .u64 next) := HB.out.cell 1
        have x2 : (w.alloc (.cells #[.int .u32 ses, .int .u64 next, .slice A n c, .slice B m d, .int .i64 room, .bool over] 36)).cell? ⟨w.heap.size, 2, none⟩ = some (.slice A n c) := HB.out.cell 2
        have x3 : (w.alloc (.cells #[.int .u32 ses, .int .u64 next, .slice A n c, .slice B m d, .int .i64 room, .bool over] 36)).cell? ⟨w.heap.size, 3, none⟩ = some (.slice B m d) := HB.out.cell 3
        have x4 : (w.alloc (.cells #[.int .u32 ses, .int .u64 next, .slice A n c, .slice B m d, .int .i64 room, .bool over] 36)).cell? ⟨w.heap.size, 4, none⟩ = some (.int .i64 room) := HB.out.cell 4
        have x5 : (w.alloc (.cells #[.int .u32 ses, .int .u64 next, .slice A n c, .slice B m d, .int .i64 room, .bool over] 36)).cell? ⟨w.heap.size, 5, none⟩ = some (.bool over) := HB.out.cell 5
        go_enter Try.func24, Try.ntmps24
        go_wp2_with fail
        generalize w.alloc (.cells #[.int .u32 ses, .int .u64 next, .slice A n c, .slice B m d, .int .i64 room, .bool over] 36) = w1 at *
        refine (HSS.out _).mono ?_
        rintro e w2 ⟨rfl, rfl⟩
        go_wp2
        go_ret
        exact ⟨ret_int (by rw [HRR.out, HF.out]; rfl), HBB.out⟩
    · have e1 : decide (1 ≤ room) = false := by simpa using a1
      have HF := Lib.hid (show recB ⟨ses, next, ahead, buf, room, over⟩ = false from by unfold recB; rw [show recA ⟨ses, next, ahead, buf, room, over⟩ = false from by unfold recA; simp [← HZ.out, HLB.out, a1]]; simp)
      have b1 := bl_al (Below.refl w.heap.size w) (.cells #[.int .u32 ses, .int .u64 next, .slice A n c, .slice B m d, .int .i64 room, .bool over] 36)
      have HB := Lib.hid (Blk.new w 36 #[.int .u32 ses, .int .u64 next, .slice A n c, .slice B m d, .int .i64 room, .bool over])
      have HRA := Lib.hid (Lay.rd_below HA.out b1)
      have HRB := Lib.hid (Lay.rd_below HBU.out b1)
      have HBB := Lib.hid b1
      have hw1 : w.heap.size < (w.alloc (.cells #[.int .u32 ses, .int .u64 next, .slice A n c, .slice B m d, .int .i64 room, .bool over] 36)).heap.size := by simp only [World.size_alloc]; omega
      clear b1
      have x0 : (w.alloc (.cells #[.int .u32 ses, .int .u64 next, .slice A n c, .slice B m d, .int .i64 room, .bool over] 36)).cell? ⟨w.heap.size, 0, none⟩ = some (.int .u32 ses) := HB.out.cell 0
      have x1 : (w.alloc (.cells #[.int .u32 ses, .int .u64 next, .slice A n c, .slice B m d, .int .i64 room, .bool over] 36)).cell? ⟨w.heap.size, 1, none⟩ = some (.int .u64 next) := HB.out.cell 1
      have x2 : (w.alloc (.cells #[.int .u32 ses, .int .u64 next, .slice A n c, .slice B m d, .int .i64 room, .bool over] 36)).cell? ⟨w.heap.size, 2, none⟩ = some (.slice A n c) := HB.out.cell 2
      have x3 : (w.alloc (.cells #[.int .u32 ses, .int .u64 next, .slice A n c, .slice B m d, .int .i64 room, .bool over] 36)).cell? ⟨w.heap.size, 3, none⟩ = some (.slice B m d) := HB.out.cell 3
      have x4 : (w.alloc (.cells #[.int .u32 ses, .int .u64 next, .slice A n c, .slice B m d, .int .i64 room, .bool over] 36)).cell? ⟨w.heap.size, 4, none⟩ = some (.int .i64 room) := HB.out.cell 4
      have x5 : (w.alloc (.cells #[.int .u32 ses, .int .u64 next, .slice A n c, .slice B m d, .int .i64 room, .bool over] 36)).cell? ⟨w.heap.size, 5, none⟩ = some (.bool over) := HB.out.cell 5
      go_enter Try.func24, Try.ntmps24
      go_wp2_with fail
      generalize w.alloc (.cells #[.int .u32 ses, .int .u64 next, .slice A n c, .slice B m d, .int .i64 room, .bool over] 36) = w1 at *
      refine (HSS.out _).mono ?_
      rintro e w2 ⟨rfl, rfl⟩
      go_wp2
      go_ret
      exact ⟨ret_int (by rw [HRR.out, HF.out]; rfl), HBB.out⟩
end Go.Proofs.Ytojghgbaiiajfaa
