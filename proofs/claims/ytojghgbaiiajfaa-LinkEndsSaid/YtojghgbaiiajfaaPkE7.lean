/- link.CheckPacket. Conditions: the batch's rows read so. -/
import Derived.Test.YtojghgbaiiajfaaPkE6
namespace Go.Proofs.Ytojghgbaiiajfaa
open Go.RowKit
def checkP (p : PK) : Bool := sesB p.ses && ((decide (p.kind = 1) && (decide (p.lim = 0) && batchB p.b p.seq)) || (decide (p.kind = 2) && (eqBC p.b ⟨[], false, 0⟩ && (decide (1 ≤ p.seq) && (decide (p.seq ≤ 1099511627777) && (decide (p.seq - 1 ≤ p.lim) && decide (p.lim ≤ 1099511627776)))))))
set_option maxRecDepth 100000 in
set_option maxHeartbeats 16000000 in
theorem checkp_any (Fr : Nat → Prop) (p : PK) (A : Option Addr) (n c : Nat) (w : World) (h : LR.rd w Fr A n p.b.rows) (hn : n ≤ 9223372036854775807) :
 Calls Try.prog 27 #[.agg (p.cells A n c)] w fun e w' => e = .returned (.int .i64 (if checkP p then 0 else 321)) ∧ Below w.heap.size w w' := by
 obtain ⟨kind, ses, seq, lim, rows, fin, cnt⟩ := p
 dsimp only at h
 obtain ⟨r, hr⟩ : ∃ r : Int, r = if checkP ⟨kind, ses, seq, lim, ⟨rows, fin, cnt⟩⟩ then 0 else 321 := ⟨_, rfl⟩
 rw [← hr]
 have HRR := Lib.hid hr
 have HR := Lib.hid h
 obtain ⟨zB, hzB⟩ : ∃ zB, zB = sesB ses := ⟨_, rfl⟩
 have HZ := Lib.hid hzB
 have HSS := Lib.hid (fun W => session_any ses W)
 rw [← hzB] at HSS
 clear h hr hzB
 by_cases k1 : kind = 1
 · subst k1
   cases zB
   · skip
     have HF := Lib.hid (show checkP ⟨1, ses, seq, lim, ⟨rows, fin, cnt⟩⟩ = false from by unfold checkP; simp [← HZ.out])
     have HB := Lib.hid (Blk.new w 47 #[.int .i64 1, .int .u32 ses, .int .u64 seq, .int .u64 lim, .slice A n c, .bool fin, .int .u64 cnt])
     have b1 := bl_al (Below.refl w.heap.size w) (.cells #[.int .i64 1, .int .u32 ses, .int .u64 seq, .int .u64 lim, .slice A n c, .bool fin, .int .u64 cnt] 47)
     have HBB := Lib.hid b1
     clear b1
     have x0 : (w.alloc (.cells #[.int .i64 1, .int .u32 ses, .int .u64 seq, .int .u64 lim, .slice A n c, .bool fin, .int .u64 cnt] 47)).cell? ⟨w.heap.size, 0, none⟩ = some (.int .i64 1) := HB.out.cell 0
     have x1 : (w.alloc (.cells #[.int .i64 1, .int .u32 ses, .int .u64 seq, .int .u64 lim, .slice A n c, .bool fin, .int .u64 cnt] 47)).cell? ⟨w.heap.size, 1, none⟩ = some (.int .u32 ses) := HB.out.cell 1
     have x2 : (w.alloc (.cells #[.int .i64 1, .int .u32 ses, .int .u64 seq, .int .u64 lim, .slice A n c, .bool fin, .int .u64 cnt] 47)).cell? ⟨w.heap.size, 2, none⟩ = some (.int .u64 seq) := HB.out.cell 2
     have x3 : (w.alloc (.cells #[.int .i64 1, .int .u32 ses, .int .u64 seq, .int .u64 lim, .slice A n c, .bool fin, .int .u64 cnt] 47)).cell? ⟨w.heap.size, 3, none⟩ = some (.int .u64 lim) := HB.out.cell 3
     have x4 : (w.alloc (.cells #[.int .i64 1, .int .u32 ses, .int .u64 seq, .int .u64 lim, .slice A n c, .bool fin, .int .u64 cnt] 47)).cell? ⟨w.heap.size, 4, none⟩ = some (.slice A n c) := HB.out.cell 4
     have x5 : (w.alloc (.cells #[.int .i64 1, .int .u32 ses, .int .u64 seq, .int .u64 lim, .slice A n c, .bool fin, .int .u64 cnt] 47)).cell? ⟨w.heap.size, 5, none⟩ = some (.bool fin) := HB.out.cell 5
     have x6 : (w.alloc (.cells #[.int .i64 1, .int .u32 ses, .int .u64 seq, .int .u64 lim, .slice A n c, .bool fin, .int .u64 cnt] 47)).cell? ⟨w.heap.size, 6, none⟩ = some (.int .u64 cnt) := HB.out.cell 6
     go_enter Try.func27, Try.ntmps27
     go_wp2_with fail
     generalize w.alloc (.cells #[.int .i64 1, .int .u32 ses, .int .u64 seq, .int .u64 lim, .slice A n c, .bool fin, .int .u64 cnt] 47) = w1 at *
     refine (HSS.out _).mono ?_
     rintro e w2 ⟨rfl, rfl⟩
     go_wp2
     go_ret
     exact ⟨ret_int (by rw [HRR.out, HF.out]; rfl), HBB.out⟩
   · by_cases hl : lim = 0
     · subst hl
       cases hb : batchB ⟨rows, fin, cnt⟩ seq
       · skip
         have HF := Lib.hid (show checkP ⟨1, ses, seq, 0, ⟨rows, fin, cnt⟩⟩ = false from by unfold checkP; simp [← HZ.out, hb])
         have HB := Lib.hid (Blk.new w 47 #[.int .i64 1, .int .u32 ses, .int .u64 seq, .int .u64 0, .slice A n c, .bool fin, .int .u64 cnt])
         have b1 := bl_al (Below.refl w.heap.size w) (.cells #[.int .i64 1, .int .u32 ses, .int .u64 seq, .int .u64 0, .slice A n c, .bool fin, .int .u64 cnt] 47)
         have HC := Lib.hid (batch_any Fr ⟨rows, fin, cnt⟩ A n c seq _ (Lay.rd_below HR.out b1) hn)
         rw [hb] at HC
         have HBB := Lib.hid b1
         clear b1
         have x0 : (w.alloc (.cells #[.int .i64 1, .int .u32 ses, .int .u64 seq, .int .u64 0, .slice A n c, .bool fin, .int .u64 cnt] 47)).cell? ⟨w.heap.size, 0, none⟩ = some (.int .i64 1) := HB.out.cell 0
         have x1 : (w.alloc (.cells #[.int .i64 1, .int .u32 ses, .int .u64 seq, .int .u64 0, .slice A n c, .bool fin, .int .u64 cnt] 47)).cell? ⟨w.heap.size, 1, none⟩ = some (.int .u32 ses) := HB.out.cell 1
         have x2 : (w.alloc (.cells #[.int .i64 1, .int .u32 ses, .int .u64 seq, .int .u64 0, .slice A n c, .bool fin, .int .u64 cnt] 47)).cell? ⟨w.heap.size, 2, none⟩ = some (.int .u64 seq) := HB.out.cell 2
         have x3 : (w.alloc (.cells #[.int .i64 1, .int .u32 ses, .int .u64 seq, .int .u64 0, .slice A n c, .bool fin, .int .u64 cnt] 47)).cell? ⟨w.heap.size, 3, none⟩ = some (.int .u64 0) := HB.out.cell 3
         have x4 : (w.alloc (.cells #[.int .i64 1, .int .u32 ses, .int .u64 seq, .int .u64 0, .slice A n c, .bool fin, .int .u64 cnt] 47)).cell? ⟨w.heap.size, 4, none⟩ = some (.slice A n c) := HB.out.cell 4
         have x5 : (w.alloc (.cells #[.int .i64 1, .int .u32 ses, .int .u64 seq, .int .u64 0, .slice A n c, .bool fin, .int .u64 cnt] 47)).cell? ⟨w.heap.size, 5, none⟩ = some (.bool fin) := HB.out.cell 5
         have x6 : (w.alloc (.cells #[.int .i64 1, .int .u32 ses, .int .u64 seq, .int .u64 0, .slice A n c, .bool fin, .int .u64 cnt] 47)).cell? ⟨w.heap.size, 6, none⟩ = some (.int .u64 cnt) := HB.out.cell 6
         go_enter Try.func27, Try.ntmps27
         go_wp2_with fail
         generalize w.alloc (.cells #[.int .i64 1, .int .u32 ses, .int .u64 seq, .int .u64 0, .slice A n c, .bool fin, .int .u64 cnt] 47) = w1 at *
         refine (HSS.out _).mono ?_
         rintro e w2 ⟨rfl, rfl⟩
         go_wp2_with fail
         refine HC.out.mono ?_
         rintro e w3 ⟨rfl, q3⟩
         have HB3 := Lib.hid (HB.out.ca q3)
         have HQ := Lib.hid (bl_ca HBB.out q3)
         clear x0 x1 x2 x3 x4 x5 x6 q3 HC
         have x2 : w3.cell? ⟨w.heap.size, 2, none⟩ = some (.int .u64 seq) := HB3.out.cell 2
         have x3 : w3.cell? ⟨w.heap.size, 3, none⟩ = some (.int .u64 0) := HB3.out.cell 3
         go_wp2
         go_ret
         exact ⟨ret_int (by rw [HRR.out, HF.out]; rfl), HQ.out⟩
       · skip
         have HF := Lib.hid (show checkP ⟨1, ses, seq, 0, ⟨rows, fin, cnt⟩⟩ = true from by unfold checkP; simp [← HZ.out, hb])
         have HB := Lib.hid (Blk.new w 47 #[.int .i64 1, .int .u32 ses, .int .u64 seq, .int .u64 0, .slice A n c, .bool fin, .int .u64 cnt])
         have b1 := bl_al (Below.refl w.heap.size w) (.cells #[.int .i64 1, .int .u32 ses, .int .u64 seq, .int .u64 0, .slice A n c, .bool fin, .int .u64 cnt] 47)
         have HC := Lib.hid (batch_any Fr ⟨rows, fin, cnt⟩ A n c seq _ (Lay.rd_below HR.out b1) hn)
         rw [hb] at HC
         have HBB := Lib.hid b1
         clear b1
         have x0 : (w.alloc (.cells #[.int .i64 1, .int .u32 ses, .int .u64 seq, .int .u64 0, .slice A n c, .bool fin, .int .u64 cnt] 47)).cell? ⟨w.heap.size, 0, none⟩ = some (.int .i64 1) := HB.out.cell 0
         have x1 : (w.alloc (.cells #[.int .i64 1, .int .u32 ses, .int .u64 seq, .int .u64 0, .slice A n c, .bool fin, .int .u64 cnt] 47)).cell? ⟨w.heap.size, 1, none⟩ = some (.int .u32 ses) := HB.out.cell 1
         have x2 : (w.alloc (.cells #[.int .i64 1, .int .u32 ses, .int .u64 seq, .int .u64 0, .slice A n c, .bool fin, .int .u64 cnt] 47)).cell? ⟨w.heap.size, 2, none⟩ = some (.int .u64 seq) := HB.out.cell 2
         have x3 : (w.alloc (.cells #[.int .i64 1, .int .u32 ses, .int .u64 seq, .int .u64 0, .slice A n c, .bool fin, .int .u64 cnt] 47)).cell? ⟨w.heap.size, 3, none⟩ = some (.int .u64 0) := HB.out.cell 3
         have x4 : (w.alloc (.cells #[.int .i64 1, .int .u32 ses, .int .u64 seq, .int .u64 0, .slice A n c, .bool fin, .int .u64 cnt] 47)).cell? ⟨w.heap.size, 4, none⟩ = some (.slice A n c) := HB.out.cell 4
         have x5 : (w.alloc (.cells #[.int .i64 1, .int .u32 ses, .int .u64 seq, .int .u64 0, .slice A n c, .bool fin, .int .u64 cnt] 47)).cell? ⟨w.heap.size, 5, none⟩ = some (.bool fin) := HB.out.cell 5
         have x6 : (w.alloc (.cells #[.int .i64 1, .int .u32 ses, .int .u64 seq, .int .u64 0, .slice A n c, .bool fin, .int .u64 cnt] 47)).cell? ⟨w.heap.size, 6, none⟩ = some (.int .u64 cnt) := HB.out.cell 6
         go_enter Try.func27, Try.ntmps27
         go_wp2_with fail
         generalize w.alloc (.cells #[.int .i64 1, .int .u32 ses, .int .u64 seq, .int .u64 0, .slice A n c, .bool fin, .int .u64 cnt] 47) = w1 at *
         refine (HSS.out _).mono ?_
         rintro e w2 ⟨rfl, rfl⟩
         go_wp2_with fail
         refine HC.out.mono ?_
         rintro e w3 ⟨rfl, q3⟩
         have HB3 := Lib.hid (HB.out.ca q3)
         have HQ := Lib.hid (bl_ca HBB.out q3)
         clear x0 x1 x2 x3 x4 x5 x6 q3 HC
         have x2 : w3.cell? ⟨w.heap.size, 2, none⟩ = some (.int .u64 seq) := HB3.out.cell 2
         have x3 : w3.cell? ⟨w.heap.size, 3, none⟩ = some (.int .u64 0) := HB3.out.cell 3
         go_wp2
         go_ret
         exact ⟨ret_int (by rw [HRR.out, HF.out]; rfl), HQ.out⟩
     · have d3 : (lim == 0) = false := by simpa using hl
       have HF := Lib.hid (show checkP ⟨1, ses, seq, lim, ⟨rows, fin, cnt⟩⟩ = false from by unfold checkP; simp [← HZ.out, hl])
       have HB := Lib.hid (Blk.new w 47 #[.int .i64 1, .int .u32 ses, .int .u64 seq, .int .u64 lim, .slice A n c, .bool fin, .int .u64 cnt])
       have b1 := bl_al (Below.refl w.heap.size w) (.cells #[.int .i64 1, .int .u32 ses, .int .u64 seq, .int .u64 lim, .slice A n c, .bool fin, .int .u64 cnt] 47)
       have HBB := Lib.hid b1
       clear b1
       have x0 : (w.alloc (.cells #[.int .i64 1, .int .u32 ses, .int .u64 seq, .int .u64 lim, .slice A n c, .bool fin, .int .u64 cnt] 47)).cell? ⟨w.heap.size, 0, none⟩ = some (.int .i64 1) := HB.out.cell 0
       have x1 : (w.alloc (.cells #[.int .i64 1, .int .u32 ses, .int .u64 seq, .int .u64 lim, .slice A n c, .bool fin, .int .u64 cnt] 47)).cell? ⟨w.heap.size, 1, none⟩ = some (.int .u32 ses) := HB.out.cell 1
       have x2 : (w.alloc (.cells #[.int .i64 1, .int .u32 ses, .int .u64 seq, .int .u64 lim, .slice A n c, .bool fin, .int .u64 cnt] 47)).cell? ⟨w.heap.size, 2, none⟩ = some (.int .u64 seq) := HB.out.cell 2
       have x3 : (w.alloc (.cells #[.int .i64 1, .int .u32 ses, .int .u64 seq, .int .u64 lim, .slice A n c, .bool fin, .int .u64 cnt] 47)).cell? ⟨w.heap.size, 3, none⟩ = some (.int .u64 lim) := HB.out.cell 3
       have x4 : (w.alloc (.cells #[.int .i64 1, .int .u32 ses, .int .u64 seq, .int .u64 lim, .slice A n c, .bool fin, .int .u64 cnt] 47)).cell? ⟨w.heap.size, 4, none⟩ = some (.slice A n c) := HB.out.cell 4
       have x5 : (w.alloc (.cells #[.int .i64 1, .int .u32 ses, .int .u64 seq, .int .u64 lim, .slice A n c, .bool fin, .int .u64 cnt] 47)).cell? ⟨w.heap.size, 5, none⟩ = some (.bool fin) := HB.out.cell 5
       have x6 : (w.alloc (.cells #[.int .i64 1, .int .u32 ses, .int .u64 seq, .int .u64 lim, .slice A n c, .bool fin, .int .u64 cnt] 47)).cell? ⟨w.heap.size, 6, none⟩ = some (.int .u64 cnt) := HB.out.cell 6
       go_enter Try.func27, Try.ntmps27
       go_wp2_with fail
       generalize w.alloc (.cells #[.int .i64 1, .int .u32 ses, .int .u64 seq, .int .u64 lim, .slice A n c, .bool fin, .int .u64 cnt] 47) = w1 at *
       refine (HSS.out _).mono ?_
       rintro e w2 ⟨rfl, rfl⟩
       go_wp2
       go_ret
       exact ⟨ret_int (by rw [HRR.out, HF.out]; rfl), HBB.out⟩
 · by_cases k2 : kind = 2
   · subst k2
     clear k1
     cases zB
     · skip
       have HF := Lib.hid (show checkP ⟨2, ses, seq, lim, ⟨rows, fin, cnt⟩⟩ = false from by unfold checkP; simp [← HZ.out])
       have HB := Lib.hid (Blk.new w 47 #[.int .i64 2, .int .u32 ses, .int .u64 seq, .int .u64 lim, .slice A n c, .bool fin, .int .u64 cnt])
       have b1 := bl_al (Below.refl w.heap.size w) (.cells #[.int .i64 2, .int .u32 ses, .int .u64 seq, .int .u64 lim, .slice A n c, .bool fin, .int .u64 cnt] 47)
       have HBB := Lib.hid b1
       clear b1
       have x0 : (w.alloc (.cells #[.int .i64 2, .int .u32 ses, .int .u64 seq, .int .u64 lim, .slice A n c, .bool fin, .int .u64 cnt] 47)).cell? ⟨w.heap.size, 0, none⟩ = some (.int .i64 2) := HB.out.cell 0
       have x1 : (w.alloc (.cells #[.int .i64 2, .int .u32 ses, .int .u64 seq, .int .u64 lim, .slice A n c, .bool fin, .int .u64 cnt] 47)).cell? ⟨w.heap.size, 1, none⟩ = some (.int .u32 ses) := HB.out.cell 1
       have x2 : (w.alloc (.cells #[.int .i64 2, .int .u32 ses, .int .u64 seq, .int .u64 lim, .slice A n c, .bool fin, .int .u64 cnt] 47)).cell? ⟨w.heap.size, 2, none⟩ = some (.int .u64 seq) := HB.out.cell 2
       have x3 : (w.alloc (.cells #[.int .i64 2, .int .u32 ses, .int .u64 seq, .int .u64 lim, .slice A n c, .bool fin, .int .u64 cnt] 47)).cell? ⟨w.heap.size, 3, none⟩ = some (.int .u64 lim) := HB.out.cell 3
       have x4 : (w.alloc (.cells #[.int .i64 2, .int .u32 ses, .int .u64 seq, .int .u64 lim, .slice A n c, .bool fin, .int .u64 cnt] 47)).cell? ⟨w.heap.size, 4, none⟩ = some (.slice A n c) := HB.out.cell 4
       have x5 : (w.alloc (.cells #[.int .i64 2, .int .u32 ses, .int .u64 seq, .int .u64 lim, .slice A n c, .bool fin, .int .u64 cnt] 47)).cell? ⟨w.heap.size, 5, none⟩ = some (.bool fin) := HB.out.cell 5
       have x6 : (w.alloc (.cells #[.int .i64 2, .int .u32 ses, .int .u64 seq, .int .u64 lim, .slice A n c, .bool fin, .int .u64 cnt] 47)).cell? ⟨w.heap.size, 6, none⟩ = some (.int .u64 cnt) := HB.out.cell 6
       go_enter Try.func27, Try.ntmps27
       go_wp2_with fail
       generalize w.alloc (.cells #[.int .i64 2, .int .u32 ses, .int .u64 seq, .int .u64 lim, .slice A n c, .bool fin, .int .u64 cnt] 47) = w1 at *
       refine (HSS.out _).mono ?_
       rintro e w2 ⟨rfl, rfl⟩
       go_wp2
       go_ret
       exact ⟨ret_int (by rw [HRR.out, HF.out]; rfl), HBB.out⟩
     · cases hb : eqBC ⟨rows, fin, cnt⟩ ⟨[], false, 0⟩
       · skip
         have HF := Lib.hid (show checkP ⟨2, ses, seq, lim, ⟨rows, fin, cnt⟩⟩ = false from by unfold checkP; simp [← HZ.out, hb])
         have HB := Lib.hid (Blk.new w 47 #[.int .i64 2, .int .u32 ses, .int .u64 seq, .int .u64 lim, .slice A n c, .bool fin, .int .u64 cnt])
         have b1 := bl_al (Below.refl w.heap.size w) (.cells #[.int .i64 2, .int .u32 ses, .int .u64 seq, .int .u64 lim, .slice A n c, .bool fin, .int .u64 cnt] 47)
         have HC := Lib.hid (lsame_any Fr (fun _ => True) ⟨rows, fin, cnt⟩ ⟨[], false, 0⟩ A none n c 0 0 _ (Lay.rd_below HR.out b1) (Lay.rd_nil _) hn)
         rw [hb] at HC
         have HBB := Lib.hid b1
         clear b1
         have x0 : (w.alloc (.cells #[.int .i64 2, .int .u32 ses, .int .u64 seq, .int .u64 lim, .slice A n c, .bool fin, .int .u64 cnt] 47)).cell? ⟨w.heap.size, 0, none⟩ = some (.int .i64 2) := HB.out.cell 0
         have x1 : (w.alloc (.cells #[.int .i64 2, .int .u32 ses, .int .u64 seq, .int .u64 lim, .slice A n c, .bool fin, .int .u64 cnt] 47)).cell? ⟨w.heap.size, 1, none⟩ = some (.int .u32 ses) := HB.out.cell 1
         have x2 : (w.alloc (.cells #[.int .i64 2, .int .u32 ses, .int .u64 seq, .int .u64 lim, .slice A n c, .bool fin, .int .u64 cnt] 47)).cell? ⟨w.heap.size, 2, none⟩ = some (.int .u64 seq) := HB.out.cell 2
         have x3 : (w.alloc (.cells #[.int .i64 2, .int .u32 ses, .int .u64 seq, .int .u64 lim, .slice A n c, .bool fin, .int .u64 cnt] 47)).cell? ⟨w.heap.size, 3, none⟩ = some (.int .u64 lim) := HB.out.cell 3
         have x4 : (w.alloc (.cells #[.int .i64 2, .int .u32 ses, .int .u64 seq, .int .u64 lim, .slice A n c, .bool fin, .int .u64 cnt] 47)).cell? ⟨w.heap.size, 4, none⟩ = some (.slice A n c) := HB.out.cell 4
         have x5 : (w.alloc (.cells #[.int .i64 2, .int .u32 ses, .int .u64 seq, .int .u64 lim, .slice A n c, .bool fin, .int .u64 cnt] 47)).cell? ⟨w.heap.size, 5, none⟩ = some (.bool fin) := HB.out.cell 5
         have x6 : (w.alloc (.cells #[.int .i64 2, .int .u32 ses, .int .u64 seq, .int .u64 lim, .slice A n c, .bool fin, .int .u64 cnt] 47)).cell? ⟨w.heap.size, 6, none⟩ = some (.int .u64 cnt) := HB.out.cell 6
         go_enter Try.func27, Try.ntmps27
         go_wp2_with fail
         generalize w.alloc (.cells #[.int .i64 2, .int .u32 ses, .int .u64 seq, .int .u64 lim, .slice A n c, .bool fin, .int .u64 cnt] 47) = w1 at *
         refine (HSS.out _).mono ?_
         rintro e w2 ⟨rfl, rfl⟩
         go_wp2_with fail
         refine HC.out.mono ?_
         rintro e w3 ⟨rfl, q3⟩
         have HB3 := Lib.hid (HB.out.ca q3)
         have HQ := Lib.hid (bl_ca HBB.out q3)
         clear x0 x1 x2 x3 x4 x5 x6 q3 HC
         have x2 : w3.cell? ⟨w.heap.size, 2, none⟩ = some (.int .u64 seq) := HB3.out.cell 2
         have x3 : w3.cell? ⟨w.heap.size, 3, none⟩ = some (.int .u64 lim) := HB3.out.cell 3
         go_wp2
         go_ret
         exact ⟨ret_int (by rw [HRR.out, HF.out]; rfl), HQ.out⟩
       · skip
         by_cases d0 : 1 ≤ seq
         · have e0 : decide (1 ≤ seq) = true := by simpa using d0
           have hwr : seq ≤ 1099511627777 → IntKind.u64.wrap (seq - 1) = seq - 1 := fun h => u64_in (by omega) (by omega)
           by_cases d1 : seq ≤ 1099511627777
           · have e1 : decide (seq ≤ 1099511627777) = true := by simpa using d1
             replace hwr := hwr d1
             by_cases d2 : seq - 1 ≤ lim
             · have e2 : decide (seq - 1 ≤ lim) = true := by simpa using d2
               by_cases d3 : lim ≤ 1099511627776
               · have e3 : decide (lim ≤ 1099511627776) = true := by simpa using d3
                 have HF := Lib.hid (show checkP ⟨2, ses, seq, lim, ⟨rows, fin, cnt⟩⟩ = true from by unfold checkP; simp [← HZ.out, hb, d0, d1, d2, d3])
                 have HB := Lib.hid (Blk.new w 47 #[.int .i64 2, .int .u32 ses, .int .u64 seq, .int .u64 lim, .slice A n c, .bool fin, .int .u64 cnt])
                 have b1 := bl_al (Below.refl w.heap.size w) (.cells #[.int .i64 2, .int .u32 ses, .int .u64 seq, .int .u64 lim, .slice A n c, .bool fin, .int .u64 cnt] 47)
                 have HC := Lib.hid (lsame_any Fr (fun _ => True) ⟨rows, fin, cnt⟩ ⟨[], false, 0⟩ A none n c 0 0 _ (Lay.rd_below HR.out b1) (Lay.rd_nil _) hn)
                 rw [hb] at HC
                 have HBB := Lib.hid b1
                 clear b1
                 have x0 : (w.alloc (.cells #[.int .i64 2, .int .u32 ses, .int .u64 seq, .int .u64 lim, .slice A n c, .bool fin, .int .u64 cnt] 47)).cell? ⟨w.heap.size, 0, none⟩ = some (.int .i64 2) := HB.out.cell 0
                 have x1 : (w.alloc (.cells #[.int .i64 2, .int .u32 ses, .int .u64 seq, .int .u64 lim, .slice A n c, .bool fin, .int .u64 cnt] 47)).cell? ⟨w.heap.size, 1, none⟩ = some (.int .u32 ses) := HB.out.cell 1
                 have x2 : (w.alloc (.cells #[.int .i64 2, .int .u32 ses, .int .u64 seq, .int .u64 lim, .slice A n c, .bool fin, .int .u64 cnt] 47)).cell? ⟨w.heap.size, 2, none⟩ = some (.int .u64 seq) := HB.out.cell 2
                 have x3 : (w.alloc (.cells #[.int .i64 2, .int .u32 ses, .int .u64 seq, .int .u64 lim, .slice A n c, .bool fin, .int .u64 cnt] 47)).cell? ⟨w.heap.size, 3, none⟩ = some (.int .u64 lim) := HB.out.cell 3
                 have x4 : (w.alloc (.cells #[.int .i64 2, .int .u32 ses, .int .u64 seq, .int .u64 lim, .slice A n c, .bool fin, .int .u64 cnt] 47)).cell? ⟨w.heap.size, 4, none⟩ = some (.slice A n c) := HB.out.cell 4
                 have x5 : (w.alloc (.cells #[.int .i64 2, .int .u32 ses, .int .u64 seq, .int .u64 lim, .slice A n c, .bool fin, .int .u64 cnt] 47)).cell? ⟨w.heap.size, 5, none⟩ = some (.bool fin) := HB.out.cell 5
                 have x6 : (w.alloc (.cells #[.int .i64 2, .int .u32 ses, .int .u64 seq, .int .u64 lim, .slice A n c, .bool fin, .int .u64 cnt] 47)).cell? ⟨w.heap.size, 6, none⟩ = some (.int .u64 cnt) := HB.out.cell 6
                 go_enter Try.func27, Try.ntmps27
                 go_wp2_with fail
                 generalize w.alloc (.cells #[.int .i64 2, .int .u32 ses, .int .u64 seq, .int .u64 lim, .slice A n c, .bool fin, .int .u64 cnt] 47) = w1 at *
                 refine (HSS.out _).mono ?_
                 rintro e w2 ⟨rfl, rfl⟩
                 go_wp2_with fail
                 refine HC.out.mono ?_
                 rintro e w3 ⟨rfl, q3⟩
                 have HB3 := Lib.hid (HB.out.ca q3)
                 have HQ := Lib.hid (bl_ca HBB.out q3)
                 clear x0 x1 x2 x3 x4 x5 x6 q3 HC
                 have x2 : w3.cell? ⟨w.heap.size, 2, none⟩ = some (.int .u64 seq) := HB3.out.cell 2
                 have x3 : w3.cell? ⟨w.heap.size, 3, none⟩ = some (.int .u64 lim) := HB3.out.cell 3
                 go_wp2
                 go_ret
                 exact ⟨ret_int (by rw [HRR.out, HF.out]; rfl), HQ.out⟩
               · have e3 : decide (lim ≤ 1099511627776) = false := by simpa using d3
                 have HF := Lib.hid (show checkP ⟨2, ses, seq, lim, ⟨rows, fin, cnt⟩⟩ = false from by unfold checkP; simp [← HZ.out, d3])
                 have HB := Lib.hid (Blk.new w 47 #[.int .i64 2, .int .u32 ses, .int .u64 seq, .int .u64 lim, .slice A n c, .bool fin, .int .u64 cnt])
                 have b1 := bl_al (Below.refl w.heap.size w) (.cells #[.int .i64 2, .int .u32 ses, .int .u64 seq, .int .u64 lim, .slice A n c, .bool fin, .int .u64 cnt] 47)
                 have HC := Lib.hid (lsame_any Fr (fun _ => True) ⟨rows, fin, cnt⟩ ⟨[], false, 0⟩ A none n c 0 0 _ (Lay.rd_below HR.out b1) (Lay.rd_nil _) hn)
                 rw [hb] at HC
                 have HBB := Lib.hid b1
                 clear b1
                 have x0 : (w.alloc (.cells #[.int .i64 2, .int .u32 ses, .int .u64 seq, .int .u64 lim, .slice A n c, .bool fin, .int .u64 cnt] 47)).cell? ⟨w.heap.size, 0, none⟩ = some (.int .i64 2) := HB.out.cell 0
                 have x1 : (w.alloc (.cells #[.int .i64 2, .int .u32 ses, .int .u64 seq, .int .u64 lim, .slice A n c, .bool fin, .int .u64 cnt] 47)).cell? ⟨w.heap.size, 1, none⟩ = some (.int .u32 ses) := HB.out.cell 1
                 have x2 : (w.alloc (.cells #[.int .i64 2, .int .u32 ses, .int .u64 seq, .int .u64 lim, .slice A n c, .bool fin, .int .u64 cnt] 47)).cell? ⟨w.heap.size, 2, none⟩ = some (.int .u64 seq) := HB.out.cell 2
                 have x3 : (w.alloc (.cells #[.int .i64 2, .int .u32 ses, .int .u64 seq, .int .u64 lim, .slice A n c, .bool fin, .int .u64 cnt] 47)).cell? ⟨w.heap.size, 3, none⟩ = some (.int .u64 lim) := HB.out.cell 3
                 have x4 : (w.alloc (.cells #[.int .i64 2, .int .u32 ses, .int .u64 seq, .int .u64 lim, .slice A n c, .bool fin, .int .u64 cnt] 47)).cell? ⟨w.heap.size, 4, none⟩ = some (.slice A n c) := HB.out.cell 4
                 have x5 : (w.alloc (.cells #[.int .i64 2, .int .u32 ses, .int .u64 seq, .int .u64 lim, .slice A n c, .bool fin, .int .u64 cnt] 47)).cell? ⟨w.heap.size, 5, none⟩ = some (.bool fin) := HB.out.cell 5
                 have x6 : (w.alloc (.cells #[.int .i64 2, .int .u32 ses, .int .u64 seq, .int .u64 lim, .slice A n c, .bool fin, .int .u64 cnt] 47)).cell? ⟨w.heap.size, 6, none⟩ = some (.int .u64 cnt) := HB.out.cell 6
                 go_enter Try.func27, Try.ntmps27
                 go_wp2_with fail
                 generalize w.alloc (.cells #[.int .i64 2, .int .u32 ses, .int .u64 seq, .int .u64 lim, .slice A n c, .bool fin, .int .u64 cnt] 47) = w1 at *
                 refine (HSS.out _).mono ?_
                 rintro e w2 ⟨rfl, rfl⟩
                 go_wp2_with fail
                 refine HC.out.mono ?_
                 rintro e w3 ⟨rfl, q3⟩
                 have HB3 := Lib.hid (HB.out.ca q3)
                 have HQ := Lib.hid (bl_ca HBB.out q3)
                 clear x0 x1 x2 x3 x4 x5 x6 q3 HC
                 have x2 : w3.cell? ⟨w.heap.size, 2, none⟩ = some (.int .u64 seq) := HB3.out.cell 2
                 have x3 : w3.cell? ⟨w.heap.size, 3, none⟩ = some (.int .u64 lim) := HB3.out.cell 3
                 go_wp2
                 go_ret
                 exact ⟨ret_int (by rw [HRR.out, HF.out]; rfl), HQ.out⟩
             · have e2 : decide (seq - 1 ≤ lim) = false := by simpa using d2
               have HF := Lib.hid (show checkP ⟨2, ses, seq, lim, ⟨rows, fin, cnt⟩⟩ = false from by unfold checkP; simp [← HZ.out, d2])
               have HB := Lib.hid (Blk.new w 47 #[.int .i64 2, .int .u32 ses, .int .u64 seq, .int .u64 lim, .slice A n c, .bool fin, .int .u64 cnt])
               have b1 := bl_al (Below.refl w.heap.size w) (.cells #[.int .i64 2, .int .u32 ses, .int .u64 seq, .int .u64 lim, .slice A n c, .bool fin, .int .u64 cnt] 47)
               have HC := Lib.hid (lsame_any Fr (fun _ => True) ⟨rows, fin, cnt⟩ ⟨[], false, 0⟩ A none n c 0 0 _ (Lay.rd_below HR.out b1) (Lay.rd_nil _) hn)
               rw [hb] at HC
               have HBB := Lib.hid b1
               clear b1
               have x0 : (w.alloc (.cells #[.int .i64 2, .int .u32 ses, .int .u64 seq, .int .u64 lim, .slice A n c, .bool fin, .int .u64 cnt] 47)).cell? ⟨w.heap.size, 0, none⟩ = some (.int .i64 2) := HB.out.cell 0
               have x1 : (w.alloc (.cells #[.int .i64 2, .int .u32 ses, .int .u64 seq, .int .u64 lim, .slice A n c, .bool fin, .int .u64 cnt] 47)).cell? ⟨w.heap.size, 1, none⟩ = some (.int .u32 ses) := HB.out.cell 1
               have x2 : (w.alloc (.cells #[.int .i64 2, .int .u32 ses, .int .u64 seq, .int .u64 lim, .slice A n c, .bool fin, .int .u64 cnt] 47)).cell? ⟨w.heap.size, 2, none⟩ = some (.int .u64 seq) := HB.out.cell 2
               have x3 : (w.alloc (.cells #[.int .i64 2, .int .u32 ses, .int .u64 seq, .int .u64 lim, .slice A n c, .bool fin, .int .u64 cnt] 47)).cell? ⟨w.heap.size, 3, none⟩ = some (.int .u64 lim) := HB.out.cell 3
               have x4 : (w.alloc (.cells #[.int .i64 2, .int .u32 ses, .int .u64 seq, .int .u64 lim, .slice A n c, .bool fin, .int .u64 cnt] 47)).cell? ⟨w.heap.size, 4, none⟩ = some (.slice A n c) := HB.out.cell 4
               have x5 : (w.alloc (.cells #[.int .i64 2, .int .u32 ses, .int .u64 seq, .int .u64 lim, .slice A n c, .bool fin, .int .u64 cnt] 47)).cell? ⟨w.heap.size, 5, none⟩ = some (.bool fin) := HB.out.cell 5
               have x6 : (w.alloc (.cells #[.int .i64 2, .int .u32 ses, .int .u64 seq, .int .u64 lim, .slice A n c, .bool fin, .int .u64 cnt] 47)).cell? ⟨w.heap.size, 6, none⟩ = some (.int .u64 cnt) := HB.out.cell 6
               go_enter Try.func27, Try.ntmps27
               go_wp2_with fail
               generalize w.alloc (.cells #[.int .i64 2, .int .u32 ses, .int .u64 seq, .int .u64 lim, .slice A n c, .bool fin, .int .u64 cnt] 47) = w1 at *
               refine (HSS.out _).mono ?_
               rintro e w2 ⟨rfl, rfl⟩
               go_wp2_with fail
               refine HC.out.mono ?_
               rintro e w3 ⟨rfl, q3⟩
               have HB3 := Lib.hid (HB.out.ca q3)
               have HQ := Lib.hid (bl_ca HBB.out q3)
               clear x0 x1 x2 x3 x4 x5 x6 q3 HC
               have x2 : w3.cell? ⟨w.heap.size, 2, none⟩ = some (.int .u64 seq) := HB3.out.cell 2
               have x3 : w3.cell? ⟨w.heap.size, 3, none⟩ = some (.int .u64 lim) := HB3.out.cell 3
               go_wp2
               go_ret
               exact ⟨ret_int (by rw [HRR.out, HF.out]; rfl), HQ.out⟩
           · have e1 : decide (seq ≤ 1099511627777) = false := by simpa using d1
             clear hwr
             have HF := Lib.hid (show checkP ⟨2, ses, seq, lim, ⟨rows, fin, cnt⟩⟩ = false from by unfold checkP; simp [← HZ.out, d1])
             have HB := Lib.hid (Blk.new w 47 #[.int .i64 2, .int .u32 ses, .int .u64 seq, .int .u64 lim, .slice A n c, .bool fin, .int .u64 cnt])
             have b1 := bl_al (Below.refl w.heap.size w) (.cells #[.int .i64 2, .int .u32 ses, .int .u64 seq, .int .u64 lim, .slice A n c, .bool fin, .int .u64 cnt] 47)
             have HC := Lib.hid (lsame_any Fr (fun _ => True) ⟨rows, fin, cnt⟩ ⟨[], false, 0⟩ A none n c 0 0 _ (Lay.rd_below HR.out b1) (Lay.rd_nil _) hn)
             rw [hb] at HC
             have HBB := Lib.hid b1
             clear b1
             have x0 : (w.alloc (.cells #[.int .i64 2, .int .u32 ses, .int .u64 seq, .int .u64 lim, .slice A n c, .bool fin, .int .u64 cnt] 47)).cell? ⟨w.heap.size, 0, none⟩ = some (.int .i64 2) := HB.out.cell 0
             have x1 : (w.alloc (.cells #[.int .i64 2, .int .u32 ses, .int .u64 seq, .int .u64 lim, .slice A n c, .bool fin, .int .u64 cnt] 47)).cell? ⟨w.heap.size, 1, none⟩ = some (.int .u32 ses) := HB.out.cell 1
             have x2 : (w.alloc (.cells #[.int .i64 2, .int .u32 ses, .int .u64 seq, .int .u64 lim, .slice A n c, .bool fin, .int .u64 cnt] 47)).cell? ⟨w.heap.size, 2, none⟩ = some (.int .u64 seq) := HB.out.cell 2
             have x3 : (w.alloc (.cells #[.int .i64 2, .int .u32 ses, .int .u64 seq, .int .u64 lim, .slice A n c, .bool fin, .int .u64 cnt] 47)).cell? ⟨w.heap.size, 3, none⟩ = some (.int .u64 lim) := HB.out.cell 3
             have x4 : (w.alloc (.cells #[.int .i64 2, .int .u32 ses, .int .u64 seq, .int .u64 lim, .slice A n c, .bool fin, .int .u64 cnt] 47)).cell? ⟨w.heap.size, 4, none⟩ = some (.slice A n c) := HB.out.cell 4
             have x5 : (w.alloc (.cells #[.int .i64 2, .int .u32 ses, .int .u64 seq, .int .u64 lim, .slice A n c, .bool fin, .int .u64 cnt] 47)).cell? ⟨w.heap.size, 5, none⟩ = some (.bool fin) := HB.out.cell 5
             have x6 : (w.alloc (.cells #[.int .i64 2, .int .u32 ses, .int .u64 seq, .int .u64 lim, .slice A n c, .bool fin, .int .u64 cnt] 47)).cell? ⟨w.heap.size, 6, none⟩ = some (.int .u64 cnt) := HB.out.cell 6
             go_enter Try.func27, Try.ntmps27
             go_wp2_with fail
             generalize w.alloc (.cells #[.int .i64 2, .int .u32 ses, .int .u64 seq, .int .u64 lim, .slice A n c, .bool fin, .int .u64 cnt] 47) = w1 at *
             refine (HSS.out _).mono ?_
             rintro e w2 ⟨rfl, rfl⟩
             go_wp2_with fail
             refine HC.out.mono ?_
             rintro e w3 ⟨rfl, q3⟩
             have HB3 := Lib.hid (HB.out.ca q3)
             have HQ := Lib.hid (bl_ca HBB.out q3)
             clear x0 x1 x2 x3 x4 x5 x6 q3 HC
             have x2 : w3.cell? ⟨w.heap.size, 2, none⟩ = some (.int .u64 seq) := HB3.out.cell 2
             have x3 : w3.cell? ⟨w.heap.size, 3, none⟩ = some (.int .u64 lim) := HB3.out.cell 3
             go_wp2
             go_ret
             exact ⟨ret_int (by rw [HRR.out, HF.out]; rfl), HQ.out⟩
         · have e0 : decide (1 ≤ seq) = false := by simpa using d0
           have HF := Lib.hid (show checkP ⟨2, ses, seq, lim, ⟨rows, fin, cnt⟩⟩ = false from by unfold checkP; simp [← HZ.out, d0])
           have HB := Lib.hid (Blk.new w 47 #[.int .i64 2, .int .u32 ses, .int .u64 seq, .int .u64 lim, .slice A n c, .bool fin, .int .u64 cnt])
           have b1 := bl_al (Below.refl w.heap.size w) (.cells #[.int .i64 2, .int .u32 ses, .int .u64 seq, .int .u64 lim, .slice A n c, .bool fin, .int .u64 cnt] 47)
           have HC := Lib.hid (lsame_any Fr (fun _ => True) ⟨rows, fin, cnt⟩ ⟨[], false, 0⟩ A none n c 0 0 _ (Lay.rd_below HR.out b1) (Lay.rd_nil _) hn)
           rw [hb] at HC
           have HBB := Lib.hid b1
           clear b1
           have x0 : (w.alloc (.cells #[.int .i64 2, .int .u32 ses, .int .u64 seq, .int .u64 lim, .slice A n c, .bool fin, .int .u64 cnt] 47)).cell? ⟨w.heap.size, 0, none⟩ = some (.int .i64 2) := HB.out.cell 0
           have x1 : (w.alloc (.cells #[.int .i64 2, .int .u32 ses, .int .u64 seq, .int .u64 lim, .slice A n c, .bool fin, .int .u64 cnt] 47)).cell? ⟨w.heap.size, 1, none⟩ = some (.int .u32 ses) := HB.out.cell 1
           have x2 : (w.alloc (.cells #[.int .i64 2, .int .u32 ses, .int .u64 seq, .int .u64 lim, .slice A n c, .bool fin, .int .u64 cnt] 47)).cell? ⟨w.heap.size, 2, none⟩ = some (.int .u64 seq) := HB.out.cell 2
           have x3 : (w.alloc (.cells #[.int .i64 2, .int .u32 ses, .int .u64 seq, .int .u64 lim, .slice A n c, .bool fin, .int .u64 cnt] 47)).cell? ⟨w.heap.size, 3, none⟩ = some (.int .u64 lim) := HB.out.cell 3
           have x4 : (w.alloc (.cells #[.int .i64 2, .int .u32 ses, .int .u64 seq, .int .u64 lim, .slice A n c, .bool fin, .int .u64 cnt] 47)).cell? ⟨w.heap.size, 4, none⟩ = some (.slice A n c) := HB.out.cell 4
           have x5 : (w.alloc (.cells #[.int .i64 2, .int .u32 ses, .int .u64 seq, .int .u64 lim, .slice A n c, .bool fin, .int .u64 cnt] 47)).cell? ⟨w.heap.size, 5, none⟩ = some (.bool fin) := HB.out.cell 5
           have x6 : (w.alloc (.cells #[.int .i64 2, .int .u32 ses, .int .u64 seq, .int .u64 lim, .slice A n c, .bool fin, .int .u64 cnt] 47)).cell? ⟨w.heap.size, 6, none⟩ = some (.int .u64 cnt) := HB.out.cell 6
           go_enter Try.func27, Try.ntmps27
           go_wp2_with fail
           generalize w.alloc (.cells #[.int .i64 2, .int .u32 ses, .int .u64 seq, .int .u64 lim, .slice A n c, .bool fin, .int .u64 cnt] 47) = w1 at *
           refine (HSS.out _).mono ?_
           rintro e w2 ⟨rfl, rfl⟩
           go_wp2_with fail
           refine HC.out.mono ?_
           rintro e w3 ⟨rfl, q3⟩
           have HB3 := Lib.hid (HB.out.ca q3)
           have HQ := Lib.hid (bl_ca HBB.out q3)
           clear x0 x1 x2 x3 x4 x5 x6 q3 HC
           have x2 : w3.cell? ⟨w.heap.size, 2, none⟩ = some (.int .u64 seq) := HB3.out.cell 2
           have x3 : w3.cell? ⟨w.heap.size, 3, none⟩ = some (.int .u64 lim) := HB3.out.cell 3
           go_wp2
           go_ret
           exact ⟨ret_int (by rw [HRR.out, HF.out]; rfl), HQ.out⟩
   · have t1 : (kind == 1) = false := by simpa using k1
     have t2 : (kind == 2) = false := by simpa using k2
     cases zB
     · skip
       have HF := Lib.hid (show checkP ⟨kind, ses, seq, lim, ⟨rows, fin, cnt⟩⟩ = false from by unfold checkP; simp [← HZ.out])
       have HB := Lib.hid (Blk.new w 47 #[.int .i64 kind, .int .u32 ses, .int .u64 seq, .int .u64 lim, .slice A n c, .bool fin, .int .u64 cnt])
       have b1 := bl_al (Below.refl w.heap.size w) (.cells #[.int .i64 kind, .int .u32 ses, .int .u64 seq, .int .u64 lim, .slice A n c, .bool fin, .int .u64 cnt] 47)
       have HBB := Lib.hid b1
       clear b1
       have x0 : (w.alloc (.cells #[.int .i64 kind, .int .u32 ses, .int .u64 seq, .int .u64 lim, .slice A n c, .bool fin, .int .u64 cnt] 47)).cell? ⟨w.heap.size, 0, none⟩ = some (.int .i64 kind) := HB.out.cell 0
       have x1 : (w.alloc (.cells #[.int .i64 kind, .int .u32 ses, .int .u64 seq, .int .u64 lim, .slice A n c, .bool fin, .int .u64 cnt] 47)).cell? ⟨w.heap.size, 1, none⟩ = some (.int .u32 ses) := HB.out.cell 1
       have x2 : (w.alloc (.cells #[.int .i64 kind, .int .u32 ses, .int .u64 seq, .int .u64 lim, .slice A n c, .bool fin, .int .u64 cnt] 47)).cell? ⟨w.heap.size, 2, none⟩ = some (.int .u64 seq) := HB.out.cell 2
       have x3 : (w.alloc (.cells #[.int .i64 kind, .int .u32 ses, .int .u64 seq, .int .u64 lim, .slice A n c, .bool fin, .int .u64 cnt] 47)).cell? ⟨w.heap.size, 3, none⟩ = some (.int .u64 lim) := HB.out.cell 3
       have x4 : (w.alloc (.cells #[.int .i64 kind, .int .u32 ses, .int .u64 seq, .int .u64 lim, .slice A n c, .bool fin, .int .u64 cnt] 47)).cell? ⟨w.heap.size, 4, none⟩ = some (.slice A n c) := HB.out.cell 4
       have x5 : (w.alloc (.cells #[.int .i64 kind, .int .u32 ses, .int .u64 seq, .int .u64 lim, .slice A n c, .bool fin, .int .u64 cnt] 47)).cell? ⟨w.heap.size, 5, none⟩ = some (.bool fin) := HB.out.cell 5
       have x6 : (w.alloc (.cells #[.int .i64 kind, .int .u32 ses, .int .u64 seq, .int .u64 lim, .slice A n c, .bool fin, .int .u64 cnt] 47)).cell? ⟨w.heap.size, 6, none⟩ = some (.int .u64 cnt) := HB.out.cell 6
       go_enter Try.func27, Try.ntmps27
       go_wp2_with fail
       generalize w.alloc (.cells #[.int .i64 kind, .int .u32 ses, .int .u64 seq, .int .u64 lim, .slice A n c, .bool fin, .int .u64 cnt] 47) = w1 at *
       refine (HSS.out _).mono ?_
       rintro e w2 ⟨rfl, rfl⟩
       go_wp2
       go_ret
       exact ⟨ret_int (by rw [HRR.out, HF.out]; rfl), HBB.out⟩
     · skip
       have HF := Lib.hid (show checkP ⟨kind, ses, seq, lim, ⟨rows, fin, cnt⟩⟩ = false from by unfold checkP; simp [← HZ.out, k1, k2])
       have HB := Lib.hid (Blk.new w 47 #[.int .i64 kind, .int .u32 ses, .int .u64 seq, .int .u64 lim, .slice A n c, .bool fin, .int .u64 cnt])
       have b1 := bl_al (Below.refl w.heap.size w) (.cells #[.int .i64 kind, .int .u32 ses, .int .u64 seq, .int .u64 lim, .slice A n c, .bool fin, .int .u64 cnt] 47)
       have HBB := Lib.hid b1
       clear b1
       have x0 : (w.alloc (.cells #[.int .i64 kind, .int .u32 ses, .int .u64 seq, .int .u64 lim, .slice A n c, .bool fin, .int .u64 cnt] 47)).cell? ⟨w.heap.size, 0, none⟩ = some (.int .i64 kind) := HB.out.cell 0
       have x1 : (w.alloc (.cells #[.int .i64 kind, .int .u32 ses, .int .u64 seq, .int .u64 lim, .slice A n c, .bool fin, .int .u64 cnt] 47)).cell? ⟨w.heap.size, 1, none⟩ = some (.int .u32 ses) := HB.out.cell 1
       have x2 : (w.alloc (.cells #[.int .i64 kind, .int .u32 ses, .int .u64 seq, .int .u64 lim, .slice A n c, .bool fin, .int .u64 cnt] 47)).cell? ⟨w.heap.size, 2, none⟩ = some (.int .u64 seq) := HB.out.cell 2
       have x3 : (w.alloc (.cells #[.int .i64 kind, .int .u32 ses, .int .u64 seq, .int .u64 lim, .slice A n c, .bool fin, .int .u64 cnt] 47)).cell? ⟨w.heap.size, 3, none⟩ = some (.int .u64 lim) := HB.out.cell 3
       have x4 : (w.alloc (.cells #[.int .i64 kind, .int .u32 ses, .int .u64 seq, .int .u64 lim, .slice A n c, .bool fin, .int .u64 cnt] 47)).cell? ⟨w.heap.size, 4, none⟩ = some (.slice A n c) := HB.out.cell 4
       have x5 : (w.alloc (.cells #[.int .i64 kind, .int .u32 ses, .int .u64 seq, .int .u64 lim, .slice A n c, .bool fin, .int .u64 cnt] 47)).cell? ⟨w.heap.size, 5, none⟩ = some (.bool fin) := HB.out.cell 5
       have x6 : (w.alloc (.cells #[.int .i64 kind, .int .u32 ses, .int .u64 seq, .int .u64 lim, .slice A n c, .bool fin, .int .u64 cnt] 47)).cell? ⟨w.heap.size, 6, none⟩ = some (.int .u64 cnt) := HB.out.cell 6
       go_enter Try.func27, Try.ntmps27
       go_wp2_with fail
       generalize w.alloc (.cells #[.int .i64 kind, .int .u32 ses, .int .u64 seq, .int .u64 lim, .slice A n c, .bool fin, .int .u64 cnt] 47) = w1 at *
       refine (HSS.out _).mono ?_
       rintro e w2 ⟨rfl, rfl⟩
       go_wp2
       go_ret
       exact ⟨ret_int (by rw [HRR.out, HF.out]; rfl), HBB.out⟩
end Go.Proofs.Ytojghgbaiiajfaa
/- link.limit. Conditions: the receiver's numbers are in their range. -/
namespace Go.Proofs.Ytojghgbaiiajfaa
open Go.RowKit
def limR (r : RC) : Int := if r.next - 1 + (r.room - (r.buf.length : Int)) ≤ 1099511627776 then r.next - 1 + (r.room - (r.buf.length : Int)) else 1099511627776
set_option maxRecDepth 100000 in
set_option maxHeartbeats 4000000 in
theorem limit_any (r : RC) (A : Option Addr) (n c : Nat) (B : Option Addr) (m d : Nat) (w : World) (hm : r.buf.length = m) (h1 : 1 ≤ r.next) (h2 : r.next ≤ 2000000000000) (h3 : (m : Int) ≤ r.room) (h4 : r.room ≤ 8) :
 Calls Try.prog 70 #[.agg (r.cells A n c B m d)] w fun e w' => e = .returned (.int .u64 (limR r)) ∧ Below w.heap.size w w' := by
 obtain ⟨ses, next, ahead, buf, room, over⟩ := r
 dsimp only at *
 have b1 := bl_al (Below.refl w.heap.size w) (.cells (RC.cells ⟨ses, next, ahead, buf, room, over⟩ A n c B m d) 36)
 have HB := Lib.hid (Blk.new w 36 (RC.cells ⟨ses, next, ahead, buf, room, over⟩ A n c B m d))
 have HBB := Lib.hid b1
 have x1 : (w.alloc (.cells (RC.cells ⟨ses, next, ahead, buf, room, over⟩ A n c B m d) 36)).cell? ⟨w.heap.size, 1, none⟩ = some (.int .u64 next) := HB.out.cell 1
 have x3 : (w.alloc (.cells (RC.cells ⟨ses, next, ahead, buf, room, over⟩ A n c B m d) 36)).cell? ⟨w.heap.size, 3, none⟩ = some (.slice B m d) := HB.out.cell 3
 have x4 : (w.alloc (.cells (RC.cells ⟨ses, next, ahead, buf, room, over⟩ A n c B m d) 36)).cell? ⟨w.heap.size, 4, none⟩ = some (.int .i64 room) := HB.out.cell 4
 have HM := Lib.hid hm
 have e1 : IntKind.u64.wrap (next - 1) = next - 1 := u64_in (by omega) (by omega)
 have e2 : IntKind.i64.wrap (room - (m : Int)) = room - (m : Int) := by simp [IntKind.wrap, IntKind.signed, IntKind.bits]; omega
 have e3 : IntKind.u64.wrap (room - (m : Int)) = room - (m : Int) := u64_in (by omega) (by omega)
 have e4 : IntKind.u64.wrap (next - 1 + (room - (m : Int))) = next - 1 + (room - (m : Int)) := u64_in (by omega) (by omega)
 clear b1 hm
 go_enter Try.func70, Try.ntmps70
 go_wp2
 go_ret
 refine ⟨ret_int ?_, HBB.out⟩
 unfold limR
 rw [HM.out]
 simp only []
 split <;> omega
end Go.Proofs.Ytojghgbaiiajfaa
