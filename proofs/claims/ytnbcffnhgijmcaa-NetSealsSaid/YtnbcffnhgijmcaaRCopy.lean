/- bowspritref24.Copy. Conditions: the slice reads as these parcels. -/
import Derived.Test.YtnbcffnhgijmcaaNLose
namespace Go.Proofs.Ytnbcffnhgijmcaa
open Go.RowKit
set_option maxRecDepth 100000 in
set_option maxHeartbeats 8000000 in
theorem rcopy_any (sent : Int) (A : Option Addr) (m c : Nat) (ps : List PC) (w : World) (h : LP.rd w AllB A m ps) (hm : m ≤ 50000) (hb : ∀ p ∈ ps, p.bs.length ≤ 100000) :
    Calls Try.prog 25 #[.agg #[.int .u64 sent, .slice A m c]] w fun e w' => ∃ A2 c2, e = .returned (.agg #[.int .u64 sent, .slice A2 m c2]) ∧ OutN w' w.heap.size A2 m c2 ps ∧ Below w.heap.size w w' := by
  have HL := Lib.hid h.1
  have HPB := Lib.hid hb
  clear hb
  have bb := Below.refl w.heap.size w
  have bN := Blk.new w 26 #[.int .u64 sent, .slice A m c]
  replace bb := bl_al bb (.cells #[.int .u64 sent, .slice A m c] 26)
  replace bN := bN.ca (bl_al (Below.refl _ _) (.cells #[.int .u64 0, .slice none 0 0] 26))
  have bR : Blk ((w.alloc (.cells #[.int .u64 sent, .slice A m c] 26)).alloc (.cells #[.int .u64 0, .slice none 0 0] 26)) (w.heap.size + 1) 26 #[.int .u64 0, .slice none 0 0] := Blk.mk' (by simp only [World.size_alloc])
  replace bb := bl_al bb (.cells #[.int .u64 0, .slice none 0 0] 26)
  have hsz : w.heap.size + 2 ≤ ((w.alloc (.cells #[.int .u64 sent, .slice A m c] 26)).alloc (.cells #[.int .u64 0, .slice none 0 0] 26)).heap.size := by simp only [World.size_alloc]; omega
  have n1 : ((w.alloc (.cells #[.int .u64 sent, .slice A m c] 26)).alloc (.cells #[.int .u64 0, .slice none 0 0] 26)).cell? ⟨w.heap.size, 1, none⟩ = some (.slice A m c) := bN.cell 1
  go_enter Try.func25, Try.ntmps25
  go_wp2_with fail
  clear n1
  generalize ((w.alloc (.cells #[.int .u64 sent, .slice A m c] 26)).alloc (.cells #[.int .u64 0, .slice none 0 0] 26)) = w1 at *
  go_loopg [3, 9] m (fun g a b wr => ∃ i A2 c2 es, i + g = m ∧ a = .slice A2 i c2 ∧ b = .int .i64 i ∧ DO wr (w.heap.size + 2) A2 i c2 es ∧ es.map El.p = ps.take i ∧ Blk wr w.heap.size 26 #[.int .u64 sent, .slice A m c] ∧ Blk wr (w.heap.size + 1) 26 #[.int .u64 0, .slice none 0 0] ∧ w.heap.size + 2 ≤ wr.heap.size ∧ Below w.heap.size w wr)
  case atStart => exact ⟨0, none, 0, [], by omega, rfl, rfl, DO.nil _ _, rfl, bN, bR, hsz, bb⟩
  case round =>
    clear bN bR bb hsz
    obtain ⟨i, A2, c2, es, hig, rfl, rfl, hD, hes, bN, bR, hsz, bb⟩ := hrel
    have HD := Lib.hid hD
    have HES := Lib.hid hes
    have HN := Lib.hid bN
    have HR := Lib.hid bR
    have HBB := Lib.hid bb
    clear hD hes bN bR
    by_cases hlt : i < m
    · have hi1 : (i : Int) < (m : Int) := by omega
      obtain ⟨p, q, B, n', c', rfl, hx, s1⟩ := LP_at (Lay.rd_below h bb) hlt
      have e0 := s1.c0
      have e1 := s1.c1
      have e2 := s1.c2
      have e3 := s1.c3
      have e4 := s1.c4
      have HX := Lib.hid hx
      have HRB := Lib.hid s1.rb
      have hn' : n' ≤ 100000 := by have := HPB.out q (List.mem_of_getElem? hx); have := s1.len; omega
      clear hx s1 bb
      go_wp2_with (first
        | (refine wpList_store_blk rfl 29 (.tmp 5) (.tmp 12) rfl wr.heap.size 29 _ _ rfl rfl (Blk.new _ _ _) rfl parcelI (by simp [Value.oneCell']) ?_; intro wz hZ gz; have hz1 : wr.heap.size + 1 ≤ wz.heap.size := by { have := gz.size; simp only [World.size_alloc] at this; omega }; have x3 : (wz.alloc (.cells #[] 5)).cell? ⟨wr.heap.size, 3, none⟩ = some (.slice B n' c') := (hZ.ca (bl_al (Below.refl _ _) _)).cell 3; have T1 := bl_al (bl_gr (bl_al (Below.refl wr.heap.size wr) _) gz (Nat.le_refl _)) (.cells #[] 5))
        | (at_builtin; refine wpList_appB rfl (.tmp 13) (.tmp 15) rfl wz.heap.size (some ⟨wz.heap.size, 0, none⟩) 0 0 [] B n' c' q.bs rfl rfl (OwnB.empty _) (HRB.out.below T1) (by omega) (by simp only [World.size_alloc]; omega) ?_; intro A4 c4 w4 o4 b4; rw [Nat.zero_add, List.nil_append] at o4; have hX4 := (hZ.ca (bl_al (Below.refl _ _) (.cells #[] 5))).below b4 hZ.lt; have f3 : w4.frozen? ⟨wr.heap.size, 3, none⟩ = false := hX4.frozen 3; have z3 : w4.cell? ⟨wr.heap.size, 3, none⟩ = some (.slice B n' c') := hX4.cell 3; have hX5 : Blk (w4.setCell ⟨wr.heap.size, 3, none⟩ (.slice A4 n' c4)) wr.heap.size 29 #[.int .u64 q.num, .int .i64 q.frm, .int .i64 q.to, .slice A4 n' c4, .bool q.sp] := (by simpa using hX4.set_ 3 (.slice A4 n' c4)); have y0 : (w4.setCell ⟨wr.heap.size, 3, none⟩ (.slice A4 n' c4)).cell? ⟨wr.heap.size, 0, none⟩ = some (.int .u64 q.num) := hX5.cell 0; have y1 : (w4.setCell ⟨wr.heap.size, 3, none⟩ (.slice A4 n' c4)).cell? ⟨wr.heap.size, 1, none⟩ = some (.int .i64 q.frm) := hX5.cell 1; have y2 : (w4.setCell ⟨wr.heap.size, 3, none⟩ (.slice A4 n' c4)).cell? ⟨wr.heap.size, 2, none⟩ = some (.int .i64 q.to) := hX5.cell 2; have y3 : (w4.setCell ⟨wr.heap.size, 3, none⟩ (.slice A4 n' c4)).cell? ⟨wr.heap.size, 3, none⟩ = some ((.slice A4 n' c4)) := hX5.cell 3; have y4 : (w4.setCell ⟨wr.heap.size, 3, none⟩ (.slice A4 n' c4)).cell? ⟨wr.heap.size, 4, none⟩ = some (.bool q.sp) := hX5.cell 4; have hb6 : Blk ((w4.setCell ⟨wr.heap.size, 3, none⟩ (.slice A4 n' c4)).alloc (.cells #[.int .u64 q.num, .int .i64 q.frm, .int .i64 q.to, .slice A4 n' c4, .bool q.sp] 29)) w4.heap.size 29 #[.int .u64 q.num, .int .i64 q.frm, .int .i64 q.to, .slice A4 n' c4, .bool q.sp] := Blk.mk' (by simp); have T5 := bl_al (bl_set (T1.trans (b4.mono (by omega))) (p := ⟨wr.heap.size, 3, none⟩) (Nat.le_refl _) (.slice A4 n' c4)) (.cells #[.int .u64 q.num, .int .i64 q.frm, .int .i64 q.to, .slice A4 n' c4, .bool q.sp] 29); have ho5 : OwnB ((w4.setCell ⟨wr.heap.size, 3, none⟩ (.slice A4 n' c4)).alloc (.cells #[.int .u64 q.num, .int .i64 q.frm, .int .i64 q.to, .slice A4 n' c4, .bool q.sp] 29)) wr.heap.size A4 n' c4 q.bs := ((o4.kept (only_setCell (p := ⟨wr.heap.size, 3, none⟩) (World.grownBy.refl _ _) (.inl rfl) _) (fun e => by have := (o4.base_ wr.heap.size e).1; omega)).below (bl_al (Below.refl _ _) (.cells #[.int .u64 q.num, .int .i64 q.frm, .int .i64 q.to, .slice A4 n' c4, .bool q.sp] 29))).less (by omega))
        | (at_builtin; go_loud (refine wpList_appE rfl (.tmp 18) (.tmp 20) rfl (w.heap.size + 2) A2 i c2 es _ 1 1 [⟨q, A4, n', c4⟩] rfl rfl (HD.out.below T5).row (reads_blk hb6 rfl rfl) (by omega) (Nat.le_trans hsz T5.size) ?_; intro A8 c8 w8 o8 b8 k8)))
      go_roundg (gk - 1)
      · exact ⟨i + 1, A8, c8, es ++ [⟨q, A4, n', c4⟩], by omega, rfl, by go_num, DO.push (e2 := ⟨q, A4, n', c4⟩) HD.out (HD.out.below T5) ho5 hsz o8 k8 (World.grownBy.refl _ (some w.heap.size)) (by omega), by rw [List.map_append, HES.out, List.take_add_one, HX.out]; rfl, (HN.out.ca T5).below b8 (by omega), (HR.out.ca T5).below b8 (by omega), Nat.le_trans (Nat.le_trans hsz T5.size) b8.size, (bl_ca HBB.out T5).trans (b8.mono (by omega))⟩
      · omega
    · obtain rfl : i = m := by omega
      have hi1 : (i : Int) ≤ (i : Int) := by omega
      have z1 : wr.cell? ⟨w.heap.size, 1, none⟩ = some (.slice A i c) := HN.out.cell 1
      have f1 : wr.frozen? ⟨w.heap.size, 1, none⟩ = false := HN.out.frozen 1
      have gn : wr.grownBy (wr.setCell ⟨w.heap.size, 1, none⟩ (.slice A2 i c2)) (some w.heap.size) := only_setCell (World.grownBy.refl _ _) (.inl rfl) _
      have hN2 : Blk (wr.setCell ⟨w.heap.size, 1, none⟩ (.slice A2 i c2)) w.heap.size 26 #[.int .u64 sent, .slice A2 i c2] := by simpa using HN.out.set_ 1 (.slice A2 i c2)
      have y0 : (wr.setCell ⟨w.heap.size, 1, none⟩ (.slice A2 i c2)).cell? ⟨w.heap.size, 0, none⟩ = some (.int .u64 sent) := hN2.cell 0
      have y1 : (wr.setCell ⟨w.heap.size, 1, none⟩ (.slice A2 i c2)).cell? ⟨w.heap.size, 1, none⟩ = some (.slice A2 i c2) := hN2.cell 1
      have hR2 := HR.out.apart gn (by omega)
      clear bb
      go_wp2_with (refine wpList_store_blk rfl 26 (.tmp 2) (.tmp 25) rfl (w.heap.size + 1) 26 _ _ rfl rfl hR2 rfl netI (by simp [Value.oneCell']) ?_; intro wz hZ gz)
      exact bodyPost_ret (res1 Try.results25 rfl hZ Try.underlying26 rfl netI) rfl ⟨A2, c2, rfl, ⟨es, DO.less ((HD.out.kept gn (by omega)).kept gz (by omega)) (by omega), by rw [HES.out, List.take_of_length_le (by rw [HL.out]; exact Nat.le_refl _)]⟩, bl_gr (bl_gr HBB.out gn (Nat.le_refl _)) gz (by omega)⟩
end Go.Proofs.Ytnbcffnhgijmcaa
