/- The law's small and wakes. Conditions: what the tables hold. -/
import Derived.Test.YthgcdilkkldgjaaDoorCPrint
namespace Go.Proofs.YthgcdilkkldgjaaDoor
open Go.RowKit
def tS : TC := ⟨⟨#[116]⟩, [⟨⟨#[97]⟩, 2⟩, ⟨⟨#[98]⟩, 3⟩], [0]⟩
def tSx : ByteArray := ⟨#[116, 97, 98, 108, 101, 32, 116, 32, 97, 32, 105, 110, 116, 32, 98, 32, 116, 101, 120, 116, 32, 98, 121, 32, 97, 10]⟩
theorem tS_tab : tabB tS = true := (tabB_iff tS).2 {
  nm := by decide +kernel
  lo := by decide
  hi := by decide
  ok := fun k c h => by
    match k, h with
    | 0, h => simp [tS] at h; subst h; decide +kernel
    | 1, h => simp [tS] at h; subst h; decide +kernel
    | k + 2, h => simp [tS] at h
  nd := fun i k a b hik h1 h2 => by
    match i, k, hik, h1, h2 with
    | 0, 1, _, h1, h2 => simp [tS] at h1 h2; subst h1 h2; decide
    | i, k + 2, _, _, h2 => simp [tS] at h2
    | i + 1, 1, h, _, _ => omega
  ks := by decide }
theorem nil_cat : catB [] = true := (catB_iff []).2 ⟨by simp, fun k t h => by simp at h, fun i k a b _ h => by simp at h⟩
theorem tS_cat : catB [tS] = true := (catB_iff [tS]).2 ⟨by simp, fun k t h => by
  match k, h with
  | 0, h => simp at h; subst h; exact tS_tab
  | k + 1, h => simp at h, fun i k a b hik h1 h2 => by
  match k, hik, h2 with
  | k + 1, _, h2 => simp at h2⟩
theorem tS_line : lineL tS = tSx.data.toList := by decide +kernel
theorem tS_pr : prS [tS] = tSx := by
  unfold prS
  rw [if_pos tS_cat]
  show (⟨(lineL tS ++ []).toArray⟩ : ByteArray) = _
  rw [List.append_nil, tS_line]
theorem tS_sz : Sz tS := ⟨by decide, fun k c h => by
  match k, h with
  | 0, h => simp [tS] at h; subst h; decide
  | 1, h => simp [tS] at h; subst h; decide
  | k + 2, h => simp [tS] at h⟩
set_option maxRecDepth 100000 in
set_option maxHeartbeats 4000000 in
theorem small_any (w : World) : Calls Tryd.prog 29 #[] w fun e w' => ∃ g1 g2, e = .returned (.agg (tS.cells (some ⟨g1, 0, none⟩) 2 2 (some ⟨g2, 0, none⟩) 1 1)) ∧ LCO.rd w' AllB (some ⟨g1, 0, none⟩) 2 tS.cols ∧ LK.rd w' AllB (some ⟨g2, 0, none⟩) 1 tS.keys ∧ Below w.heap.size w w' := by
  go_enter Tryd.func29, Tryd.ntmps29
  go_wp2
  have b0 := ((Blk.new w 28 (tS.cells (some ⟨w.heap.size + 1, 0, none⟩) 2 2 (some ⟨w.heap.size + 1 + 1, 0, none⟩) 1 1)).alloc (.cells #[.string ⟨#[97]⟩, .int .i64 2, .string ⟨#[98]⟩, .int .i64 3] 59)).alloc (.cells #[.int .i64 0] 3)
  have b1 := (Blk.new (w.alloc (.cells (tS.cells (some ⟨w.heap.size + 1, 0, none⟩) 2 2 (some ⟨w.heap.size + 1 + 1, 0, none⟩) 1 1) 28)) 59 #[.string ⟨#[97]⟩, .int .i64 2, .string ⟨#[98]⟩, .int .i64 3]).alloc (.cells #[.int .i64 0] 3)
  have b2 := Blk.new ((w.alloc (.cells (tS.cells (some ⟨w.heap.size + 1, 0, none⟩) 2 2 (some ⟨w.heap.size + 1 + 1, 0, none⟩) 1 1) 28)).alloc (.cells #[.string ⟨#[97]⟩, .int .i64 2, .string ⟨#[98]⟩, .int .i64 3] 59)) 3 #[.int .i64 0]
  rw [World.size_alloc] at b1
  rw [World.size_alloc, World.size_alloc] at b2
  exact bodyPost_ret (res1 Tryd.results29 rfl b0 Tryd.underlying28 rfl tableI) rfl ⟨w.heap.size + 1, w.heap.size + 1 + 1, rfl, Lay.rd_blk b1 rfl ⟨[.string ⟨#[97]⟩, .int .i64 2], _, rfl, rfl, [.string ⟨#[98]⟩, .int .i64 3], [], rfl, rfl, rfl⟩ trivial, Lay.rd_blk b2 rfl ⟨[.int .i64 0], [], rfl, rfl, rfl⟩ trivial, bl_al (bl_al (bl_al (Below.refl w.heap.size w) _) _) _⟩
set_option maxRecDepth 100000 in
set_option maxHeartbeats 4000000 in
theorem wakes_any (w : World) (hT : Tab w) : Calls Tryd.prog 8 #[] w fun e w' => e = .returned (.bool true) ∧ Below w.heap.size w w' := by
  have HTB := Lib.hid hT
  clear hT
  go_enter Tryd.func8, Tryd.ntmps8
  go_wp2_with fail
  refine (small_any w).mono ?_
  rintro e w1 ⟨g1, g2, rfl, hr, hk, q1⟩
  have HR := Lib.hid hr
  have HK := Lib.hid hk
  have HQ1 := Lib.hid q1
  clear hr hk q1
  go_wp2_with fail
  refine (add_any AllB [] none 0 0 tS _ 2 2 _ 1 1 w1 (Lay.rd_nil _) (by omega) (HTB.out.below HQ1.out) (fun k t h => by simp at h) HR.out HK.out tS_sz ⟨by decide, by decide⟩).mono ?_
  rintro e w2 ⟨A2, n2, c2, rfl, hr2, hn2, hc2, q2⟩
  have he : addE [] tS = 0 := by
    unfold addE
    rw [if_neg (by rw [nil_cat]; simp), if_neg (by rw [tS_tab]; simp), if_neg (by decide), if_neg (by decide)]
  have hR : addR [] tS = [tS] := by unfold addR; rw [if_pos he]; rfl
  rw [hR] at hr2
  rw [he]
  obtain rfl : n2 = 1 := (Lay.rd_len hr2).symm
  have HQ2 := Lib.hid (bl_ca HQ1.out q2)
  have HRC := Lib.hid hr2
  clear he hR hr2 q2
  have q3 := bl_al (Below.refl w2.heap.size w2) (.cells #[.slice A2 1 c2] 24)
  have HB3 := Lib.hid (Blk.new w2 24 #[.slice A2 1 c2])
  have y0 := HB3.out.cell 0
  have HRC3 := Lib.hid (Lay.rd_below HRC.out q3)
  have HQ3 := Lib.hid (bl_ca HQ2.out q3)
  clear q3
  go_wp2_with fail
  refine (print_any _ [tS] A2 1 c2 _ HRC3.out (by omega) (HTB.out.below HQ3.out) (fun k t h => by
    match k, h with
    | 0, h => simp at h; subst h; exact tS_sz
    | k + 1, h => simp at h)).mono ?_
  rintro e w4 ⟨rfl, q4⟩
  rw [tS_pr, tS_cat, show eC true = 0 from rfl]
  have HQ4 := Lib.hid (bl_ca HQ3.out q4)
  clear q4 y0
  go_wp2_with fail
  refine (small_any w4).mono ?_
  rintro e w5 ⟨g3, g4, rfl, hr, hk, q5⟩
  have HR5 := Lib.hid hr
  have HQ5 := Lib.hid (bl_ca HQ4.out q5)
  clear hr hk q5
  go_wp2_with fail
  refine (column_any AllB tS _ 2 2 _ 1 1 ⟨#[98]⟩ w5 HR5.out (by omega)).mono ?_
  rintro e w6 ⟨rfl, q6⟩
  rw [show idxL (fun t : CO => decide (t.name = (⟨#[98]⟩ : ByteArray))) tS.cols = 1 from by decide]
  have HQ6 := Lib.hid (bl_ca HQ5.out q6)
  clear q6
  have e1 : tSx.toList = [116, 97, 98, 108, 101, 32, 116, 32, 97, 32, 105, 110, 116, 32, 98, 32, 116, 101, 120, 116, 32, 98, 121, 32, 97, 10] := by decide +kernel
  rw [show fnd 1 = 1 from rfl]
  go_wp2
  all_goals (go_ret; exact ⟨rfl, HQ6.out⟩)
end Go.Proofs.YthgcdilkkldgjaaDoor
