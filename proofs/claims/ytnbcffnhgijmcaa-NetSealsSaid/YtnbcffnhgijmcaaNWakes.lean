/- bowspritlaw24.wakes. Conditions: none. -/
import Derived.Test.YtnbcffnhgijmcaaRSend
namespace Go.Proofs.Ytnbcffnhgijmcaa
open Go.RowKit
theorem OutN.rd {w : World} {B : Nat} {A : Option Addr} {m c : Nat} {ps : List PC} {F : Nat → Prop} (h : OutN w B A m c ps) (hF : ∀ b, B ≤ b → F b) : LP.rd w F A m ps := by
  obtain ⟨es, h1, rfl⟩ := h
  exact h1.rd hF
theorem OutN.len {w : World} {B : Nat} {A : Option Addr} {m c : Nat} {ps : List PC} (h : OutN w B A m c ps) : m = ps.length := by
  obtain ⟨es, h1, rfl⟩ := h
  rw [List.length_map, h1.len]
theorem rd_kept {w w' : World} {g : Nat} {A : Option Addr} {m : Nat} {ps : List PC} (h : LP.rd w (fun b => b ≠ g) A m ps) (hk : Kept w w' g w.heap.size) : LP.rd w' (fun b => b ≠ g) A m ps := Lay.rd_keep (fun b hF hb => hk.block b hb hF) h
theorem rd_all {w : World} {F : Nat → Prop} {A : Option Addr} {m : Nat} {ps : List PC} (h : LP.rd w F A m ps) : LP.rd w AllB A m ps := Lay.rd_weak (fun _ _ _ => trivial) h
/-- one byte that the call owns -/
theorem own_one {w : World} {B : Nat} {A : Option Addr} {n c : Nat} {x : UInt8} (h : OwnB w B A n c [x]) : n = 1 ∧ ∃ g, A = some ⟨g, 0, none⟩ ∧ B ≤ g ∧ g < w.heap.size ∧ w.cell? ⟨g, 0, none⟩ = some (vb x) := by
  have hn : n = 1 := by have := (OwnB.rd h).len; simpa using this.symm
  subst hn
  obtain ⟨g, cap, hv, _, hlt⟩ := World.ownsRow.form h (by omega)
  injection hv with hA
  subst hA
  exact ⟨rfl, g, rfl, (h.base_ g (by simp [Value.ownBlock])).1, hlt, (World.ownsRow.cellAt h 0 (by omega)).trans rfl⟩
theorem wk1 : sendR 0 [] 1 4 [7] = (1, [⟨1, 1, 4, [7], false⟩]) ∧ sendE 0 [] 1 4 [7] = 0 := by decide
theorem wk2 : twinR 1 [⟨1, 1, 4, [7], false⟩] 1 = (2, [⟨1, 1, 4, [7], false⟩, ⟨2, 1, 4, [7], false⟩]) ∧ twinE 1 [⟨1, 1, 4, [7], false⟩] 1 = 0 := by decide
theorem wk3 : spoilR 2 [⟨1, 1, 4, [7], false⟩, ⟨2, 1, 4, [7], false⟩] 2 0 1 = (2, [⟨1, 1, 4, [7], false⟩, ⟨2, 1, 4, [6], true⟩]) ∧ spoilE 2 [⟨1, 1, 4, [7], false⟩, ⟨2, 1, 4, [7], false⟩] 2 0 1 = 0 := by decide
theorem wk4 : comeR 2 [⟨1, 1, 4, [7], false⟩, ⟨2, 1, 4, [6], true⟩] 1 = (2, [⟨2, 1, 4, [6], true⟩]) ∧ comeE 2 [⟨1, 1, 4, [7], false⟩, ⟨2, 1, 4, [6], true⟩] 1 = 0 ∧ comeP 2 [⟨1, 1, 4, [7], false⟩, ⟨2, 1, 4, [6], true⟩] 1 = ⟨1, 1, 4, [7], false⟩ := by decide
theorem wk5 : comeR 2 [⟨2, 1, 4, [6], true⟩] 2 = (2, []) ∧ comeE 2 [⟨2, 1, 4, [6], true⟩] 2 = 0 ∧ comeP 2 [⟨2, 1, 4, [6], true⟩] 2 = ⟨2, 1, 4, [6], true⟩ := by decide
set_option maxRecDepth 100000 in
set_option maxHeartbeats 8000000 in
theorem wakes_any (w : World) : Calls Try.prog 10 #[] w fun e w' => e = .returned (.bool true) ∧ Below w.heap.size w w' := by
  have b0 := bl_al (Below.refl w.heap.size w) (.cells #[.int .u8 7] 5)
  have hr : RdB (w.alloc (.cells #[.int .u8 7] 5)) (some ⟨w.heap.size, 0, none⟩) 1 [7] := reads_blk (Blk.new w 5 #[.int .u8 7]) rfl rfl
  have HS := Lib.hid (send_any 0 none 0 0 [] 1 4 (some ⟨w.heap.size, 0, none⟩) 1 1 [7] _ (Lay.rd_nil none) (by omega) (by omega) hr)
  rw [wk1.1, wk1.2] at HS
  dsimp only at HS
  clear hr
  go_enter Try.func10, Try.ntmps10
  go_wp2_with fail
  refine HS.out.mono ?_
  clear HS
  rintro e w1 ⟨A1, m1, c1, rfl, hO1, q1⟩
  have hb1 := bl_ca b0 q1
  clear q1 b0
  go_wp2_with (refine wpList_store_blk rfl 26 (.tmp 1) (.tmp 16) rfl w1.heap.size 26 _ _ rfl rfl (Blk.new _ _ _) rfl netI (by simp [Value.oneCell']) ?_; intro wa hZa ga; have x0 : wa.cell? ⟨w1.heap.size, 0, none⟩ = some (.int .u64 1) := hZa.cell 0; have x1 : wa.cell? ⟨w1.heap.size, 1, none⟩ = some (.slice A1 m1 c1) := hZa.cell 1)
  have hm1 := hO1.len
  have hba := bl_gr (bl_al hb1 _) ga hb1.size
  have hgw : w.heap.size ≤ w1.heap.size := hb1.size
  have rda : LP.rd wa AllB A1 m1 [⟨1, 1, 4, [7], false⟩] := Lay.rd_below (hO1.rd (fun _ _ => trivial)) (bl_gr (bl_al (Below.refl _ _) _) ga (Nat.le_refl _))
  have hgl : w1.heap.size < wa.heap.size := hZa.lt
  have HT := Lib.hid (twin_any 1 A1 m1 c1 [⟨1, 1, 4, [7], false⟩] 1 wa rda (by simp at hm1; omega) (by omega))
  rw [wk2.1, wk2.2] at HT
  dsimp only at HT
  clear rda hm1 hO1 ga hb1
  generalize w1.heap.size = g at *
  refine HT.out.mono ?_
  clear HT x0 x1
  rintro e w2 ⟨A2, m2, c2, rfl, hO2, q2⟩
  have hb2 := bl_ca hba q2
  have hZ2 := hZa.ca q2
  clear hZa hba
  go_wp2_with (refine wpList_store_blk rfl 26 (.tmp 1) (.tmp 23) rfl g 26 _ _ rfl rfl hZ2 rfl netI (by simp [Value.oneCell']) ?_; intro wb hZb gb; have x0 : wb.cell? ⟨g, 0, none⟩ = some (.int .u64 2) := hZb.cell 0; have x1 : wb.cell? ⟨g, 1, none⟩ = some (.slice A2 m2 c2) := hZb.cell 1)
  have hm2 := hO2.len
  have hbb := bl_gr hb2 gb hgw
  have rdb : LP.rd wb (fun b => b ≠ g) A2 m2 [⟨1, 1, 4, [7], false⟩, ⟨2, 1, 4, [7], false⟩] := rd_kept (hO2.rd (fun b hb => by omega)) (Kept.of_grown gb (Nat.le_refl _) (.inl rfl))
  have HS := Lib.hid (spoil_any 2 A2 m2 c2 [⟨1, 1, 4, [7], false⟩, ⟨2, 1, 4, [7], false⟩] 2 0 1 wb (rd_all rdb) (by simp at hm2; omega))
  rw [wk3.1, wk3.2] at HS
  dsimp only at HS
  have hgl2 : g < wb.heap.size := hZb.lt
  clear rdb hm2 hO2 gb hb2 hZ2 q2 hgl
  refine HS.out.mono ?_
  clear HS x0 x1
  rintro e w3 ⟨A3, m3, c3, rfl, hO3, q3⟩
  have hb3 := bl_ca hbb q3
  have hZ3 := hZb.ca q3
  clear hZb hbb
  go_wp2_with (refine wpList_store_blk rfl 26 (.tmp 1) (.tmp 30) rfl g 26 _ _ rfl rfl hZ3 rfl netI (by simp [Value.oneCell']) ?_; intro wc hZc gc; have x0 : wc.cell? ⟨g, 0, none⟩ = some (.int .u64 2) := hZc.cell 0; have x1 : wc.cell? ⟨g, 1, none⟩ = some (.slice A3 m3 c3) := hZc.cell 1)
  have hm3 := hO3.len
  have hbc := bl_gr hb3 gc hgw
  have rdc : LP.rd wc (fun b => b ≠ g) A3 m3 [⟨1, 1, 4, [7], false⟩, ⟨2, 1, 4, [6], true⟩] := rd_kept (hO3.rd (fun b hb => by omega)) (Kept.of_grown gc (Nat.le_refl _) (.inl rfl))
  have HC := Lib.hid (come_any 2 A3 m3 c3 [⟨1, 1, 4, [7], false⟩, ⟨2, 1, 4, [6], true⟩] 1 wc (rd_all rdc) (by simp at hm3; omega))
  rw [wk4.1, wk4.2.1, wk4.2.2] at HC
  dsimp only at HC
  have hgl3 : g < wc.heap.size := hZc.lt
  clear rdc hm3 hO3 gc hb3 hZ3 q3 hgl2
  refine HC.out.mono ?_
  clear HC x0 x1
  rintro e w4 ⟨A4, m4, c4, pA, pn, pc, es4, rfl, hD4, hes4, ho4, _, q4⟩
  have hO4 : OutN w4 wc.heap.size A4 m4 c4 [⟨2, 1, 4, [6], true⟩] := ⟨es4, hD4, hes4⟩
  have hb4 := bl_ca hbc q4
  have hZ4 := hZc.ca q4
  obtain ⟨rfl, gp, rfl, hgp1, hgp2, hgp3⟩ := own_one ho4
  have hg4 : g < w4.heap.size := hZ4.lt
  clear hZc hbc hD4 hes4 ho4
  go_wp2_with (first | (refine wpList_store_blk rfl 26 (.tmp 1) (.tmp 36) rfl g 26 _ _ rfl rfl (hZ4.ca (bl_al (Below.refl _ _) _)) rfl netI (by simp [Value.oneCell']) ?_; intro wd hZd gd) | (refine wpList_store_blk rfl 29 (.tmp 7) (.tmp 37) rfl w4.heap.size 29 _ _ rfl rfl ((Blk.new _ _ _).apart gd (by omega)) rfl parcelI (by simp [Value.oneCell']) ?_; intro we hZe ge; have hZg := (hZd.apart ge (by omega)); have x0 : we.cell? ⟨g, 0, none⟩ = some (.int .u64 2) := hZg.cell 0; have x1 : we.cell? ⟨g, 1, none⟩ = some (.slice A4 m4 c4) := hZg.cell 1))
  have hm4 := hO4.len
  have hk4 : Kept w4 we g w4.heap.size := ((Kept.of_below (bl_al (Below.refl _ _) _) (Nat.le_refl _)).trans (Kept.of_grown gd (by simp) (.inl rfl))).trans (Kept.of_grown ge (by have := gd.size; simp at this; omega) (.inr (Nat.le_refl _)))
  have hbe := bl_gr (bl_gr (bl_al hb4 _) gd hgw) ge hb4.size
  have rde : LP.rd we (fun b => b ≠ g) A4 m4 [⟨2, 1, 4, [6], true⟩] := rd_kept (hO4.rd (fun b hb => by omega)) hk4
  have hgp4 : we.cell? ⟨gp, 0, none⟩ = some (.int .u8 7) := (cell_of_heap (hk4.block gp hgp2 (by omega))).trans hgp3
  have hgp5 : gp < we.heap.size := Nat.lt_of_lt_of_le hgp2 hk4.size
  have HC := Lib.hid (come_any 2 A4 m4 c4 [⟨2, 1, 4, [6], true⟩] 2 we (rd_all rde) (by simp at hm4; omega))
  rw [wk5.1, wk5.2.1, wk5.2.2] at HC
  dsimp only at HC
  have hh4 : w.heap.size ≤ w4.heap.size := hb4.size
  clear rde hm4 hO4 gd ge hb4 hZ4 q4 hgl3 hk4 hgp1 hgp2 hgp3 hZd hg4
  generalize w4.heap.size = h at *
  refine HC.out.mono ?_
  clear HC x0 x1
  rintro e w5 ⟨A5, m5, c5, qA, qn, qc, es5, rfl, hD5, hes5, ho5, _, q5⟩
  obtain ⟨rfl, gq, rfl, hgq1, hgq2, hgq3⟩ := own_one ho5
  have hb5 := bl_ca hbe q5
  have hZ5 := hZe.ca q5
  have hgp6 : w5.cell? ⟨gp, 0, none⟩ = some (.int .u8 7) := cell_ca hgp4 hgp5 q5
  have hgp7 : gp < w5.heap.size := Nat.lt_of_lt_of_le hgp5 q5.size
  clear hZe hbe hD5 hes5 ho5 q5 hgp4 hgp5
  go_wp2_with (first | (refine wpList_store_blk rfl 26 (.tmp 9) (.tmp 43) rfl w5.heap.size 26 _ _ rfl rfl ((Blk.new _ _ _).ca (bl_al (Below.refl _ _) _)) rfl netI (by simp [Value.oneCell']) ?_; intro wf hZf gf) | (refine wpList_store_blk rfl 29 (.tmp 10) (.tmp 44) rfl (w5.heap.size + 1) 29 _ _ rfl rfl ((Blk.mk' (by simp)).apart gf (by omega)) rfl parcelI (by simp [Value.oneCell']) ?_; intro wh hZhh gh; have T5 := bl_gr (bl_gr (bl_al (bl_al (Below.refl w5.heap.size w5) _) _) gf (Nat.le_refl _)) gh (Nat.le_succ _); have hZh := hZ5.ca T5; have y3 : wh.cell? ⟨h, 3, none⟩ = some (.slice (some ⟨gp, 0, none⟩) 1 pc) := hZh.cell 3; have y4 : wh.cell? ⟨gp, 0, none⟩ = some (.int .u8 7) := cell_ca hgp6 hgp7 T5; have y5 : wh.cell? ⟨gq, 0, none⟩ = some (.int .u8 6) := cell_ca hgq3 hgq2 T5; have y6 : wh.cell? ⟨w5.heap.size + 1, 3, none⟩ = some (.slice (some ⟨gq, 0, none⟩) 1 qc) := hZhh.cell 3; have y7 : wh.cell? ⟨w5.heap.size + 1, 4, none⟩ = some (.bool true) := hZhh.cell 4))
  go_ret
  exact ⟨rfl, bl_gr (bl_gr (bl_al (bl_al hb5 _) _) gf hb5.size) gh (Nat.le_trans hb5.size (Nat.le_succ _))⟩
end Go.Proofs.Ytnbcffnhgijmcaa
