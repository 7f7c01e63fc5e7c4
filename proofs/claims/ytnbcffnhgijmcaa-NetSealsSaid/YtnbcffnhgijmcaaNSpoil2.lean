/- net.Spoil, whole. Conditions: the slice reads as these parcels. -/
import Derived.Test.YtnbcffnhgijmcaaNSpoil
namespace Go.Proofs.Ytnbcffnhgijmcaa
open Go.RowKit
theorem spoilR_z {sent : Int} {ps : List PC} {x a : Int} {y : UInt8} (h : spoilE sent ps x a y ≠ 0) : (spoilR sent ps x a y).1 = 0 ∧ (spoilR sent ps x a y).2 = [] := by unfold spoilR; rw [if_neg h]; exact ⟨rfl, rfl⟩
theorem spoil_on (sent : Int) (A : Option Addr) (m c : Nat) (ps : List PC) (x a : Int) (y : UInt8) (w : World) (gA gY : Nat) (h : LP.rd w AllB A m ps) (hm : m ≤ 9223372036854775807) (h1 : Blk w gA 3 #[.int .i64 a]) (h2 : Blk w gY 5 #[vb y]) :
    Calls Try.prog 47 #[.agg #[.int .u64 sent, .slice A m c], .int .u64 x, .func (.func 63) #[] #[.pointer (some ⟨gA, 0, none⟩), .pointer (some ⟨gY, 0, none⟩)]] w fun e w' => ∃ A2 m2 c2, e = .returned (.tuple #[.agg #[.int .u64 (spoilR sent ps x a y).1, .slice A2 m2 c2], .int .i64 (spoilE sent ps x a y)]) ∧ OutN w' w.heap.size A2 m2 c2 (spoilR sent ps x a y).2 ∧ Below w.heap.size w w' := by
  cases hc : chkB sent ps
  · have e1 : spoilE sent ps x a y = 340 := by unfold spoilE; rw [hc]; rfl
    have e2 : spoilR sent ps x a y = (0, []) := by unfold spoilR; rw [e1]; rfl
    rw [e1, e2]
    exact (on_no sent A m c ps x _ _ w h hm hc).mono fun _ _ ⟨a, b⟩ => ⟨none, 0, 0, a, OutN.nil _ _, b⟩
  · refine (on_any sent A m c ps x _ _ _ _ _ (fun w' => Below w.heap.size w w') (fun _ _ => True) w h hc (Go.Proofs.enters_of Try.func63 (by kernel_rfl) rfl) (fun w1 w2 r hr _ hk hg => bl_gr hk hg hr) (fun _ _ _ _ _ _ h _ => h) (fun hne => spoilR_z hne) (fun hh => ⟨by unfold spoilE; rw [hc, if_pos rfl, hh]; rfl, fun _ q => q⟩) ?_).mono fun _ _ ⟨A2, m2, c2, h1, ⟨es, h2, h3, _⟩, h4⟩ => ⟨A2, m2, c2, h1, ⟨es, h2, h3⟩, h4⟩
    intro W i q hsz hb hlow hh
    exact spoil1_doc sent m ps x a y W gA gY i (fun w' => Below w.heap.size w w' ∧ Blk w' (w.heap.size + 3) 26 #[.int .u64 0, .slice none 0 0]) hc h.1 hlow hh (h1.ca q) (h2.ca q) (fun w' q' => ⟨q.trans (q'.mono (by omega)), hb.ca q'⟩)
set_option maxRecDepth 100000 in
set_option maxHeartbeats 8000000 in
theorem spoil_any (sent : Int) (A : Option Addr) (m c : Nat) (ps : List PC) (x a : Int) (y : UInt8) (w : World) (h : LP.rd w AllB A m ps) (hm : m ≤ 9223372036854775807) :
    Calls Try.prog 39 #[.agg #[.int .u64 sent, .slice A m c], .int .u64 x, .int .i64 a, vb y] w fun e w' => ∃ A2 m2 c2, e = .returned (.tuple #[.agg #[.int .u64 (spoilR sent ps x a y).1, .slice A2 m2 c2], .int .i64 (spoilE sent ps x a y)]) ∧ OutN w' w.heap.size A2 m2 c2 (spoilR sent ps x a y).2 ∧ Below w.heap.size w w' := by
  have HW := Lib.hid (fun W gA gY h h1 h2 => spoil_on sent A m c ps x a y W gA gY h hm h1 h2)
  generalize spoilR sent ps x a y = R at *
  generalize spoilE sent ps x a y = E at *
  obtain ⟨s, l⟩ := R
  have HH := Lib.hid h
  clear h
  generalize hv : vb y = v at *
  have HVI := Lib.hid hv
  clear hv
  have bb := Below.refl w.heap.size w
  have bN := Blk.new w 26 #[.int .u64 sent, .slice A m c]
  replace bb := bl_al bb (.cells #[.int .u64 sent, .slice A m c] 26)
  replace bN := bN.ca (bl_al (Below.refl _ _) (.cells #[.int .i64 a] 3))
  have bA : Blk ((w.alloc (.cells #[.int .u64 sent, .slice A m c] 26)).alloc (.cells #[.int .i64 a] 3)) (w.heap.size + 1) 3 #[.int .i64 a] := Blk.mk' (by simp only [World.size_alloc])
  replace bb := bl_al bb (.cells #[.int .i64 a] 3)
  replace bN := bN.ca (bl_al (Below.refl _ _) (.cells #[v] 5))
  replace bA := bA.ca (bl_al (Below.refl _ _) (.cells #[v] 5))
  have bY : Blk (((w.alloc (.cells #[.int .u64 sent, .slice A m c] 26)).alloc (.cells #[.int .i64 a] 3)).alloc (.cells #[v] 5)) (w.heap.size + 2) 5 #[v] := Blk.mk' (by simp only [World.size_alloc])
  replace bb := bl_al bb (.cells #[v] 5)
  replace bN := bN.ca (bl_al (Below.refl _ _) (.cells #[.int .u64 0, .slice none 0 0] 26))
  replace bA := bA.ca (bl_al (Below.refl _ _) (.cells #[.int .u64 0, .slice none 0 0] 26))
  replace bY := bY.ca (bl_al (Below.refl _ _) (.cells #[.int .u64 0, .slice none 0 0] 26))
  have bR : Blk ((((w.alloc (.cells #[.int .u64 sent, .slice A m c] 26)).alloc (.cells #[.int .i64 a] 3)).alloc (.cells #[v] 5)).alloc (.cells #[.int .u64 0, .slice none 0 0] 26)) (w.heap.size + 3) 26 #[.int .u64 0, .slice none 0 0] := Blk.mk' (by simp only [World.size_alloc])
  replace bb := bl_al bb (.cells #[.int .u64 0, .slice none 0 0] 26)
  have hsz : w.heap.size + 4 ≤ ((((w.alloc (.cells #[.int .u64 sent, .slice A m c] 26)).alloc (.cells #[.int .i64 a] 3)).alloc (.cells #[v] 5)).alloc (.cells #[.int .u64 0, .slice none 0 0] 26)).heap.size := by simp only [World.size_alloc]; omega
  go_enter Try.func39, Try.ntmps39
  go_wp2_with fail
  generalize ((((w.alloc (.cells #[.int .u64 sent, .slice A m c] 26)).alloc (.cells #[.int .i64 a] 3)).alloc (.cells #[v] 5)).alloc (.cells #[.int .u64 0, .slice none 0 0] 26)) = w1 at *
  refine (HW.out w1 _ _ (Lay.rd_below HH.out bb) bA bY).mono ?_
  rintro e w2 ⟨A2, m2, c2, rfl, ho, hb2⟩
  have KR := Lib.hid (bR.ca hb2)
  have HO := Lib.hid ho
  have HB := Lib.hid (bl_ca bb hb2)
  have hz2 := hb2.size
  clear bR ho hb2 bb
  go_wp2_with (refine wpList_store_blk rfl 26 (.tmp 8) (.tmp 14) rfl (w.heap.size + 3) 26 _ _ rfl rfl KR.out rfl netI (by simp [Value.oneCell']) ?_; intro wz hZ gz)
  exact bodyPost_ret (res2 Try.results39 rfl rfl hZ Try.underlying26 rfl netI) rfl ⟨A2, m2, c2, rfl, (HO.out.kept gz (by omega)).less (by omega), bl_gr HB.out gz (by omega)⟩
end Go.Proofs.Ytnbcffnhgijmcaa
