/- net.Lose, net.Pick. Conditions: the slice reads as these parcels. -/
import Derived.Test.YtnbcffnhgijmcaaNCome2
namespace Go.Proofs.Ytnbcffnhgijmcaa
open Go.RowKit
set_option maxRecDepth 100000 in
set_option maxHeartbeats 8000000 in
theorem lose_any (sent : Int) (A : Option Addr) (m c : Nat) (ps : List PC) (x : Int) (w : World) (h : LP.rd w AllB A m ps) (hm : m ≤ 9223372036854775807) :
    Calls Try.prog 21 #[.agg #[.int .u64 sent, .slice A m c], .int .u64 x] w fun e w' => ∃ A2 m2 c2, e = .returned (.tuple #[.agg #[.int .u64 (comeR sent ps x).1, .slice A2 m2 c2], .int .i64 (comeE sent ps x)]) ∧ OutN w' w.heap.size A2 m2 c2 (comeR sent ps x).2 ∧ Below w.heap.size w w' := by
  have HW := Lib.hid (fun W h => come_any sent A m c ps x W h hm)
  generalize comeR sent ps x = R at *
  generalize comeP sent ps x = P at *
  generalize comeE sent ps x = E at *
  obtain ⟨s, l⟩ := R
  have HH := Lib.hid h
  clear h
  have bb := Below.refl w.heap.size w
  have bN := Blk.new w 26 #[.int .u64 sent, .slice A m c]
  replace bb := bl_al bb (.cells #[.int .u64 sent, .slice A m c] 26)
  replace bN := bN.ca (bl_al (Below.refl _ _) (.cells #[.int .u64 0, .slice none 0 0] 26))
  have bR : Blk ((w.alloc (.cells #[.int .u64 sent, .slice A m c] 26)).alloc (.cells #[.int .u64 0, .slice none 0 0] 26)) (w.heap.size + 1) 26 #[.int .u64 0, .slice none 0 0] := Blk.mk' (by simp only [World.size_alloc])
  replace bb := bl_al bb (.cells #[.int .u64 0, .slice none 0 0] 26)
  have hsz : w.heap.size + 2 ≤ ((w.alloc (.cells #[.int .u64 sent, .slice A m c] 26)).alloc (.cells #[.int .u64 0, .slice none 0 0] 26)).heap.size := by simp only [World.size_alloc]; omega
  go_enter Try.func21, Try.ntmps21
  go_wp2_with fail
  generalize ((w.alloc (.cells #[.int .u64 sent, .slice A m c] 26)).alloc (.cells #[.int .u64 0, .slice none 0 0] 26)) = w1 at *
  refine (HW.out w1 (Lay.rd_below HH.out bb)).mono ?_
  rintro e w2 ⟨A2, m2, c2, pA, pn, pc, es, rfl, hd, hes, _, _, hb2⟩
  have q1 := bl_al (bl_al (Below.refl w2.heap.size w2) (.cells #[.int .u64 s, .slice A2 m2 c2] 26)) (.cells #[.int .u64 P.num, .int .i64 P.frm, .int .i64 P.to, .slice pA pn pc, .bool P.sp] 29)
  have KR := Lib.hid ((bR.ca hb2).ca q1)
  have HD := Lib.hid (hd.below q1)
  have HES := Lib.hid hes
  have HB := Lib.hid (bl_ca (bl_ca bb hb2) q1)
  have hz2 := hb2.size
  clear bR bN bb hb2 hd hes q1
  go_wp2_with (refine wpList_store_blk rfl 26 (.tmp 4) (.tmp 16) rfl (w.heap.size + 1) 26 _ _ rfl rfl KR.out rfl netI (by simp [Value.oneCell']) ?_; intro wz hZ gz)
  exact bodyPost_ret (res2 Try.results21 rfl rfl hZ Try.underlying26 rfl netI) rfl ⟨A2, m2, c2, rfl, ⟨es, (HD.out.kept gz (by omega)).less (by omega), HES.out⟩, bl_gr HB.out gz (by omega)⟩
end Go.Proofs.Ytnbcffnhgijmcaa
