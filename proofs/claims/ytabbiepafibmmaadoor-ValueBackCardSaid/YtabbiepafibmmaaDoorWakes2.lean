/- bowspritlaw02.wakes: the layer does something. Conditions: the tables. -/
import Derived.Test.YtabbiepafibmmaaDoorParse1
namespace Go.Proofs.YtabbiepafibmmaaDoor
open Go.RowKit
theorem and_nf (w : World) (h : Tru w) : Calls Tryd.prog 30 #[.agg #[.int .i64 0, .int .i64 0, .int .u64 0, .string ⟨#[]⟩], .agg #[.int .i64 1, .int .i64 0, .int .u64 0, .string ⟨#[]⟩]] w fun e w' => e = .returned (.tuple #[.agg #[.int .i64 1, .int .i64 0, .int .u64 0, .string ⟨#[]⟩], .int .i64 0]) ∧ Below w.heap.size w w' := by
  have := and_any V0 VB0 w h
  rw [show andV V0 VB0 = (VB0, 0) from by unfold andV logV; rw [if_pos (by decide +kernel)]; rfl] at this
  exact this
theorem cmp_35 (w : World) : Calls Tryd.prog 34 #[.agg #[.int .i64 2, .int .i64 3, .int .u64 0, .string ⟨#[]⟩], .agg #[.int .i64 2, .int .i64 5, .int .u64 0, .string ⟨#[]⟩]] w fun e w' => e = .returned (.int .i64 (-1)) ∧ Below w.heap.size w w' := by
  have := compare_any ⟨2, 3, 0, ⟨#[]⟩⟩ ⟨2, 5, 0, ⟨#[]⟩⟩ w
  rw [show cmpV ⟨2, 3, 0, ⟨#[]⟩⟩ ⟨2, 5, 0, ⟨#[]⟩⟩ = -1 from by decide +kernel] at this
  exact this
set_option maxRecDepth 100000 in
set_option maxHeartbeats 4000000 in
theorem wakes2_any (w : World) (hT : Tab w) : Calls Tryd.prog 10 #[] w fun e w' => e = .returned (.bool true) ∧ Below w.heap.size w w' := by
  have bb := Below.refl w.heap.size w
  go_enter Tryd.func10, Tryd.ntmps10
  go_wp2_with fail
  refine (vtext_any sIts (by decide) _).mono ?_
  rintro e w2 ⟨rfl, q2⟩
  replace hT := hT.below q2
  replace bb := bl_ca bb q2
  clear q2
  replace hT := hT.below (bl_al (Below.refl _ _) (.cells #[.int .i64 3, .int .i64 0, .int .u64 0, .string sIts] 28))
  have hS := Blk.new w2 28 #[.int .i64 3, .int .i64 0, .int .u64 0, .string sIts]
  have bz := bb.size
  replace bb := bl_al bb (.cells #[.int .i64 3, .int .i64 0, .int .u64 0, .string sIts] 28)
  go_wp2_with fail
  generalize w2.alloc (.cells #[.int .i64 3, .int .i64 0, .int .u64 0, .string sIts] 28) = w3 at *
  generalize w2.heap.size = G3 at *
  refine (print_its _ hT).mono ?_
  rintro e w4 ⟨rfl, q4⟩
  replace hT := hT.below q4
  replace hS := hS.ca q4
  replace bb := bl_ca bb q4
  clear q4
  go_wp2_with fail
  refine (parse_its _ hT).mono ?_
  rintro e w5 ⟨rfl, q5⟩
  replace hT := hT.below q5
  replace hS := hS.ca q5
  replace bb := bl_ca bb q5
  clear q5
  replace hT := hT.below (bl_al (Below.refl _ _) (.cells #[.int .i64 3, .int .i64 0, .int .u64 0, .string sIts] 28))
  have lhV_hS := hS.lt
  replace hS := hS.alloc (.cells #[.int .i64 3, .int .i64 0, .int .u64 0, .string sIts] 28)
  have hV := Blk.new w5 28 #[.int .i64 3, .int .i64 0, .int .u64 0, .string sIts]
  have bz := bb.size
  replace bb := bl_al bb (.cells #[.int .i64 3, .int .i64 0, .int .u64 0, .string sIts] 28)
  go_wp2_with fail
  generalize w5.alloc (.cells #[.int .i64 3, .int .i64 0, .int .u64 0, .string sIts] 28) = w6 at *
  generalize w5.heap.size = G6 at *
  refine (vnull_any _).mono ?_
  rintro e w7 ⟨rfl, q7⟩
  replace hT := hT.below q7
  replace hS := hS.ca q7
  replace hV := hV.ca q7
  replace bb := bl_ca bb q7
  clear q7
  go_wp2_with fail
  refine (vbool_false _).mono ?_
  rintro e w8 ⟨rfl, q8⟩
  replace hT := hT.below q8
  replace hS := hS.ca q8
  replace hV := hV.ca q8
  replace bb := bl_ca bb q8
  clear q8
  go_wp2_with fail
  refine (and_nf _ hT.1).mono ?_
  rintro e w9 ⟨rfl, q9⟩
  replace hT := hT.below q9
  replace hS := hS.ca q9
  replace hV := hV.ca q9
  replace bb := bl_ca bb q9
  clear q9
  replace hT := hT.below (bl_al (Below.refl _ _) (.cells #[.int .i64 1, .int .i64 0, .int .u64 0, .string ⟨#[]⟩] 28))
  have lhA_hS := hS.lt
  have lhA_hV := hV.lt
  replace hS := hS.alloc (.cells #[.int .i64 1, .int .i64 0, .int .u64 0, .string ⟨#[]⟩] 28)
  replace hV := hV.alloc (.cells #[.int .i64 1, .int .i64 0, .int .u64 0, .string ⟨#[]⟩] 28)
  have hA := Blk.new w9 28 #[.int .i64 1, .int .i64 0, .int .u64 0, .string ⟨#[]⟩]
  have bz := bb.size
  replace bb := bl_al bb (.cells #[.int .i64 1, .int .i64 0, .int .u64 0, .string ⟨#[]⟩] 28)
  have hS_0 : (w9.alloc (.cells #[.int .i64 1, .int .i64 0, .int .u64 0, .string ⟨#[]⟩] 28)).cell? ⟨G3, 0, none⟩ = some (.int .i64 3) := hS.cell 0
  have hS_1 : (w9.alloc (.cells #[.int .i64 1, .int .i64 0, .int .u64 0, .string ⟨#[]⟩] 28)).cell? ⟨G3, 1, none⟩ = some (.int .i64 0) := hS.cell 1
  have hS_2 : (w9.alloc (.cells #[.int .i64 1, .int .i64 0, .int .u64 0, .string ⟨#[]⟩] 28)).cell? ⟨G3, 2, none⟩ = some (.int .u64 0) := hS.cell 2
  have hS_3 : (w9.alloc (.cells #[.int .i64 1, .int .i64 0, .int .u64 0, .string ⟨#[]⟩] 28)).cell? ⟨G3, 3, none⟩ = some (.string sIts) := hS.cell 3
  have hV_0 : (w9.alloc (.cells #[.int .i64 1, .int .i64 0, .int .u64 0, .string ⟨#[]⟩] 28)).cell? ⟨G6, 0, none⟩ = some (.int .i64 3) := hV.cell 0
  have hV_1 : (w9.alloc (.cells #[.int .i64 1, .int .i64 0, .int .u64 0, .string ⟨#[]⟩] 28)).cell? ⟨G6, 1, none⟩ = some (.int .i64 0) := hV.cell 1
  have hV_2 : (w9.alloc (.cells #[.int .i64 1, .int .i64 0, .int .u64 0, .string ⟨#[]⟩] 28)).cell? ⟨G6, 2, none⟩ = some (.int .u64 0) := hV.cell 2
  have hV_3 : (w9.alloc (.cells #[.int .i64 1, .int .i64 0, .int .u64 0, .string ⟨#[]⟩] 28)).cell? ⟨G6, 3, none⟩ = some (.string sIts) := hV.cell 3
  have hq : sQuo.toList = [39, 105, 116, 39, 39, 115, 39] := by rw [ByteArray.toList_eq]; decide
  go_wp2_with fail
  generalize w9.alloc (.cells #[.int .i64 1, .int .i64 0, .int .u64 0, .string ⟨#[]⟩] 28) = w30 at *
  generalize w9.heap.size = GA at *
  refine (vint_any 3 _).mono ?_
  rintro e w31 ⟨rfl, q31⟩
  clear hS_0 hS_1 hS_2 hS_3 hV_0 hV_1 hV_2 hV_3
  replace hT := hT.below q31
  replace hS := hS.ca q31
  replace hV := hV.ca q31
  replace hA := hA.ca q31
  replace bb := bl_ca bb q31
  clear q31
  go_wp2_with fail
  refine (vint_any 5 _).mono ?_
  rintro e w32 ⟨rfl, q32⟩
  replace hT := hT.below q32
  replace hS := hS.ca q32
  replace hV := hV.ca q32
  replace hA := hA.ca q32
  replace bb := bl_ca bb q32
  clear q32
  go_wp2_with fail
  refine (cmp_35 _).mono ?_
  rintro e w33 ⟨rfl, q33⟩
  replace hT := hT.below q33
  replace hS := hS.ca q33
  replace hV := hV.ca q33
  replace hA := hA.ca q33
  replace bb := bl_ca bb q33
  clear q33
  go_wp2
  go_ret
  exact ⟨rfl, bb⟩
end Go.Proofs.YtabbiepafibmmaaDoor
