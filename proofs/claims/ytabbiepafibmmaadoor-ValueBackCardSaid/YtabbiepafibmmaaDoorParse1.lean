/- value.Parse at one text. Conditions: the tables. -/
import Derived.Test.YtabbiepafibmmaaDoorQuo
namespace Go.Proofs.YtabbiepafibmmaaDoor
open Go.RowKit
theorem word0 (w : World) : Sem.run Tryd.prog (Instr.index 54 (.agg #[.string sFalse, .string sNull, .string sTrue]) (.int .i64 0)) w = .ok (.string sFalse) w := by kernel_rfl
theorem word1 (w : World) : Sem.run Tryd.prog (Instr.index 54 (.agg #[.string sFalse, .string sNull, .string sTrue]) (.int .i64 1)) w = .ok (.string sNull) w := by kernel_rfl
theorem word2 (w : World) : Sem.run Tryd.prog (Instr.index 54 (.agg #[.string sFalse, .string sNull, .string sTrue]) (.int .i64 2)) w = .ok (.string sTrue) w := by kernel_rfl
set_option maxRecDepth 100000 in
set_option maxHeartbeats 4000000 in
theorem parse_its (w : World) (hT : Tab w) : Calls Tryd.prog 16 #[.string sQuo] w fun e w' => e = .returned (.tuple #[.agg #[.int .i64 3, .int .i64 0, .int .u64 0, .string sIts], .int .i64 0]) ∧ Below w.heap.size w w' := by
  have hR := Blk.new w 28 #[.int .i64 0, .int .i64 0, .int .u64 0, .string ⟨#[]⟩]
  have bb := bl_al (Below.refl w.heap.size w) (.cells #[.int .i64 0, .int .i64 0, .int .u64 0, .string ⟨#[]⟩] 28)
  replace hT := hT.below bb
  have ht := hT
  obtain ⟨_, _, ⟨c0, c1, c2⟩, tp, pv, hv⟩ := ht
  go_enter Tryd.func16, Tryd.ntmps16
  go_wp2_with fail
  generalize w.alloc (.cells #[.int .i64 0, .int .i64 0, .int .u64 0, .string ⟨#[]⟩] 28) = w1 at *
  go_loopg [17] 3 (fun g s wr => ∃ (i : Nat), i + g ≤ 3 ∧ 3 ≤ i + g ∧ s = .int .i64 i ∧ wr = w1)
  case atStart => exact ⟨0, by omega, by omega, rfl, rfl⟩
  case round =>
    obtain ⟨i, hi1, hi2, rfl, rfl⟩ := hrel
    rcases (show i = 0 ∨ i = 1 ∨ i = 2 ∨ i = 3 from by omega) with rfl | rfl | rfl | rfl
    · have t : (sFalse.toList == sQuo.toList) = false := by rw [ByteArray.toList_eq, ByteArray.toList_eq]; decide
      have hw := word0 wr
      go_wp2_with fail
      go_roundg (gk - 1)
      · exact ⟨1, by omega, by omega, by go_num, rfl⟩
      · omega
    · have t : (sNull.toList == sQuo.toList) = false := by rw [ByteArray.toList_eq, ByteArray.toList_eq]; decide
      have hw := word1 wr
      go_wp2_with fail
      go_roundg (gk - 1)
      · exact ⟨2, by omega, by omega, by go_num, rfl⟩
      · omega
    · have t : (sTrue.toList == sQuo.toList) = false := by rw [ByteArray.toList_eq, ByteArray.toList_eq]; decide
      have hw := word2 wr
      go_wp2_with fail
      go_roundg (gk - 1)
      · exact ⟨3, by omega, by omega, by go_num, rfl⟩
      · omega
    · clear c0 c1 c2 hT
      go_wp2_with fail
      refine (Tryd.strconv_ParseInt_10_at64_syntax_var sQuo (by decide) (by decide) tp pv _ hv).mono ?_
      rintro e w2 ⟨N, rfl, _, _, q2⟩
      replace hR := hR.ca q2
      replace bb := bl_ca bb q2
      clear q2 hv
      go_wp2_with fail
      refine (quoted_its _).mono ?_
      rintro e w11 ⟨rfl, q11⟩
      replace hR := hR.ca q11
      replace bb := bl_ca bb q11
      clear q11
      go_wp2_with fail
      refine (vtext_any sIts (by decide) _).mono ?_
      rintro e w12 ⟨rfl, q12⟩
      replace hR := hR.ca q12
      replace bb := bl_ca bb q12
      clear q12
      have lb0 := bb.size
      have lhN_hR := hR.lt
      replace hR := hR.alloc (.cells #[.int .i64 3, .int .i64 0, .int .u64 0, .string sIts] 28)
      have hN := Blk.new w12 28 #[.int .i64 3, .int .i64 0, .int .u64 0, .string sIts]
      have bz := bb.size
      replace bb := bl_al bb (.cells #[.int .i64 3, .int .i64 0, .int .u64 0, .string sIts] 28)
      have lR := hR.lt
      have KR := Lib.hid hR
      clear hR
      go_wp2_with (refine wpList_store_blk rfl 28 (.tmp 2) (.tmp 56) rfl w.heap.size 28 _ _ rfl rfl KR.out rfl valI (one4 _ _ _ _) ?_; intro wz hZ gz)
      exact bodyPost_ret (res2 Tryd.results16 rfl rfl hZ Tryd.underlying28 rfl valI) rfl ⟨rfl, bl_gr bb gz (Nat.le_refl _)⟩
end Go.Proofs.YtabbiepafibmmaaDoor
