/- value.Print of every value. Conditions: the tables; a number of 64 bits. -/
import Derived.Test.YtabbiepafibmmaaDoorVu
import Derived.Test.YtabbiepafibmmaaDoorParse1
import Derived.Shelf.GgClosure.Gives
namespace Go.Proofs.YtabbiepafibmmaaDoor
open Go.RowKit Go.Shelf
theorem fmtint_any (n : Int) (h0 : -9223372036854775808 ≤ n) (h1 : n ≤ 9223372036854775807) (w : World) (hT : TabX w) : Calls Tryd.prog 41 #[.int .i64 n, .int .i64 10] w fun e w' => e = .returned (.string (bS (Lib.itoa n))) ∧ Below w.heap.size w w' :=
  (Tryd.strconv_FormatInt_10 n h0 h1 w hT.pw).mono fun e w' h => by
    obtain ⟨he, k, os, rfl⟩ := h
    exact ⟨he, below_grown w k os⟩
def prR (v : VV) : Ending := .returned (.tuple #[.string (prS v), .int .i64 (prE v)])
theorem prR_bad {v : VV} (h : v.ok = false) : prR v = .returned (.tuple #[.string ⟨#[]⟩, .int .i64 120]) := by
  have e : prE v = 120 := by unfold prE; rw [h]; rfl
  unfold prR prS
  rw [e]; rfl
theorem prR_sum {v : VV} (h : v.ok = true) (hk : v.k = 4) : prR v = .returned (.tuple #[.string ⟨#[]⟩, .int .i64 2]) := by
  have e : prE v = 2 := by unfold prE; rw [h, hk]; rfl
  unfold prR prS
  rw [e]; rfl
theorem prR_plain {v : VV} (h : v.plain = true) : prR v = .returned (.tuple #[.string (bS v.lv.lit), .int .i64 0]) := by
  have e := prE_plain.2 h
  unfold prR prS
  rw [e, if_pos rfl]
set_option maxRecDepth 100000 in
set_option maxHeartbeats 2000000 in
theorem print_bad (v : VV) (h : v.ok = false) (w : World) : Calls Tryd.prog 12 #[.agg #[.int .i64 v.k, .int .i64 v.n, .int .u64 v.u, .string v.s]] w fun e w' => e = prR v ∧ Below w.heap.size w w' := by
  rw [prR_bad h]
  have HC := Lib.hid (fun w => check_x v.k v.n v.u v.s h w)
  have HB := Lib.hid (bl_al (Below.refl w.heap.size w) (.cells #[.int .i64 v.k, .int .i64 v.n, .int .u64 v.u, .string v.s] 28))
  clear h
  go_enter Tryd.func12, Tryd.ntmps12
  go_wp2_with fail
  generalize w.alloc (.cells #[.int .i64 v.k, .int .i64 v.n, .int .u64 v.u, .string v.s] 28) = w1 at *
  refine (HC.out w1).mono ?_
  rintro e w2 ⟨rfl, q2⟩
  have HB2 := Lib.hid (bl_ca HB.out q2)
  clear q2
  go_wp2
  refine bodyPost_ret (v := .tuple #[.string ⟨#[]⟩, .int .i64 120]) (by simp [results, Tryd.results12, go_sem]) rfl ⟨rfl, HB2.out⟩
set_option maxRecDepth 100000 in
set_option maxHeartbeats 2000000 in
theorem print_sum (v : VV) (h : v.ok = true) (hk : v.k = 4) (w : World) : Calls Tryd.prog 12 #[.agg #[.int .i64 v.k, .int .i64 v.n, .int .u64 v.u, .string v.s]] w fun e w' => e = prR v ∧ Below w.heap.size w w' := by
  rw [prR_sum h hk]
  have HC := Lib.hid (fun w => check_y v.k v.n v.u v.s h w)
  rw [hk] at HC ⊢
  have HB := Lib.hid (bl_al (Below.refl w.heap.size w) (.cells #[.int .i64 4, .int .i64 v.n, .int .u64 v.u, .string v.s] 28))
  have HV := Lib.hid (Blk.new w 28 #[.int .i64 4, .int .i64 v.n, .int .u64 v.u, .string v.s])
  clear h hk
  go_enter Tryd.func12, Tryd.ntmps12
  go_wp2_with fail
  generalize w.alloc (.cells #[.int .i64 4, .int .i64 v.n, .int .u64 v.u, .string v.s] 28) = w1 at *
  refine (HC.out w1).mono ?_
  rintro e w2 ⟨rfl, q2⟩
  have HB2 := Lib.hid (bl_ca HB.out q2)
  have x0 : w2.cell? ⟨w.heap.size, 0, none⟩ = some (.int .i64 4) := (HV.out.ca q2).cell 0
  clear q2
  go_wp2
  refine bodyPost_ret (v := .tuple #[.string ⟨#[]⟩, .int .i64 2]) (by simp [results, Tryd.results12, go_sem]) rfl ⟨rfl, HB2.out⟩
set_option maxRecDepth 100000 in
set_option maxHeartbeats 2000000 in
theorem print_int (n : Int) (h0 : -9223372036854775808 ≤ n) (h1 : n ≤ 9223372036854775807) (w : World) (hT : TabX w) : Calls Tryd.prog 12 #[.agg #[.int .i64 2, .int .i64 n, .int .u64 0, .string ⟨#[]⟩]] w fun e w' => e = prR (VI n) ∧ Below w.heap.size w w' := by
  have HR := Lib.hid (prR_plain (v := VI n) (by unfold VV.plain plainB rightB VI; simp [ByteArray.toList_eq]))
  rw [show (VI n).lv.lit = Lib.itoa n from rfl] at HR
  have HF := Lib.hid (fun w hT => fmtint_any n h0 h1 w hT)
  have HC := Lib.hid (fun w => check_y 2 n 0 ⟨#[]⟩ (by unfold rightB; simp [ByteArray.toList_eq]) w)
  have HB := Lib.hid (bl_al (Below.refl w.heap.size w) (.cells #[.int .i64 2, .int .i64 n, .int .u64 0, .string ⟨#[]⟩] 28))
  have HV := Lib.hid (Blk.new w 28 #[.int .i64 2, .int .i64 n, .int .u64 0, .string ⟨#[]⟩])
  have HT := Lib.hid (hT.below HB.out)
  clear h0 h1 hT
  go_enter Tryd.func12, Tryd.ntmps12
  go_wp2_with fail
  generalize w.alloc (.cells #[.int .i64 2, .int .i64 n, .int .u64 0, .string ⟨#[]⟩] 28) = w1 at *
  refine (HC.out w1).mono ?_
  rintro e w2 ⟨rfl, q2⟩
  have HB2 := Lib.hid (bl_ca HB.out q2)
  have HT2 := Lib.hid (HT.out.below q2)
  have x0 : w2.cell? ⟨w.heap.size, 0, none⟩ = some (.int .i64 2) := (HV.out.ca q2).cell 0
  have x1 : w2.cell? ⟨w.heap.size, 1, none⟩ = some (.int .i64 n) := (HV.out.ca q2).cell 1
  clear q2
  go_wp2_with fail
  refine (HF.out w2 HT2.out).mono ?_
  rintro e w3 ⟨rfl, q3⟩
  have HB3 := Lib.hid (bl_ca HB2.out q3)
  clear q3 x0 x1
  go_wp2
  refine bodyPost_ret (v := .tuple #[.string (bS (Lib.itoa n)), .int .i64 0]) (by simp [results, Tryd.results12, go_sem]) rfl ⟨HR.out.symm, HB3.out⟩
set_option maxRecDepth 100000 in
set_option maxHeartbeats 2000000 in
theorem print_text (s : ByteArray) (hs : s.size ≤ 40) (w : World) (hT : TabX w) : Calls Tryd.prog 12 #[.agg #[.int .i64 3, .int .i64 0, .int .u64 0, .string s]] w fun e w' => e = prR (VT s) ∧ Below w.heap.size w w' := by
  have HR := Lib.hid (prR_plain (v := VT s) (by unfold VV.plain plainB rightB VT; simp [hs]))
  rw [show (VT s).lv.lit = 39 :: (quoV s.data.toList ++ [39]) from rfl] at HR
  have HC := Lib.hid (fun w => check_y 3 0 0 s (by unfold rightB; simp [hs]) w)
  have HB := Lib.hid (bl_al (Below.refl w.heap.size w) (.cells #[.int .i64 3, .int .i64 0, .int .u64 0, .string s] 28))
  have HV := Lib.hid (Blk.new w 28 #[.int .i64 3, .int .i64 0, .int .u64 0, .string s])
  have HT := Lib.hid (hT.below HB.out)
  have HS := Lib.hid hs
  clear hs hT
  go_enter Tryd.func12, Tryd.ntmps12
  go_wp2_with fail
  generalize w.alloc (.cells #[.int .i64 3, .int .i64 0, .int .u64 0, .string s] 28) = w1 at *
  refine (HC.out w1).mono ?_
  rintro e w2 ⟨rfl, q2⟩
  have HB2 := Lib.hid (bl_ca HB.out q2)
  have x0 : w2.cell? ⟨w.heap.size, 0, none⟩ = some (.int .i64 3) := (HV.out.ca q2).cell 0
  have x3 : w2.cell? ⟨w.heap.size, 3, none⟩ = some (.string s) := (HV.out.ca q2).cell 3
  obtain ⟨_, ⟨_, m, hm⟩, _⟩ := (HT.out.below q2).t
  clear q2
  have hcnt : Lib.countB s ⟨#[39]⟩ * 2 ≤ 140737488355000 := by
    have hl := len_data s
    have h1 := HS.out
    have : Lib.countB s ⟨#[39]⟩ ≤ s.data.toList.length + 1 := Lib.count_le s.data.toList [39]
    omega
  go_wp2_with fail
  refine (Tryd.strings_ReplaceAll s ⟨#[39]⟩ ⟨#[39, 39]⟩ m w2 (by have := HS.out; omega) hm (by decide) (by have := HS.out; rw [show (⟨#[39, 39]⟩ : ByteArray).size = 2 from rfl]; omega)).mono ?_
  rintro e w3 ⟨rfl, q3⟩
  rw [show (⟨(Lib.replaceAll s.data.toList (⟨#[39]⟩ : ByteArray).data.toList (⟨#[39, 39]⟩ : ByteArray).data.toList).toArray⟩ : ByteArray) = bS (quoV s.data.toList) from by rw [show (⟨#[39]⟩ : ByteArray).data.toList = [39] from rfl, show (⟨#[39, 39]⟩ : ByteArray).data.toList = [39, 39] from rfl, replaceAll_quoV]; rfl]
  have HB3 := Lib.hid (bl_ca HB2.out q3)
  have HQ := Lib.hid (show (⟨#[39]⟩ ++ bS (quoV s.data.toList) ++ ⟨#[39]⟩ : ByteArray) = bS (39 :: (quoV s.data.toList ++ [39])) from bS_of (by rw [ByteArray.data_append, ByteArray.data_append]; simp [bS]))
  have hq1 : (bS (quoV s.data.toList)).size ≤ 80 := by have := quo_lenV s.data.toList; have h2 := len_data s; have h3 := len_data (bS (quoV s.data.toList)); rw [bS_data] at h3; have := HS.out; omega
  clear q3 x0 x3 hm hcnt
  generalize bS (quoV s.data.toList) = q at *
  generalize bS (39 :: (quoV s.data.toList ++ [39])) = q' at *
  go_wp2
  refine bodyPost_ret (v := .tuple #[.string (⟨#[39]⟩ ++ q ++ ⟨#[39]⟩), .int .i64 0]) (by simp [results, Tryd.results12, go_sem]) rfl ⟨by rw [HR.out, HQ.out], HB3.out⟩
set_option maxRecDepth 100000 in
set_option maxHeartbeats 2000000 in
theorem print_word (v : VV) (hv : v = V0 ∨ v = VB0 ∨ v = VB1) (w : World) (hT : TabX w) : Calls Tryd.prog 12 #[.agg #[.int .i64 v.k, .int .i64 v.n, .int .u64 v.u, .string v.s]] w fun e w' => e = prR v ∧ Below w.heap.size w w' := by
  obtain ⟨L, hp, hL⟩ : ∃ L : ByteArray, v.plain = true ∧ L = bS v.lv.lit := ⟨_, by rcases hv with rfl | rfl | rfl <;> decide +kernel, rfl⟩
  obtain ⟨j, hj, hj2, hjl⟩ : ∃ j : Nat, truthI v = (j : Int) ∧ j ≤ 2 ∧ ∀ W, Tab W → W.cell? ⟨0, j, none⟩ = some (.string L) := by
    rcases hv with rfl | rfl | rfl
    · exact ⟨1, rfl, by omega, fun W hW => by rw [hL]; exact hW.2.2.1.2.1⟩
    · exact ⟨0, rfl, by omega, fun W hW => by rw [hL]; exact hW.2.2.1.1⟩
    · exact ⟨2, rfl, by omega, fun W hW => by rw [hL]; exact hW.2.2.1.2.2⟩
  have HR := Lib.hid (prR_plain hp)
  rw [← hL] at HR
  have HC := Lib.hid (fun w => check_y v.k v.n v.u v.s (plain_ok.1 hp).1 w)
  have HTR := Lib.hid (show ∀ w, Calls Tryd.prog 43 #[.agg #[.int .i64 v.k, .int .i64 v.n, .int .u64 v.u, .string v.s]] w fun e w' => e = .returned (.int .i64 (truthI v)) ∧ Below w.heap.size w w' from fun w => by
    rcases hv with rfl | rfl | rfl
    · exact truth_0 V0 rfl w
    · exact truth_1 VB0 rfl (.inl rfl) w
    · exact truth_1 VB1 rfl (.inr rfl) w)
  rw [hj] at HTR
  have e4 : (v.k == 4) = false := by rcases hv with rfl | rfl | rfl <;> rfl
  have e2 : (v.k == 2) = false := by rcases hv with rfl | rfl | rfl <;> rfl
  have e3 : (v.k == 3) = false := by rcases hv with rfl | rfl | rfl <;> rfl
  have HJL := Lib.hid hjl
  have HB := Lib.hid (bl_al (Below.refl w.heap.size w) (.cells #[.int .i64 v.k, .int .i64 v.n, .int .u64 v.u, .string v.s] 28))
  have HV := Lib.hid (Blk.new w 28 #[.int .i64 v.k, .int .i64 v.n, .int .u64 v.u, .string v.s])
  have HT := Lib.hid (hT.below HB.out)
  clear hj hjl hL hp hv hT
  go_enter Tryd.func12, Tryd.ntmps12
  go_wp2_with fail
  generalize w.alloc (.cells #[.int .i64 v.k, .int .i64 v.n, .int .u64 v.u, .string v.s] 28) = w1 at *
  refine (HC.out w1).mono ?_
  rintro e w2 ⟨rfl, q2⟩
  have HB2 := Lib.hid (bl_ca HB.out q2)
  have HT2 := Lib.hid (HT.out.below q2)
  have x0 : w2.cell? ⟨w.heap.size, 0, none⟩ = some (.int .i64 v.k) := (HV.out.ca q2).cell 0
  have x1 : w2.cell? ⟨w.heap.size, 1, none⟩ = some (.int .i64 v.n) := (HV.out.ca q2).cell 1
  have x2 : w2.cell? ⟨w.heap.size, 2, none⟩ = some (.int .u64 v.u) := (HV.out.ca q2).cell 2
  have x3 : w2.cell? ⟨w.heap.size, 3, none⟩ = some (.string v.s) := (HV.out.ca q2).cell 3
  clear q2
  go_wp2_with fail
  refine (HTR.out w2).mono ?_
  rintro e w3 ⟨rfl, q3⟩
  have HB3 := Lib.hid (bl_ca HB2.out q3)
  have y0 := HJL.out w3 (HT2.out.below q3).t
  have hj3 : (j : Int) < 3 := by omega
  clear q3 x0 x1 x2 x3
  go_wp2
  refine bodyPost_ret (v := .tuple #[.string L, .int .i64 0]) (by simp [results, Tryd.results12, go_sem]) rfl ⟨HR.out.symm, HB3.out⟩
/-- value.Print, at every value -/
theorem print_any (v : VV) (hr : -9223372036854775808 ≤ v.n ∧ v.n ≤ 9223372036854775807) (w : World) (hT : TabX w) : Calls Tryd.prog 12 #[.agg #[.int .i64 v.k, .int .i64 v.n, .int .u64 v.u, .string v.s]] w fun e w' => e = prR v ∧ Below w.heap.size w w' := by
  cases h : v.ok
  · exact print_bad v h w
  · rcases ok_cases h with h1 | h1 | h1 | ⟨n, rfl⟩ | ⟨s, hs, rfl⟩ | h1
    · exact print_word v (.inl h1) w hT
    · exact print_word v (.inr (.inl h1)) w hT
    · exact print_word v (.inr (.inr h1)) w hT
    · exact print_int n hr.1 hr.2 w hT
    · exact print_text s hs w hT
    · exact print_sum v h h1 w
end Go.Proofs.YtabbiepafibmmaaDoor
