/- value.Parse at every text. Conditions: the tables; at most 1000 bytes. -/
import Derived.Test.YtabbiepafibmmaaDoorVp
import Derived.Deep.DeepCutAuto
import Derived.Deep.CutBlock
namespace Go.Proofs.YtabbiepafibmmaaDoor
open Go.RowKit
def paR (s : ByteArray) : Ending := .returned (resT (paV s, paE s))
theorem paR_long {s : ByteArray} (h : 100 < s.size) : paR s = .returned (resT (V0, 3)) := by unfold paR; rw [(pa_long h).1, (pa_long h).2]
theorem paR_some {s : ByteArray} {l : LV} (h : s.size ≤ 100) (hp : parseP s.data.toList = some l) : paR s = .returned (resT (l.vv, 0)) := by unfold paR; rw [(pa_some (by omega) hp).1, (pa_some (by omega) hp).2]
theorem paR_none {s : ByteArray} (h : s.size ≤ 100) (hp : parseP s.data.toList = none) : paR s = .returned (resT (V0, 2)) := by unfold paR; rw [(pa_none (by omega) hp).1, (pa_none (by omega) hp).2]
theorem pint_ok (s : ByteArray) (hs : s.size ≤ 1000) (n : Int) (h : Lib.atoiAll s.data.toList = .ok n) (w : World) : Calls Tryd.prog 45 #[.string s, .int .i64 10, .int .i64 64] w fun e w' => e = .returned (.tuple #[.int .i64 n, .nilIface]) ∧ Below w.heap.size w w' :=
  (Tryd.strconv_ParseInt_10_at64_ok s (by omega) n (by rw [Lib.parseIntB_64]; exact h) w).mono fun e w' h => by
    obtain ⟨he, h⟩ := h
    refine ⟨he, ?_⟩
    rcases h with rfl | ⟨t, rfl⟩
    · exact Below.refl _ _
    · exact Lib.bytesWorld_below _ _ _
theorem pint_no (s : ByteArray) (hs : s.size ≤ 1000) (h : ∀ n, Lib.atoiAll s.data.toList ≠ .ok n) (w : World) (hT : TabX w) : Calls Tryd.prog 45 #[.string s, .int .i64 10, .int .i64 64] w fun e w' => ∃ n t N, e = .returned (.tuple #[.int .i64 n, .iface t (.pointer (some ⟨N, 0, none⟩))]) ∧ Below w.heap.size w w' := by
  rw [← Lib.parseIntB_64] at h
  match hc : Lib.parseIntB 64 s.data.toList with
  | .ok n => exact absurd hc (h n)
  | Lib.NumEnd.syntax =>
    obtain ⟨_, _, _, tp, pv, hv⟩ := hT.t
    refine (Tryd.strconv_ParseInt_10_at64_syntax_var s (by omega) hc tp pv w hv).mono ?_
    rintro e w' ⟨N, he, _, _, q⟩
    exact ⟨_, _, N, he, q⟩
  | .range =>
    obtain ⟨tp, pv, hv⟩ := hT.er
    refine (Tryd.strconv_ParseInt_10_at64_range_var s (by omega) hc tp pv w hv).mono ?_
    rintro e w' ⟨N, he, _, _, q⟩
    exact ⟨_, _, N, he, q⟩
theorem intP_no {s : ByteArray} (h : ∀ n, Lib.atoiAll s.data.toList ≠ .ok n) : intP s.data.toList = none := by
  unfold intP
  split
  · rename_i n hn; exact absurd hn (h n)
  · rfl
theorem intP_ne {s : ByteArray} {n : Int} (h : Lib.atoiAll s.data.toList = .ok n) (hn : Lib.itoa n ≠ s.data.toList) : intP s.data.toList = none := by
  unfold intP
  rw [h]
  simp only
  rw [if_neg hn]
theorem intP_eq {s : ByteArray} {n : Int} (h : Lib.atoiAll s.data.toList = .ok n) (hn : Lib.itoa n = s.data.toList) : intP s.data.toList = some n := by
  unfold intP
  rw [h]
  simp only
  rw [if_pos hn]
/-- what is no word and no number -/
theorem parse_rest {s : List UInt8} (h0 : s ≠ wF) (h1 : s ≠ wN) (h2 : s ≠ wT) (hi : intP s = none) : parseP s = match quoP s with
    | some t => if t.length ≤ 40 then some ⟨3, 0, t⟩ else none
    | none => none := by
  unfold parseP
  rw [if_neg h0, if_neg h1, if_neg h2, hi]
  rfl
theorem parse_num {s : List UInt8} {n : Int} (h0 : s ≠ wF) (h1 : s ≠ wN) (h2 : s ≠ wT) (hi : intP s = some n) : parseP s = some ⟨2, n, []⟩ := by
  unfold parseP
  rw [if_neg h0, if_neg h1, if_neg h2, hi]
theorem bs_ne {L : ByteArray} {l : List UInt8} {s : ByteArray} (hL : L.data.toList = l) (h : s.data.toList ≠ l) : (L.toList == s.toList) = false := by
  rw [toList_data, toList_data, hL, beq_eq_false_iff_ne]; exact fun e => h e.symm
theorem bs_eq {L s : ByteArray} (h : s = L) : (L.toList == s.toList) = true := by rw [h]; simp
set_option maxRecDepth 100000 in
set_option maxHeartbeats 4000000 in
theorem parse_any (s : ByteArray) (hs : s.size ≤ 1000) (w : World) (hT : TabX w) : Calls Tryd.prog 16 #[.string s] w fun e w' => e = paR s ∧ Below w.heap.size w w' := by
  have hR := Blk.new w 28 #[.int .i64 0, .int .i64 0, .int .u64 0, .string ⟨#[]⟩]
  have bb := bl_al (Below.refl w.heap.size w) (.cells #[.int .i64 0, .int .i64 0, .int .u64 0, .string ⟨#[]⟩] 28)
  have HR1 := Lib.hid hR
  have HB1 := Lib.hid bb
  have HT := Lib.hid (hT.below bb)
  clear hR bb hT
  by_cases hlong : 100 < s.size
  · have HR := Lib.hid (paR_long hlong)
    have hl1 : (100 : Int) < (s.size : Int) := by omega
    clear hlong
    go_enter Tryd.func16, Tryd.ntmps16
    go_upto_region 2 with fail
    generalize w.alloc (.cells #[.int .i64 0, .int .i64 0, .int .u64 0, .string ⟨#[]⟩] 28) = w1 at *
    go_wp2_with (refine wpList_store_blk rfl 28 (.tmp 2) (.tmp 15) rfl w.heap.size 28 _ _ rfl rfl HR1.out rfl valI (one4 _ _ _ _) ?_; intro wz hZ gz)
    exact bodyPost_ret (res2 Tryd.results16 rfl rfl hZ Tryd.underlying28 rfl valI) rfl ⟨HR.out.symm, bl_gr HB1.out gz (Nat.le_refl _)⟩
  have hl2 : (s.size : Int) ≤ 100 := by omega
  have HS := Lib.hid (show s.size ≤ 100 from by omega)
  clear hs hlong
  obtain ⟨c0, c1, c2⟩ := HT.out.t.2.2.1
  go_enter Tryd.func16, Tryd.ntmps16
  go_wp2_with fail
  generalize w.alloc (.cells #[.int .i64 0, .int .i64 0, .int .u64 0, .string ⟨#[]⟩] 28) = w1 at *
  go_loopg [17] 3 (fun g a wr => ∃ (i : Nat), i + g ≤ 3 ∧ 3 ≤ i + g ∧ a = .int .i64 i ∧ wr = w1 ∧ Hid ((0 < i → s.data.toList ≠ wF) ∧ (1 < i → s.data.toList ≠ wN) ∧ (2 < i → s.data.toList ≠ wT)))
  case atStart => exact ⟨0, by omega, by omega, rfl, rfl, Lib.hid ⟨fun h => absurd h (by omega), fun h => absurd h (by omega), fun h => absurd h (by omega)⟩⟩
  case round =>
    obtain ⟨i, hi1, hi2, rfl, rfl, HI⟩ := hrel
    rcases (show i = 0 ∨ i = 1 ∨ i = 2 ∨ i = 3 from by omega) with rfl | rfl | rfl | rfl
    · have hw := word0 wr
      by_cases he : s.data.toList = wF
      · have t : (sFalse.toList == s.toList) = true := bs_eq (bS_of he)
        have HR := Lib.hid (paR_some (l := ⟨1, 0, []⟩) HS.out (by unfold parseP; rw [he]; rfl))
        have t0 : wr.cell? ⟨1, 0, none⟩ = some (.int .i64 1) := HT.out.t.1.2.1
        have t1 : wr.cell? ⟨1, 1, none⟩ = some (.int .i64 0) := HT.out.t.1.2.2.1
        have t2 : wr.cell? ⟨1, 2, none⟩ = some (.int .u64 0) := HT.out.t.1.2.2.2.1
        have t3 : wr.cell? ⟨1, 3, none⟩ = some (.string ⟨#[]⟩) := HT.out.t.1.2.2.2.2.1
        clear he
        go_wp2_with (refine wpList_store_blk rfl 28 (.tmp 2) (.tmp 26) rfl w.heap.size 28 _ _ rfl rfl HR1.out rfl valI (one4 _ _ _ _) ?_; intro wz hZ gz)
        exact bodyPost_ret (res2 Tryd.results16 rfl rfl hZ Tryd.underlying28 rfl valI) rfl ⟨HR.out.symm, bl_gr HB1.out gz (Nat.le_refl _)⟩
      · have t : (sFalse.toList == s.toList) = false := bs_ne rfl he
        have HE := Lib.hid he
        clear he
        go_wp2_with fail
        go_roundg (gk - 1)
        · exact ⟨1, by omega, by omega, by go_num, rfl, Lib.hid ⟨fun _ => HE.out, fun h => absurd h (by omega), fun h => absurd h (by omega)⟩⟩
        · omega
    · have hw := word1 wr
      by_cases he : s.data.toList = wN
      · have t : (sNull.toList == s.toList) = true := bs_eq (bS_of he)
        have HR := Lib.hid (paR_some (l := ⟨0, 0, []⟩) HS.out (by unfold parseP; rw [he]; rfl))
        have t0 : wr.cell? ⟨1, 4, none⟩ = some (.int .i64 0) := HT.out.t.1.2.2.2.2.2.1
        have t1 : wr.cell? ⟨1, 5, none⟩ = some (.int .i64 0) := HT.out.t.1.2.2.2.2.2.2.1
        have t2 : wr.cell? ⟨1, 6, none⟩ = some (.int .u64 0) := HT.out.t.1.2.2.2.2.2.2.2.1
        have t3 : wr.cell? ⟨1, 7, none⟩ = some (.string ⟨#[]⟩) := HT.out.t.1.2.2.2.2.2.2.2.2.1
        clear he
        go_wp2_with (refine wpList_store_blk rfl 28 (.tmp 2) (.tmp 26) rfl w.heap.size 28 _ _ rfl rfl HR1.out rfl valI (one4 _ _ _ _) ?_; intro wz hZ gz)
        exact bodyPost_ret (res2 Tryd.results16 rfl rfl hZ Tryd.underlying28 rfl valI) rfl ⟨HR.out.symm, bl_gr HB1.out gz (Nat.le_refl _)⟩
      · have t : (sNull.toList == s.toList) = false := bs_ne rfl he
        have HE := Lib.hid he
        clear he
        go_wp2_with fail
        go_roundg (gk - 1)
        · exact ⟨2, by omega, by omega, by go_num, rfl, Lib.hid ⟨fun _ => HI.out.1 (by omega), fun _ => HE.out, fun h => absurd h (by omega)⟩⟩
        · omega
    · have hw := word2 wr
      by_cases he : s.data.toList = wT
      · have t : (sTrue.toList == s.toList) = true := bs_eq (bS_of he)
        have HR := Lib.hid (paR_some (l := ⟨1, 1, []⟩) HS.out (by unfold parseP; rw [he]; rfl))
        have t0 : wr.cell? ⟨1, 8, none⟩ = some (.int .i64 1) := HT.out.t.1.2.2.2.2.2.2.2.2.2.1
        have t1 : wr.cell? ⟨1, 9, none⟩ = some (.int .i64 1) := HT.out.t.1.2.2.2.2.2.2.2.2.2.2.1
        have t2 : wr.cell? ⟨1, 10, none⟩ = some (.int .u64 0) := HT.out.t.1.2.2.2.2.2.2.2.2.2.2.2.1
        have t3 : wr.cell? ⟨1, 11, none⟩ = some (.string ⟨#[]⟩) := HT.out.t.1.2.2.2.2.2.2.2.2.2.2.2.2
        clear he
        go_wp2_with (refine wpList_store_blk rfl 28 (.tmp 2) (.tmp 26) rfl w.heap.size 28 _ _ rfl rfl HR1.out rfl valI (one4 _ _ _ _) ?_; intro wz hZ gz)
        exact bodyPost_ret (res2 Tryd.results16 rfl rfl hZ Tryd.underlying28 rfl valI) rfl ⟨HR.out.symm, bl_gr HB1.out gz (Nat.le_refl _)⟩
      · have t : (sTrue.toList == s.toList) = false := bs_ne rfl he
        have HE := Lib.hid he
        clear he
        go_wp2_with fail
        go_roundg (gk - 1)
        · exact ⟨3, by omega, by omega, by go_num, rfl, Lib.hid ⟨fun _ => HI.out.1 (by omega), fun _ => HI.out.2.1 (by omega), fun _ => HE.out⟩⟩
        · omega
    · have HN := Lib.hid (And.intro (HI.out.1 (by omega)) (And.intro (HI.out.2.1 (by omega)) (HI.out.2.2 (by omega))))
      have HIN := Lib.hid (fun n => pint_ok s (by have := HS.out; omega) n)
      clear c0 c1 c2
      by_cases hat : ∃ n, Lib.atoiAll s.data.toList = .ok n
      · obtain ⟨n, hn⟩ := hat
        have HRG := Lib.hid (atoi_rng hn)
        have HPI := Lib.hid (HIN.out n hn)
        by_cases hit : Lib.itoa n = s.data.toList
        · have HR := Lib.hid (paR_some HS.out (parse_num HN.out.1 HN.out.2.1 HN.out.2.2 (intP_eq hn hit)))
          rw [show (⟨2, n, []⟩ : LV).vv = VI n from rfl] at HR
          have t : ((bS (Lib.itoa n)).toList == s.toList) = true := bs_eq (bS_of hit.symm)
          clear hn hit
          go_wp2_with fail
          refine (HPI.out wr).mono ?_
          rintro e w2 ⟨rfl, q2⟩
          have HR2 := Lib.hid (HR1.out.ca q2)
          have HB2 := Lib.hid (bl_ca HB1.out q2)
          have HT2 := Lib.hid (HT.out.below q2)
          clear q2
          go_wp2_with fail
          refine (fmtint_any n HRG.out.1 HRG.out.2 w2 HT2.out).mono ?_
          rintro e w3 ⟨rfl, q3⟩
          have HR3 := Lib.hid (HR2.out.ca q3)
          have HB3 := Lib.hid (bl_ca HB2.out q3)
          clear q3
          generalize bS (Lib.itoa n) = T at *
          go_wp2_with fail
          refine (vint_any n w3).mono ?_
          rintro e w4 ⟨rfl, q4⟩
          have HR4 := Lib.hid (HR3.out.ca q4)
          have HB4 := Lib.hid (bl_ca HB3.out q4)
          clear q4
          go_wp2_with (refine wpList_store_blk rfl 28 (.tmp 2) (.tmp 42) rfl w.heap.size 28 _ _ rfl rfl HR4.out rfl valI (one4 _ _ _ _) ?_; intro wz hZ gz)
          exact bodyPost_ret (res2 Tryd.results16 rfl rfl hZ Tryd.underlying28 rfl valI) rfl ⟨HR.out.symm, bl_gr HB4.out gz (Nat.le_refl _)⟩
        · have HIP := Lib.hid (intP_ne hn hit)
          have t : ((bS (Lib.itoa n)).toList == s.toList) = false := bs_ne (bS_data _) (fun e => hit e.symm)
          clear hn hit
          go_wp2_with fail
          refine (HPI.out wr).mono ?_
          rintro e w2 ⟨rfl, q2⟩
          have HR2 := Lib.hid (HR1.out.ca q2)
          have HB2 := Lib.hid (bl_ca HB1.out q2)
          have HT2 := Lib.hid (HT.out.below q2)
          clear q2
          go_wp2_with fail
          refine (fmtint_any n HRG.out.1 HRG.out.2 w2 HT2.out).mono ?_
          rintro e w3 ⟨rfl, q3⟩
          have HR3 := Lib.hid (HR2.out.ca q3)
          have HB3 := Lib.hid (bl_ca HB2.out q3)
          clear q3
          generalize bS (Lib.itoa n) = T at *
          go_wp2_with fail
          have HPR := Lib.hid (parse_rest HN.out.1 HN.out.2.1 HN.out.2.2 HIP.out)
          cases hq : quoP s.data.toList with
          | none =>
            rw [hq] at HPR
            have HR := Lib.hid (paR_none HS.out HPR.out)
            have HQ := Lib.hid (quoO_none hq)
            clear hq
            refine (quoted_any s (by have := HS.out; omega) w3).mono ?_
            rw [HQ.out]
            rintro e w11 ⟨rfl, q11⟩
            have HR11 := Lib.hid (HR3.out.ca q11)
            have HB11 := Lib.hid (bl_ca HB3.out q11)
            clear q11
            go_wp2_with (refine wpList_store_blk rfl 28 (.tmp 2) (.tmp 57) rfl w.heap.size 28 _ _ rfl rfl HR11.out rfl valI (one4 _ _ _ _) ?_; intro wz hZ gz)
            exact bodyPost_ret (res2 Tryd.results16 rfl rfl hZ Tryd.underlying28 rfl valI) rfl ⟨HR.out.symm, bl_gr HB11.out gz (Nat.le_refl _)⟩
          | some t =>
            rw [hq] at HPR
            have HQ := Lib.hid (quoO_some hq)
            clear hq
            refine (quoted_any s (by have := HS.out; omega) w3).mono ?_
            rw [HQ.out]
            rintro e w11 ⟨rfl, q11⟩
            have HR11 := Lib.hid (HR3.out.ca q11)
            have HB11 := Lib.hid (bl_ca HB3.out q11)
            clear q11
            have HTS := Lib.hid (len_data (bS t))
            rw [bS_data] at HTS
            by_cases h40 : t.length ≤ 40
            · have HPR2 := Lib.hid (HPR.out.trans (if_pos h40))
              have HR := Lib.hid (paR_some HS.out HPR2.out)
              rw [show (⟨3, 0, t⟩ : LV).vv = VT (bS t) from rfl] at HR
              have HTX := Lib.hid (fun w => vtext_any (bS t) (by rw [← HTS.out]; exact h40) w)
              rw [show (⟨t.toArray⟩ : ByteArray) = bS t from rfl]
              generalize bS t = T at *
              clear h40
              go_wp2_with fail
              refine (HTX.out _).mono ?_
              rintro e w12 ⟨rfl, q12⟩
              have HR12 := Lib.hid (HR11.out.ca q12)
              have HB12 := Lib.hid (bl_ca HB11.out q12)
              clear q12
              have HR13 := Lib.hid (HR12.out.alloc (.cells #[.int .i64 3, .int .i64 0, .int .u64 0, .string T] 28))
              have hN := Blk.new w12 28 #[.int .i64 3, .int .i64 0, .int .u64 0, .string T]
              have HB13 := Lib.hid (bl_al HB12.out (.cells #[.int .i64 3, .int .i64 0, .int .u64 0, .string T] 28))
              have lR := HR13.out.lt
              have lb0 := HB12.out.size
              go_wp2_with (refine wpList_store_blk rfl 28 (.tmp 2) (.tmp 56) rfl w.heap.size 28 _ _ rfl rfl HR13.out rfl valI (one4 _ _ _ _) ?_; intro wz hZ gz)
              exact bodyPost_ret (res2 Tryd.results16 rfl rfl hZ Tryd.underlying28 rfl valI) rfl ⟨HR.out.symm, bl_gr HB13.out gz (Nat.le_refl _)⟩
            · have HPR2 := Lib.hid (HPR.out.trans (if_neg h40))
              have HR := Lib.hid (paR_none HS.out HPR2.out)
              have HTX := Lib.hid (fun w => vtext_long (bS t) (by rw [← HTS.out]; omega) w)
              rw [show (⟨t.toArray⟩ : ByteArray) = bS t from rfl]
              generalize bS t = T at *
              clear h40
              go_wp2_with fail
              refine (HTX.out _).mono ?_
              rintro e w12 ⟨rfl, q12⟩
              have HR12 := Lib.hid (HR11.out.ca q12)
              have HB12 := Lib.hid (bl_ca HB11.out q12)
              clear q12
              have HR13 := Lib.hid (HR12.out.alloc (.cells #[.int .i64 0, .int .i64 0, .int .u64 0, .string ⟨#[]⟩] 28))
              have HB13 := Lib.hid (bl_al HB12.out (.cells #[.int .i64 0, .int .i64 0, .int .u64 0, .string ⟨#[]⟩] 28))
              go_wp2_with (refine wpList_store_blk rfl 28 (.tmp 2) (.tmp 57) rfl w.heap.size 28 _ _ rfl rfl HR13.out rfl valI (one4 _ _ _ _) ?_; intro wz hZ gz)
              exact bodyPost_ret (res2 Tryd.results16 rfl rfl hZ Tryd.underlying28 rfl valI) rfl ⟨HR.out.symm, bl_gr HB13.out gz (Nat.le_refl _)⟩
      · have HIP := Lib.hid (intP_no (s := s) (fun n h => hat ⟨n, h⟩))
        have HPI := Lib.hid (fun w hT => pint_no s (by have := HS.out; omega) (fun n h => hat ⟨n, h⟩) w hT)
        clear hat
        go_wp2_with fail
        refine (HPI.out wr HT.out).mono ?_
        rintro e w2 ⟨n, ty, N, rfl, q2⟩
        have HR2 := Lib.hid (HR1.out.ca q2)
        have HB2 := Lib.hid (bl_ca HB1.out q2)
        clear q2
        go_wp2_with fail
        have HPR := Lib.hid (parse_rest HN.out.1 HN.out.2.1 HN.out.2.2 HIP.out)
        cases hq : quoP s.data.toList with
        | none =>
          rw [hq] at HPR
          have HR := Lib.hid (paR_none HS.out HPR.out)
          have HQ := Lib.hid (quoO_none hq)
          clear hq
          refine (quoted_any s (by have := HS.out; omega) w2).mono ?_
          rw [HQ.out]
          rintro e w11 ⟨rfl, q11⟩
          have HR11 := Lib.hid (HR2.out.ca q11)
          have HB11 := Lib.hid (bl_ca HB2.out q11)
          clear q11
          go_wp2_with (refine wpList_store_blk rfl 28 (.tmp 2) (.tmp 57) rfl w.heap.size 28 _ _ rfl rfl HR11.out rfl valI (one4 _ _ _ _) ?_; intro wz hZ gz)
          exact bodyPost_ret (res2 Tryd.results16 rfl rfl hZ Tryd.underlying28 rfl valI) rfl ⟨HR.out.symm, bl_gr HB11.out gz (Nat.le_refl _)⟩
        | some t =>
          rw [hq] at HPR
          have HQ := Lib.hid (quoO_some hq)
          clear hq
          refine (quoted_any s (by have := HS.out; omega) w2).mono ?_
          rw [HQ.out]
          rintro e w11 ⟨rfl, q11⟩
          have HR11 := Lib.hid (HR2.out.ca q11)
          have HB11 := Lib.hid (bl_ca HB2.out q11)
          clear q11
          have HTS := Lib.hid (len_data (bS t))
          rw [bS_data] at HTS
          by_cases h40 : t.length ≤ 40
          · have HPR2 := Lib.hid (HPR.out.trans (if_pos h40))
            have HR := Lib.hid (paR_some HS.out HPR2.out)
            rw [show (⟨3, 0, t⟩ : LV).vv = VT (bS t) from rfl] at HR
            have HTX := Lib.hid (fun w => vtext_any (bS t) (by rw [← HTS.out]; exact h40) w)
            rw [show (⟨t.toArray⟩ : ByteArray) = bS t from rfl]
            generalize bS t = T at *
            clear h40
            go_wp2_with fail
            refine (HTX.out _).mono ?_
            rintro e w12 ⟨rfl, q12⟩
            have HR12 := Lib.hid (HR11.out.ca q12)
            have HB12 := Lib.hid (bl_ca HB11.out q12)
            clear q12
            have HR13 := Lib.hid (HR12.out.alloc (.cells #[.int .i64 3, .int .i64 0, .int .u64 0, .string T] 28))
            have hN := Blk.new w12 28 #[.int .i64 3, .int .i64 0, .int .u64 0, .string T]
            have HB13 := Lib.hid (bl_al HB12.out (.cells #[.int .i64 3, .int .i64 0, .int .u64 0, .string T] 28))
            have lR := HR13.out.lt
            have lb0 := HB12.out.size
            go_wp2_with (refine wpList_store_blk rfl 28 (.tmp 2) (.tmp 56) rfl w.heap.size 28 _ _ rfl rfl HR13.out rfl valI (one4 _ _ _ _) ?_; intro wz hZ gz)
            exact bodyPost_ret (res2 Tryd.results16 rfl rfl hZ Tryd.underlying28 rfl valI) rfl ⟨HR.out.symm, bl_gr HB13.out gz (Nat.le_refl _)⟩
          · have HPR2 := Lib.hid (HPR.out.trans (if_neg h40))
            have HR := Lib.hid (paR_none HS.out HPR2.out)
            have HTX := Lib.hid (fun w => vtext_long (bS t) (by rw [← HTS.out]; omega) w)
            rw [show (⟨t.toArray⟩ : ByteArray) = bS t from rfl]
            generalize bS t = T at *
            clear h40
            go_wp2_with fail
            refine (HTX.out _).mono ?_
            rintro e w12 ⟨rfl, q12⟩
            have HR12 := Lib.hid (HR11.out.ca q12)
            have HB12 := Lib.hid (bl_ca HB11.out q12)
            clear q12
            have HR13 := Lib.hid (HR12.out.alloc (.cells #[.int .i64 0, .int .i64 0, .int .u64 0, .string ⟨#[]⟩] 28))
            have HB13 := Lib.hid (bl_al HB12.out (.cells #[.int .i64 0, .int .i64 0, .int .u64 0, .string ⟨#[]⟩] 28))
            go_wp2_with (refine wpList_store_blk rfl 28 (.tmp 2) (.tmp 57) rfl w.heap.size 28 _ _ rfl rfl HR13.out rfl valI (one4 _ _ _ _) ?_; intro wz hZ gz)
            exact bodyPost_ret (res2 Tryd.results16 rfl rfl hZ Tryd.underlying28 rfl valI) rfl ⟨HR.out.symm, bl_gr HB13.out gz (Nat.le_refl _)⟩
end Go.Proofs.YtabbiepafibmmaaDoor
