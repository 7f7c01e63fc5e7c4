/- The layer's first, whole. Conditions: a text of one byte or more, at most 100000; what the tables hold. -/
import Derived.Test.YtnpicnddcoaboaaGreatDoorLxG5
import Derived.Test.YtnpicnddcoaboaaGreatDoorLxR4
namespace Go.Proofs.YtnpicnddcoaboaaGreatDoor
open Go.RowKit
set_option maxRecDepth 100000 in
set_option maxHeartbeats 8000000 in
/-- a row of parts -/
theorem lfirst_row (s : ByteArray) (b : UInt8) (r : List UInt8) (w : World) (hT : Tab w) (hs : s.size ≤ 100000) (hd : s.data.toList = b :: r) (hb39 : b ≠ 39) (hpa : paU b = true) : Calls Tryz.prog 36 #[.string s] w fun e w' => OneE s.data.toList 0 e ∧ Below w.heap.size w w' := by
  have hL := len_data s
  have h1 : 1 ≤ s.size := by rw [← hL, hd]; simp
  have hb : s.data.toList[0]? = some b := by rw [hd]; rfl
  have hix : ∀ W, (Instr.index 9 (.string s) (.int .i64 0)).run Tryz.prog W = .ok (.int .u8 (b.toNat : Int)) W := run_bt hb
  have HF := Lib.hid (show firstU s.data.toList = rowT (s.data.toList.takeWhile paU) from by rw [hd]; exact first_par hb39 hpa)
  have hk1 : 1 ≤ (s.data.toList.takeWhile paU).length := by rw [hd, List.takeWhile_cons, if_pos hpa]; simp
  have hk := takeWhile_le paU s.data.toList
  rw [hL] at hk
  have HPRE := Lib.hid (take_pre (p := paU) s.data.toList)
  have HASC := Lib.hid (par_ascii (takeWhile_all' (p := paU) s.data.toList))
  obtain ⟨row, hr⟩ : ∃ row, row = s.data.toList.takeWhile paU := ⟨_, rfl⟩
  have HRW := Lib.hid hr
  rw [← hr] at HF hk1 hk HPRE HASC
  have e1 : ((b.toNat : Int) == 39) = false := by
    simp only [beq_eq_false_iff_ne]
    exact fun h => hb39 (byte_inj (k := 39) (by decide) h)
  obtain ⟨cc, hc⟩ : ∃ cc, cc = (b.toNat : Int) := ⟨_, rfl⟩
  rw [← hc] at hix e1
  obtain ⟨n, hn⟩ : ∃ n, n = row.length := ⟨_, rfl⟩
  have HN := Lib.hid hn
  rw [← hn] at hk1 hk
  have HTX := Lib.hid (show (s.extract 0 n).data.toList = row from by rw [Lib.extract_data, List.drop_zero, ← HPRE.out, HN.out]; simp)
  have HQ := Lib.hid (bl_al (bl_al (Below.refl w.heap.size w) (.cells #[.string s] 9)) (.cells #[.int .i64 0, .int .i64 0, .string ⟨#[]⟩, .int .u64 0] 29))
  have HBS := Lib.hid ((Blk.new w 9 #[.string s]).alloc (.cells #[.int .i64 0, .int .i64 0, .string ⟨#[]⟩, .int .u64 0] 29))
  have HB := Lib.hid (Blk.new (w.alloc (.cells #[.string s] 9)) 29 #[.int .i64 0, .int .i64 0, .string ⟨#[]⟩, .int .u64 0])
  rw [World.size_alloc] at HB
  have HT := Lib.hid hT
  clear hb hd hL h1 hb39 hpa hc hn hr hT
  go_enter Tryz.func36, Tryz.ntmps36
  go_wp2_with fail
  refine (lrun_any s _ (by omega)).mono ?_
  rintro e w2 ⟨rfl, q2⟩
  rw [show ((s.data.toList.takeWhile paU).length : Int) = (n : Int) from by rw [HN.out, HRW.out]]
  have HQ2 := Lib.hid (bl_ca HQ.out q2)
  have HB2 := Lib.hid (HB.out.ca q2)
  have x2 := (HBS.out.ca q2).cell 0
  have HBS2 := Lib.hid (HBS.out.ca q2)
  clear hix e1 q2 HQ HB HBS
  have hn1 : 0 < (n : Int) := by omega
  go_wp2_with fail
  have hT1 : 1 ≤ (s.extract 0 n).size := by rw [← len_data, HTX.out, ← HN.out]; exact hk1
  have hT2 : (s.extract 0 n).size ≤ 100000 := by rw [← len_data, HTX.out, ← HN.out]; omega
  obtain ⟨T, hTT⟩ : ∃ T, T = s.extract 0 n := ⟨_, rfl⟩
  rw [← hTT] at HTX hT1 hT2 ⊢
  clear hTT x2
  have HTB := Lib.hid (HT.out.below HQ2.out)
  refine (lnumber_any T _ hT1 hT2 HTB.out).mono ?_
  rintro e w3 ⟨⟨v, rfl, hv⟩, q3⟩
  have HV := Lib.hid hv
  have HQ3 := Lib.hid (bl_ca HQ2.out q3)
  have HB3 := Lib.hid (HB2.out.ca q3)
  have HTB3 := Lib.hid (HTB.out.below q3)
  clear hv q3
  rw [HTX.out] at HV ⊢
  cases hq : numU row with
  | some k =>
    have HR := Lib.hid (row_num hq)
    rw [hq] at HV
    clear hq
    rw [Option.isSome_some]
    go_wp2_with (first | (refine wpList_store_blk rfl 29 (.tmp 2) (.tmp 41) rfl (w.heap.size + 1) 29 #[.int .i64 0, .int .i64 0, .string ⟨#[]⟩, .int .u64 0] #[.int .i64 3, .int .i64 0, .string ⟨#[]⟩, .int .u64 v] rfl rfl HB3.out rfl tokI (by simp [Value.oneCell']) ?_; intro w8 h8 g8))
    exact bodyPost_ret (res3 Tryz.results36 rfl rfl rfl h8 Tryz.underlying29 rfl tokI) rfl ⟨OneE.mk (t := ⟨3, 0, [], k⟩) (by rw [HV.out k rfl]) (by rw [HF.out, HR.out]) (fun _ => by rw [HF.out, HR.out]; exact ⟨rfl, by rw [HN.out, Nat.zero_add]⟩), bl_gr HQ3.out g8 (by omega)⟩
  | none =>
    have HNO := Lib.hid hq
    clear hq
    rw [Option.isSome_none]
    go_wp2_with fail
    refine (Tryz.strings_ToUpper_any T _ (by omega) HTB3.out.cv HTB3.out.u8).mono ?_
    rintro e w4 ⟨rfl, q4⟩
    rw [HTX.out, Lib.toUpperD_ascii _ HASC.out, upA_eq]
    have HTB4 := Lib.hid (HTB3.out.below q4)
    go_wp2_with fail
    refine (isword_any _ _ HTB4.out).mono ?_
    rintro e w5 ⟨rfl, rfl⟩
    have HQ4 := Lib.hid (bl_ca HQ3.out q4)
    have HB4 := Lib.hid (HB3.out.ca q4)
    clear q4
    cases hw : isWordB ⟨(upL row).toArray⟩ with
    | true =>
      have HR := Lib.hid (row_word HNO.out hw)
      clear hw
      go_wp2_with (first | (refine wpList_store_blk rfl 29 (.tmp 2) (.tmp 48) rfl (w.heap.size + 1) 29 #[.int .i64 0, .int .i64 0, .string ⟨#[]⟩, .int .u64 0] #[.int .i64 1, .int .i64 0, .string ⟨(upL row).toArray⟩, .int .u64 0] rfl rfl HB4.out rfl tokI (by simp [Value.oneCell']) ?_; intro w8 h8 g8))
      exact bodyPost_ret (res3 Tryz.results36 rfl rfl rfl h8 Tryz.underlying29 rfl tokI) rfl ⟨OneE.mk (t := ⟨1, 0, upL row, 0⟩) rfl (by rw [HF.out, HR.out]) (fun _ => by rw [HF.out, HR.out]; exact ⟨rfl, by rw [HN.out, Nat.zero_add]⟩), bl_gr HQ4.out g8 (by omega)⟩
    | false =>
      have HR := Lib.hid (row_name HNO.out hw)
      clear hw
      go_wp2_with fail
      refine (isname_any T _ HTB4.out (by omega)).mono ?_
      rintro e w6 ⟨rfl, q6⟩
      have HQ6 := Lib.hid (bl_ca HQ4.out q6)
      have HB6 := Lib.hid (HB4.out.ca q6)
      clear q6
      have HTT := Lib.hid (bS_of HTX.out)
      go_wp2_with (first | (refine wpList_store_blk rfl 29 (.tmp 2) (.tmp 51) rfl (w.heap.size + 1) 29 #[.int .i64 0, .int .i64 0, .string ⟨#[]⟩, .int .u64 0] #[.int .i64 2, .int .i64 0, .string T, .int .u64 0] rfl rfl HB6.out rfl tokI (by simp [Value.oneCell']) ?_; intro w8 h8 g8))
      exact bodyPost_ret (res3 Tryz.results36 rfl rfl rfl h8 Tryz.underlying29 rfl tokI) rfl ⟨OneE.mk (t := ⟨2, 0, row, 0⟩) (by rw [HTT.out]; rfl) (by rw [HF.out, HR.out, HTT.out]) (fun _ => by rw [HF.out, HR.out]; exact ⟨rfl, by rw [HN.out, Nat.zero_add]⟩), bl_gr HQ6.out g8 (by omega)⟩
set_option maxRecDepth 100000 in
set_option maxHeartbeats 8000000 in
/-- a sign, or what is none -/
theorem lfirst_sgn (s : ByteArray) (b : UInt8) (r : List UInt8) (w : World) (hT : Tab w) (hs : s.size ≤ 100000) (hd : s.data.toList = b :: r) (hb39 : b ≠ 39) (hpa : paU b = false) : Calls Tryz.prog 36 #[.string s] w fun e w' => OneE s.data.toList 0 e ∧ Below w.heap.size w w' := by
  have hL := len_data s
  have h1 : 1 ≤ s.size := by rw [← hL, hd]; simp
  have hb : s.data.toList[0]? = some b := by rw [hd]; rfl
  have hix : ∀ W, (Instr.index 9 (.string s) (.int .i64 0)).run Tryz.prog W = .ok (.int .u8 (b.toNat : Int)) W := run_bt hb
  have HF := Lib.hid (show firstU s.data.toList = sgnT s.data.toList from by rw [hd]; exact first_sgn hb39 hpa)
  have HK := Lib.hid (show ((s.data.toList.takeWhile paU).length : Int) = 0 from by rw [hd, List.takeWhile_cons, if_neg (by rw [hpa]; simp)]; rfl)
  have e1 : ((b.toNat : Int) == 39) = false := by
    simp only [beq_eq_false_iff_ne]
    exact fun h => hb39 (byte_inj (k := 39) (by decide) h)
  obtain ⟨cc, hc⟩ : ∃ cc, cc = (b.toNat : Int) := ⟨_, rfl⟩
  rw [← hc] at hix e1
  have HQ := Lib.hid (bl_al (bl_al (Below.refl w.heap.size w) (.cells #[.string s] 9)) (.cells #[.int .i64 0, .int .i64 0, .string ⟨#[]⟩, .int .u64 0] 29))
  have HBS := Lib.hid ((Blk.new w 9 #[.string s]).alloc (.cells #[.int .i64 0, .int .i64 0, .string ⟨#[]⟩, .int .u64 0] 29))
  have HB := Lib.hid (Blk.new (w.alloc (.cells #[.string s] 9)) 29 #[.int .i64 0, .int .i64 0, .string ⟨#[]⟩, .int .u64 0])
  rw [World.size_alloc] at HB
  have HT := Lib.hid hT
  have HIX := Lib.hid (sgn_idx s)
  clear hb hd hL h1 hb39 hpa hc hT
  go_enter Tryz.func36, Tryz.ntmps36
  go_wp2_with fail
  refine (lrun_any s _ (by omega)).mono ?_
  rintro e w2 ⟨rfl, q2⟩
  rw [HK.out]
  have HQ2 := Lib.hid (bl_ca HQ.out q2)
  have HB2 := Lib.hid (HB.out.ca q2)
  have HBS2 := Lib.hid (HBS.out.ca q2)
  clear hix e1 q2 HQ HB HBS
  have HTB := Lib.hid (HT.out.below HQ2.out)
  go_wp2_with fail
  refine (indexS AllB (some ⟨0, 0, none⟩) 14 14 (signsU.map bS) 64 #[.pointer (some ⟨w.heap.size, 0, none⟩)] (sgnP s) w2 HTB.out.sgR (by omega) (fun args w => enters_of Tryz.func64 (by kernel_rfl) rfl args w) (fun i t W hW _ => first1_any t w.heap.size s W ((HBS2.out.ca hW).cell 0))).mono ?_
  rintro e w3 ⟨rfl, q3⟩
  have HQ3 := Lib.hid (bl_ca HQ2.out q3)
  have HB3 := Lib.hid (HB2.out.ca q3)
  have HTB3 := Lib.hid (HTB.out.below q3)
  clear q3
  cases hsg : sgU s.data.toList with
  | none =>
    rw [HIX.out.1 hsg]
    have HNO := Lib.hid (sgn_no hsg)
    clear hsg
    go_wp2_with (first | (refine wpList_store_blk rfl 29 (.tmp 2) (.tmp 60) rfl (w.heap.size + 1) 29 #[.int .i64 0, .int .i64 0, .string ⟨#[]⟩, .int .u64 0] #[.int .i64 0, .int .i64 0, .string ⟨#[]⟩, .int .u64 0] rfl rfl HB3.out rfl tokI (by simp [Value.oneCell']) ?_; intro w8 h8 g8))
    exact bodyPost_ret (res3 Tryz.results36 rfl rfl rfl h8 Tryz.underlying29 rfl tokI) rfl ⟨OneE.mk (t := ⟨0, 0, [], 0⟩) rfl (by rw [HF.out, HNO.out]) (fun h => by rw [HF.out, HNO.out] at h; cases h), bl_gr HQ3.out g8 (by omega)⟩
  | some x =>
    obtain ⟨i, hi14, hi, hx⟩ := HIX.out.2 x hsg
    rw [hi]
    have HYES := Lib.hid (sgn_some hsg)
    have HC := Lib.hid (HTB3.out.sg i x hx)
    have HG := Lib.hid (show 0 < w.heap.size from World.block_lt_of_cell? w _ (HT.out.sg i x hx))
    clear hsg hi hx
    have hi0 : 0 ≤ (i : Int) := by omega
    have hi1 : (i : Int) < 14 := by omega
    go_upto_region 17 with fail
    refine wp_region_ps (S := Seq1 8 (fun _ w' => Below w3.heap.size w3 w') (fun _ w' => ∃ w6, Below w3.heap.size w3 w6 ∧ Blk w' (w.heap.size + 1) 29 #[.int .i64 5, .int .i64 0, .string (bS x), .int .u64 0] ∧ w6.grownBy w' (some (w.heap.size + 1)))) (by kernel_rfl) ?spswg1 ?ppswg1
    case spswg1 =>
      exact Seq1.start (by decide) (Below.refl _ _).drew
    refine Ps.st (i := 0) (d := some 61) (u := (.int .i64 ((i : Int)))) rfl rfl (by exact StepS.pure (Seq1.pass (by decide)) rfl fun _ => rfl) ?_
    try simp only [Act.put, sA, sZ, sS]
    refine Ps.st (i := 1) (d := some 62) (u := (.pointer (some ⟨0, i, none⟩))) rfl rfl (by exact StepS.pure (Seq1.pass (by decide)) rfl fun _ => by first | rfl | (go_simp; done) | (go_simp; rfl)) ?_
    try simp only [Act.put, sA, sZ, sS]
    refine Ps.st (i := 2) (d := some 63) (u := (.string ((bS x)))) rfl rfl ?ywg1_4 ?rwg1_4
    case ywg1_4 =>
      refine StepS.read [] (by kernel_rfl) (Seq1.pass (by decide)) (by rfl) (fun L9 m9 w9 hSh hAt hDn hS => ?_)
      have x0 : w9.cell? ⟨0, i, none⟩ = some (.string (bS x)) := Seq1.any (T := fun w9 => w9.cell? ⟨0, i, none⟩ = some (.string (bS x))) (fun _ _ h => (h.cell (World.block_lt_of_cell? w3 _ HC.out)).trans HC.out) (fun _ w9 ⟨w6, h1, _, h3⟩ => (cell_of_heap (p := ⟨0, i, none⟩) (h3.block _ (Nat.lt_of_lt_of_le (World.block_lt_of_cell? w3 _ HC.out) h1.size) (fun e => by injection e with e; have h9 := HG.out; have e : 0 = w.heap.size + 1 := e; omega))).trans ((h1.cell (World.block_lt_of_cell? w3 _ HC.out)).trans HC.out)) hS
      clear hS
      go_simp
      try rfl
    try simp only [Act.put, sA, sZ, sS]
    refine Ps.st (i := 3) (d := some 64) (u := (.agg #[.int .i64 (5), .int .i64 (0), .string ((bS x)), .int .u64 (0)])) rfl rfl (by exact StepS.pure (Seq1.pass (by decide)) rfl fun _ => by first | rfl | (go_simp; done) | (go_simp; rfl)) ?_
    try simp only [Act.put, sA, sZ, sS]
    refine Ps.st (i := 4) (d := some 65) (u := (.int .i64 ((i : Int)))) rfl rfl (by exact StepS.pure (Seq1.pass (by decide)) rfl fun _ => rfl) ?_
    try simp only [Act.put, sA, sZ, sS]
    refine Ps.st (i := 5) (d := some 66) (u := (.pointer (some ⟨0, i, none⟩))) rfl rfl (by exact StepS.pure (Seq1.pass (by decide)) rfl fun _ => by first | rfl | (go_simp; done) | (go_simp; rfl)) ?_
    try simp only [Act.put, sA, sZ, sS]
    refine Ps.st (i := 6) (d := some 67) (u := (.string ((bS x)))) rfl rfl ?ywg1_8 ?rwg1_8
    case ywg1_8 =>
      refine StepS.read [] (by kernel_rfl) (Seq1.pass (by decide)) (by rfl) (fun L9 m9 w9 hSh hAt hDn hS => ?_)
      have x0 : w9.cell? ⟨0, i, none⟩ = some (.string (bS x)) := Seq1.any (T := fun w9 => w9.cell? ⟨0, i, none⟩ = some (.string (bS x))) (fun _ _ h => (h.cell (World.block_lt_of_cell? w3 _ HC.out)).trans HC.out) (fun _ w9 ⟨w6, h1, _, h3⟩ => (cell_of_heap (p := ⟨0, i, none⟩) (h3.block _ (Nat.lt_of_lt_of_le (World.block_lt_of_cell? w3 _ HC.out) h1.size) (fun e => by injection e with e; have h9 := HG.out; have e : 0 = w.heap.size + 1 := e; omega))).trans ((h1.cell (World.block_lt_of_cell? w3 _ HC.out)).trans HC.out)) hS
      clear hS
      go_simp
      try rfl
    try simp only [Act.put, sA, sZ, sS]
    refine Ps.st (i := 7) (d := some 68) (u := (.int .i64 (((bS x).size : Int)))) rfl rfl (by exact StepS.pure (Seq1.pass (by decide)) rfl fun _ => by first | rfl | (go_simp; done) | (go_simp; rfl)) ?_
    try simp only [Act.put, sA, sZ, sS]
    refine Ps.st (i := 8) (d := none) (u := undef) rfl rfl ?ywg1_10 ?rwg1_10
    case ywg1_10 =>
      refine StepS.store [] (by kernel_rfl) (by rfl) (fun L9 m9 w9 hSh hAt hDn hS => ?_)
      have hT := Seq1.at1 hDn hS
      refine (exec_store_blk (w := w9) 29 (.tmp 2) (.tmp 64) (by rfl) (w.heap.size + 1) 29 #[.int .i64 0, .int .i64 0, .string ⟨#[]⟩, .int .u64 0] #[.int .i64 5, .int .i64 0, .string (bS x), .int .u64 0] (by rfl) (by rfl) (HB3.out.ca hT) rfl tokI (by simp [Value.oneCell'])).imp fun w7 hx => ⟨hx.1, Seq1.set1 ⟨w9, hT, hx.2.1, hx.2.2⟩⟩
    try simp only [Act.put]
    refine Ps.st (i := 9) (d := some 3) (u := (.int .i64 (((bS x).size : Int)))) rfl rfl (by exact StepS.pure (Seq1.pass (by decide)) rfl fun _ => rfl) ?_
    try simp only [Act.put, sA, sZ, sS]
    refine Ps.st (i := 10) (d := some 4) (u := (.bool (true))) rfl rfl (by exact StepS.pure (Seq1.pass (by decide)) rfl fun _ => rfl) ?_
    try simp only [Act.put, sA, sZ, sS]
    refine Ps.done (by kernel_rfl) (fun wg1 hS => ?_) _
    obtain ⟨w6, hT, h8, g8⟩ := Seq1.fin (by rfl) hS
    clear hS
    obtain ⟨w8, rfl⟩ : ∃ x, x = wg1 := ⟨_, rfl⟩
    go_wp2
    exact bodyPost_ret (res3 Tryz.results36 rfl rfl rfl h8 Tryz.underlying29 rfl tokI) rfl ⟨OneE.mk (t := ⟨5, 0, x, 0⟩) rfl (by rw [HF.out, HYES.out]) (fun _ => by rw [HF.out, HYES.out]; exact ⟨rfl, by rw [Nat.zero_add, ← len_data]⟩), bl_gr (bl_ca HQ3.out hT) g8 (by omega)⟩
theorem lfirst_any (s : ByteArray) (w : World) (hT : Tab w) (h1 : 1 ≤ s.size) (hs : s.size ≤ 100000) : Calls Tryz.prog 36 #[.string s] w fun e w' => OneE s.data.toList 0 e ∧ Below w.heap.size w w' := by
  cases hd : s.data.toList with
  | nil => have := len_data s; rw [hd] at this; simp at this; omega
  | cons b r =>
    rw [← hd]
    by_cases h : b = 39
    · subst h; exact lfirst_quo s r w hs hd
    · cases hpa : paU b
      · exact lfirst_sgn s b r w hT hs hd h hpa
      · exact lfirst_row s b r w hT hs hd h hpa
end Go.Proofs.YtnpicnddcoaboaaGreatDoor
