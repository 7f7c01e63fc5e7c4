/- The reference's Signs, One. Conditions: texts of at most 100000 bytes, a place within. -/
import Derived.Test.YtnpicnddcoaboaaGreatDoorLxR2
import Derived.Test.YtnpicnddcoaboaaGreatDoorGs
import Derived.Test.YtnpicnddcoaboaaGreatDoorPsN
namespace Go.Proofs.YtnpicnddcoaboaaGreatDoor
open Go.RowKit
theorem tokI : (Tryz.prog.info? 29).map (·.size) = some 4 := by kernel_rfl
section
variable {P : Program}
theorem res3 {fn : Func} {p q r : Tmp} {ty : TypeId} (h : fn.results = #[.cell p ty, .tmp q, .tmp r]) {tmps : Array Value} {w : World} {g : Nat} {t : TypeId} {cs : Array Value} {d : TypeDesc} {v u : Value}
    (hp : tmps.getD p undef = .pointer (some ⟨g, 0, none⟩)) (hq : tmps.getD q undef = v) (hr : tmps.getD r undef = u) (hg : Blk w g t cs) (hu : P.underlying ty = some d) (hd : (match d with | .struct _ | .array _ _ => true | _ => false) = true) (hi : (P.info? ty).map (·.size) = some cs.size) :
    (results fn tmps).run P w = .ok (.tuple #[.agg cs, v, u]) w := by
  have hp' : tmps[p]?.getD undef = .pointer (some ⟨g, 0, none⟩) := by simpa using hp
  have hq' : tmps[q]?.getD undef = v := by simpa using hq
  have hr' : tmps[r]?.getD undef = u := by simpa using hr
  simp [results, h, hp', hq', hr', asAddr, run_loadVar_row w g t ty cs (0, 0) d hg hu hd hi]
end
/-- the reference's signs -/
def rsignsL : List ByteArray := [⟨#[40]⟩, ⟨#[41]⟩, ⟨#[44]⟩, ⟨#[46]⟩, ⟨#[42]⟩, ⟨#[43]⟩, ⟨#[45]⟩, ⟨#[47]⟩, ⟨#[61]⟩, ⟨#[60, 62]⟩, ⟨#[60]⟩, ⟨#[60, 61]⟩, ⟨#[62]⟩, ⟨#[62, 61]⟩]
theorem sg_two {b c : UInt8} (r : List UInt8) (h : Lib.containsS rsignsL (bS [b, c]) = true) : sgU (b :: c :: r) = some [b, c] := by
  have h1 := (Lib.containsS_iff _ _).1 h
  simp only [rsignsL, List.mem_cons, List.not_mem_nil, or_false, ByteArray.mk.injEq, ← Array.toList_inj, List.cons.injEq, and_true, reduceCtorEq, and_false, false_or] at h1
  rcases h1 with ⟨rfl, rfl⟩ | ⟨rfl, rfl⟩ | ⟨rfl, rfl⟩ <;> rfl
theorem sg_one {b : UInt8} {r : List UInt8} (h : Lib.containsS rsignsL (bS [b]) = true) (h2 : ∀ c x, r = c :: x → Lib.containsS rsignsL (bS [b, c]) = false) : sgU (b :: r) = some [b] := by
  have h1 := (Lib.containsS_iff _ _).1 h
  simp only [rsignsL, List.mem_cons, List.not_mem_nil, or_false, ByteArray.mk.injEq, ← Array.toList_inj, List.cons.injEq, and_true, reduceCtorEq, and_false, false_or] at h1
  have e : ∀ x y : UInt8, Lib.containsS rsignsL (bS [x, y]) = true → ∀ c z, r = c :: z → b = x → c ≠ y := by
    intro x y hxy c z hr hb hc
    have := h2 c z hr
    rw [hb, hc, hxy] at this
    cases this
  have e1 := e 60 62 (by decide)
  have e2 := e 60 61 (by decide)
  have e3 := e 62 61 (by decide)
  unfold sgU
  cases r with
  | nil => rcases h1 with rfl | rfl | rfl | rfl | rfl | rfl | rfl | rfl | rfl | rfl | rfl <;> rfl
  | cons c z =>
    have k1 := e1 c z rfl
    have k2 := e2 c z rfl
    have k3 := e3 c z rfl
    rcases h1 with rfl | rfl | rfl | rfl | rfl | rfl | rfl | rfl | rfl | rfl | rfl <;> first | rfl | (simp [signsU, List.isPrefixOf, Ne.symm (k1 rfl), Ne.symm (k2 rfl)]; done) | (simp [signsU, List.isPrefixOf, Ne.symm (k3 rfl)]; done)
theorem sg_none {b : UInt8} (r : List UInt8) (h : Lib.containsS rsignsL (bS [b]) = false) : sgU (b :: r) = none := by
  unfold sgU
  rw [List.find?_eq_none]
  intro s hs hp
  have key : ∀ s ∈ signsU, Lib.containsS rsignsL (bS (s.take 1)) = true := by decide
  have hne := signs_pos s hs
  cases s with
  | nil => simp at hne
  | cons x y =>
    have h1 := key _ hs
    have h2 := List.isPrefixOf_iff_prefix.1 hp
    obtain ⟨t, ht⟩ := h2
    rw [List.cons_append] at ht
    injection ht with ht _
    rw [List.take_succ_cons, List.take_zero, ht, h] at h1
    cases h1
set_option maxRecDepth 100000 in
theorem rsigns_any (w : World) : Calls Tryz.prog 21 #[] w fun e w' => e = .returned (.slice (some ⟨w.heap.size, 0, none⟩) 14 14) ∧ LS.rd w' AllB (some ⟨w.heap.size, 0, none⟩) 14 rsignsL ∧ Below w.heap.size w w' := by
  go_enter Tryz.func21, Tryz.ntmps21
  go_wp2
  go_ret
  exact ⟨rfl, LS_blk (Blk.new w 9 _) rfl trivial, bl_al (Below.refl _ _) _⟩
/-- what One returns of what stands at a place -/
def OneE (l : List UInt8) (p : Nat) (e : Ending) : Prop := ∃ (t : Tk) (n : Int), e = .returned (.tuple #[.agg t.cells, .int .i64 n, .bool (firstU l).2.2]) ∧ ((firstU l).2.2 = true → t = { (firstU l).1 with at_ := (p : Int) } ∧ n = ((p + (firstU l).2.1 : Nat) : Int))
theorem OneE.mk {l : List UInt8} {p : Nat} {t : Tk} {n : Int} {o : Bool} {cs : Array Value} (hc : cs = t.cells) (ho : o = (firstU l).2.2) (h : (firstU l).2.2 = true → t = { (firstU l).1 with at_ := (p : Int) } ∧ n = ((p + (firstU l).2.1 : Nat) : Int)) : OneE l p (.returned (.tuple #[.agg cs, .int .i64 n, .bool o])) := ⟨t, n, by rw [hc, ho], h⟩
theorem first_quo {b : UInt8} {r : List UInt8} (h : b = 39) : firstU (b :: r) = quoT r := by rw [firstU, if_pos h]
theorem first_par {b : UInt8} {r : List UInt8} (h : b ≠ 39) (h2 : paU b = true) : firstU (b :: r) = rowT ((b :: r).takeWhile paU) := by rw [firstU, if_neg h, if_pos h2]
theorem first_sgn {b : UInt8} {r : List UInt8} (h : b ≠ 39) (h2 : paU b = false) : firstU (b :: r) = sgnT (b :: r) := by rw [firstU, if_neg h, if_neg (by rw [h2]; simp)]
theorem bS_eta (s : ByteArray) : bS s.data.toList = s := rfl
theorem bS_of {s : ByteArray} {l : List UInt8} (h : s.data.toList = l) : s = bS l := by rw [← h]
set_option maxRecDepth 100000 in
set_option maxHeartbeats 4000000 in
/-- a text between quotes -/
theorem rone_quo (s : ByteArray) (p : Nat) (w : World) (hp : p < s.size) (hs : s.size ≤ 100000) (hq : s.data.toList[p]? = some 39) : Calls Tryz.prog 16 #[.string s, .int .i64 (p : Int)] w fun e w' => OneE (s.data.toList.drop p) p e ∧ Below w.heap.size w w' := by
  have HD := Lib.hid (drop_at hq)
  have hix := run_bt hq
  have e0 : ((39 : UInt8).toNat : Int) = 39 := rfl
  rw [e0] at hix
  clear e0 hq
  go_enter Tryz.func16, Tryz.ntmps16
  go_wp2_with fail
  refine (rquoted_any s p _ hp hs).mono ?_
  rintro e w2 ⟨hq, rfl⟩
  have HQ := Lib.hid hq
  clear hix hq
  obtain ⟨T, n, o, he, hT⟩ : ∃ (T : ByteArray) (n : Int) (o : Bool), e = .returned (.tuple #[.string T, .int .i64 n, .bool o]) ∧ o = (quoT (s.data.toList.drop (p + 1))).2.2 ∧ ((quoT (s.data.toList.drop (p + 1))).2.2 = true → (⟨4, 0, T.data.toList, 0⟩ : Tk) = (quoT (s.data.toList.drop (p + 1))).1 ∧ n = ((p + (quoT (s.data.toList.drop (p + 1))).2.1 : Nat) : Int)) := by
    have h := HQ.out
    unfold QuoE at h
    unfold quoT
    cases hq : qGo (s.data.toList.drop (p + 1)) with
    | none =>
      rw [hq] at h
      exact ⟨_, _, _, h, rfl, fun h => by simp at h⟩
    | some tk =>
      obtain ⟨t, k⟩ := tk
      rw [hq] at h
      refine ⟨_, _, _, h, rfl, fun _ => ⟨rfl, ?_⟩⟩
      simp only
      omega
  subst he
  have HT := Lib.hid hT
  clear hT
  have HB := Lib.hid (Blk.new w 29 #[.int .i64 4, .int .i64 (p : Int), .string T, .int .u64 0])
  go_wp2
  refine bodyPost_ret (res3 Tryz.results16 rfl rfl rfl HB.out Tryz.underlying29 rfl tokI) rfl ⟨OneE.mk (t := ⟨4, p, T.data.toList, 0⟩) rfl ?_ ?_, bl_al (Below.refl _ _) _⟩
  · rw [HD.out, first_quo rfl]; exact HT.out.1
  · rw [HD.out, first_quo rfl]
    intro h
    obtain ⟨h1, h2⟩ := HT.out.2 h
    refine ⟨?_, h2⟩
    rw [← h1]
theorem take_all {p : UInt8 → Bool} : ∀ (l : List UInt8) (i : Nat) (b : UInt8), i < (l.takeWhile p).length → l[i]? = some b → p b = true
  | [], i, b, h, _ => by simp at h
  | c :: l, i, b, h, hb => by
    rw [List.takeWhile_cons] at h
    split at h
    · rename_i hc
      cases i with
      | zero => rw [List.getElem?_cons_zero] at hb; injection hb with hb; rw [← hb]; exact hc
      | succ i => exact take_all l i b (by simpa using h) (by simpa using hb)
    · simp at h
theorem take_stop {p : UInt8 → Bool} : ∀ (l : List UInt8) (b : UInt8), l[(l.takeWhile p).length]? = some b → p b = false
  | [], b, hb => by simp at hb
  | c :: l, b, hb => by
    rw [List.takeWhile_cons] at hb
    split at hb
    · exact take_stop l b (by simpa using hb)
    · rename_i hc
      simp only [List.length_nil, List.getElem?_cons_zero, Option.some.injEq] at hb
      rw [← hb]
      simpa using hc
theorem take_pre {p : UInt8 → Bool} : ∀ (l : List UInt8), l.take (l.takeWhile p).length = l.takeWhile p
  | [] => rfl
  | c :: l => by
    rw [List.takeWhile_cons]
    split
    · rw [List.length_cons, List.take_succ_cons, take_pre l]
    · rfl
theorem row_num {row : List UInt8} {k : Nat} (h : numU row = some k) : rowT row = (⟨3, 0, [], k⟩, row.length, true) := by unfold rowT; rw [h]
theorem row_word {row : List UInt8} (h : numU row = none) (h2 : isWordB (bS (upL row)) = true) : rowT row = (⟨1, 0, upL row, 0⟩, row.length, true) := by unfold rowT; rw [h]; exact if_pos h2
theorem row_name {row : List UInt8} (h : numU row = none) (h2 : isWordB (bS (upL row)) = false) : rowT row = (⟨2, 0, row, 0⟩, row.length, nameB (bS row)) := by unfold rowT; rw [h]; exact if_neg (by rw [h2]; simp)
set_option maxRecDepth 100000 in
set_option maxHeartbeats 8000000 in
/-- a row of parts -/
theorem rone_row (s : ByteArray) (p : Nat) (b : UInt8) (w : World) (hp : p < s.size) (hs : s.size ≤ 100000) (hb : s.data.toList[p]? = some b) (hb39 : b ≠ 39) (hpa : paU b = true) : Calls Tryz.prog 16 #[.string s, .int .i64 (p : Int)] w fun e w' => OneE (s.data.toList.drop p) p e ∧ Below w.heap.size w w' := by
  have hD := drop_at hb
  have hrow : (s.data.toList.drop p).takeWhile paU = b :: (s.data.toList.drop (p + 1)).takeWhile paU := by rw [hD, List.takeWhile_cons, if_pos hpa]
  have HF := Lib.hid (show firstU (s.data.toList.drop p) = rowT ((s.data.toList.drop p).takeWhile paU) from by rw [hD]; exact first_par hb39 hpa)
  obtain ⟨row, hr⟩ : ∃ row, row = (s.data.toList.drop p).takeWhile paU := ⟨_, rfl⟩
  have hk := takeWhile_le paU (s.data.toList.drop p)
  rw [List.length_drop, len_data, ← hr] at hk
  have hk1 : 1 ≤ row.length := by rw [hr, hrow]; simp
  have HPRE := Lib.hid (take_pre (p := paU) (s.data.toList.drop p))
  have HALL := Lib.hid (take_all (p := paU) (s.data.toList.drop p))
  have HSTOP := Lib.hid (take_stop (p := paU) (s.data.toList.drop p))
  rw [← hr] at HF HPRE HALL HSTOP
  have hix := run_bt hb
  have HNQ := Lib.hid (fun h : (b.toNat : Int) = 39 => hb39 (byte_inj (k := 39) (by decide) h))
  clear hb hb39 hpa hD hrow hr
  obtain ⟨c, hc⟩ : ∃ c, c = (b.toNat : Int) := ⟨_, rfl⟩
  rw [← hc] at hix HNQ
  clear hc
  have e1 : (c == 39) = false := by simpa using HNQ.out
  obtain ⟨j, hj⟩ : ∃ j, j = p + row.length := ⟨_, rfl⟩
  have HJ := Lib.hid hj
  have hj1 : p < j := by omega
  have hj2 : j ≤ s.size := by omega
  have HT := Lib.hid (show (s.extract p j).data.toList = row from by rw [Lib.extract_data, ← HPRE.out]; congr 1; omega)
  have HB := Lib.hid (Blk.new w 29 #[.int .i64 0, .int .i64 0, .string ⟨#[]⟩, .int .u64 0])
  have HQ := Lib.hid (bl_al (Below.refl w.heap.size w) (.cells #[.int .i64 0, .int .i64 0, .string ⟨#[]⟩, .int .u64 0] 29))
  clear hj hk hk1
  go_enter Tryz.func16, Tryz.ntmps16
  go_wp2_with fail
  generalize w.alloc (.cells #[.int .i64 0, .int .i64 0, .string ⟨#[]⟩, .int .u64 0] 29) = w1 at *
  clear hix e1 HNQ
  go_loopg [10] (j - p) (fun g a wr => ∃ i : Nat, i + g = j ∧ p ≤ i ∧ a = .int .i64 i ∧ w1 = wr)
  case atStart => exact ⟨p, by omega, Nat.le_refl _, rfl, rfl⟩
  case round =>
    obtain ⟨i, hij, hpi, rfl, rfl⟩ := hrel
    by_cases hlt : i < j
    · have hi1 : (i : Int) < (s.size : Int) := by omega
      obtain ⟨b, hb⟩ := byte_at (s := s) (i := i) (by omega)
      have hix := run_bt hb
      have HP := Lib.hid (show paI (b.toNat : Int) = true from HALL.out (i - p) b (by have := HJ.out; omega) (by rw [List.getElem?_drop, show p + (i - p) = i from by omega]; exact hb))
      clear hb
      go_wp2_with fail
      refine (rpart_any _ _).mono ?_
      rintro e w2 ⟨rfl, rfl⟩
      rw [HP.out]
      clear hix
      go_wp2
      go_roundg (gk - 1)
      · exact ⟨i + 1, by omega, by omega, by go_num, rfl⟩
      · omega
    · obtain rfl : i = j := by omega
      have hgt : (p : Int) < (i : Int) := by omega
      clear hij hlt hpi
      rcases Nat.lt_or_ge i s.size with hz | hz
      · have hi1 : (i : Int) < (s.size : Int) := by omega
        obtain ⟨b, hb⟩ := byte_at (s := s) (i := i) hz
        have hix := run_bt hb
        have HP := Lib.hid (show paI (b.toNat : Int) = false from HSTOP.out b (by rw [List.getElem?_drop, ← HJ.out]; exact hb))
        clear hb
        go_wp2_with fail
        refine (rpart_any _ _).mono ?_
        rintro e w2 ⟨rfl, rfl⟩
        rw [HP.out]
        clear hix
        go_wp2_with fail
        have hT1 : 1 ≤ (s.extract p i).size := by rw [← len_data, HT.out]; have := HJ.out; omega
        have hT2 : (s.extract p i).size ≤ 100000 := by rw [← len_data, HT.out]; have := HJ.out; omega
        have HLN := Lib.hid HJ.out
        generalize s.extract p i = T at *
        refine (rnumber_any T _ hT1 hT2).mono ?_
        rintro e w2 ⟨⟨v, rfl, hv⟩, rfl⟩
        have HV := Lib.hid hv
        clear hv
        rw [HT.out] at HV ⊢
        cases hq : numU row with
        | some k =>
          have HR := Lib.hid (row_num hq)
          rw [hq] at HV
          clear hq
          rw [Option.isSome_some]
          go_wp2_with (first | (refine wpList_store_blk rfl 29 (.tmp 4) (.tmp 58) rfl w.heap.size 29 #[.int .i64 0, .int .i64 0, .string ⟨#[]⟩, .int .u64 0] #[.int .i64 3, .int .i64 (p : Int), .string ⟨#[]⟩, .int .u64 v] rfl rfl HB.out rfl tokI (by simp [Value.oneCell']) ?_; intro w8 h8 g8))
          exact bodyPost_ret (res3 Tryz.results16 rfl rfl rfl h8 Tryz.underlying29 rfl tokI) rfl ⟨OneE.mk (t := ⟨3, p, [], k⟩) (by rw [HV.out k rfl]) (by rw [HF.out, HR.out]) (fun _ => by rw [HF.out, HR.out]; exact ⟨rfl, by rw [HLN.out]⟩), bl_gr HQ.out g8 (by omega)⟩
        | none =>
          have HNO := Lib.hid hq
          clear hq
          rw [Option.isSome_none]
          go_wp2_with fail
          refine (rupper_any T _ hT2).mono ?_
          rintro e w3 ⟨rfl, q3⟩
          go_wp2_with fail
          refine (risword_any _ _).mono ?_
          rintro e w4 ⟨rfl, q4⟩
          have HQ4 := Lib.hid (bl_ca (bl_ca HQ.out q3) q4)
          have HB4 := Lib.hid ((HB.out.ca q3).ca q4)
          clear q3 q4
          rw [HT.out]
          cases hw : isWordB ⟨(upL row).toArray⟩ with
          | true =>
            have HR := Lib.hid (row_word HNO.out hw)
            clear hw
            go_wp2_with fail
            refine (rupper_any T _ hT2).mono ?_
            rintro e w5 ⟨rfl, q5⟩
            have HQ5 := Lib.hid (bl_ca HQ4.out q5)
            have HB5 := Lib.hid (HB4.out.ca q5)
            clear q5
            rw [HT.out]
            go_wp2_with (first | (refine wpList_store_blk rfl 29 (.tmp 4) (.tmp 66) rfl w.heap.size 29 #[.int .i64 0, .int .i64 0, .string ⟨#[]⟩, .int .u64 0] #[.int .i64 1, .int .i64 (p : Int), .string ⟨(upL row).toArray⟩, .int .u64 0] rfl rfl HB5.out rfl tokI (by simp [Value.oneCell']) ?_; intro w8 h8 g8))
            exact bodyPost_ret (res3 Tryz.results16 rfl rfl rfl h8 Tryz.underlying29 rfl tokI) rfl ⟨OneE.mk (t := ⟨1, p, upL row, 0⟩) rfl (by rw [HF.out, HR.out]) (fun _ => by rw [HF.out, HR.out]; exact ⟨rfl, by rw [HLN.out]⟩), bl_gr HQ5.out g8 (by omega)⟩
          | false =>
            have HR := Lib.hid (row_name HNO.out hw)
            clear hw
            go_wp2_with fail
            refine (risname_any T _ (by omega)).mono ?_
            rintro e w5 ⟨rfl, q5⟩
            have HQ5 := Lib.hid (bl_ca HQ4.out q5)
            have HB5 := Lib.hid (HB4.out.ca q5)
            clear q5
            have HTT := Lib.hid (bS_of HT.out)
            go_wp2_with (first | (refine wpList_store_blk rfl 29 (.tmp 4) (.tmp 70) rfl w.heap.size 29 #[.int .i64 0, .int .i64 0, .string ⟨#[]⟩, .int .u64 0] #[.int .i64 2, .int .i64 (p : Int), .string T, .int .u64 0] rfl rfl HB5.out rfl tokI (by simp [Value.oneCell']) ?_; intro w8 h8 g8))
            exact bodyPost_ret (res3 Tryz.results16 rfl rfl rfl h8 Tryz.underlying29 rfl tokI) rfl ⟨OneE.mk (t := ⟨2, p, row, 0⟩) (by rw [HTT.out]; rfl) (by rw [HF.out, HR.out, HTT.out]) (fun _ => by rw [HF.out, HR.out]; exact ⟨rfl, by rw [HLN.out]⟩), bl_gr HQ5.out g8 (by omega)⟩
      · have hi1 : (s.size : Int) ≤ (i : Int) := by omega
        go_wp2_with fail
        have hT1 : 1 ≤ (s.extract p i).size := by rw [← len_data, HT.out]; have := HJ.out; omega
        have hT2 : (s.extract p i).size ≤ 100000 := by rw [← len_data, HT.out]; have := HJ.out; omega
        have HLN := Lib.hid HJ.out
        generalize s.extract p i = T at *
        refine (rnumber_any T _ hT1 hT2).mono ?_
        rintro e w2 ⟨⟨v, rfl, hv⟩, rfl⟩
        have HV := Lib.hid hv
        clear hv
        rw [HT.out] at HV ⊢
        cases hq : numU row with
        | some k =>
          have HR := Lib.hid (row_num hq)
          rw [hq] at HV
          clear hq
          rw [Option.isSome_some]
          go_wp2_with (first | (refine wpList_store_blk rfl 29 (.tmp 4) (.tmp 58) rfl w.heap.size 29 #[.int .i64 0, .int .i64 0, .string ⟨#[]⟩, .int .u64 0] #[.int .i64 3, .int .i64 (p : Int), .string ⟨#[]⟩, .int .u64 v] rfl rfl HB.out rfl tokI (by simp [Value.oneCell']) ?_; intro w8 h8 g8))
          exact bodyPost_ret (res3 Tryz.results16 rfl rfl rfl h8 Tryz.underlying29 rfl tokI) rfl ⟨OneE.mk (t := ⟨3, p, [], k⟩) (by rw [HV.out k rfl]) (by rw [HF.out, HR.out]) (fun _ => by rw [HF.out, HR.out]; exact ⟨rfl, by rw [HLN.out]⟩), bl_gr HQ.out g8 (by omega)⟩
        | none =>
          have HNO := Lib.hid hq
          clear hq
          rw [Option.isSome_none]
          go_wp2_with fail
          refine (rupper_any T _ hT2).mono ?_
          rintro e w3 ⟨rfl, q3⟩
          go_wp2_with fail
          refine (risword_any _ _).mono ?_
          rintro e w4 ⟨rfl, q4⟩
          have HQ4 := Lib.hid (bl_ca (bl_ca HQ.out q3) q4)
          have HB4 := Lib.hid ((HB.out.ca q3).ca q4)
          clear q3 q4
          rw [HT.out]
          cases hw : isWordB ⟨(upL row).toArray⟩ with
          | true =>
            have HR := Lib.hid (row_word HNO.out hw)
            clear hw
            go_wp2_with fail
            refine (rupper_any T _ hT2).mono ?_
            rintro e w5 ⟨rfl, q5⟩
            have HQ5 := Lib.hid (bl_ca HQ4.out q5)
            have HB5 := Lib.hid (HB4.out.ca q5)
            clear q5
            rw [HT.out]
            go_wp2_with (first | (refine wpList_store_blk rfl 29 (.tmp 4) (.tmp 66) rfl w.heap.size 29 #[.int .i64 0, .int .i64 0, .string ⟨#[]⟩, .int .u64 0] #[.int .i64 1, .int .i64 (p : Int), .string ⟨(upL row).toArray⟩, .int .u64 0] rfl rfl HB5.out rfl tokI (by simp [Value.oneCell']) ?_; intro w8 h8 g8))
            exact bodyPost_ret (res3 Tryz.results16 rfl rfl rfl h8 Tryz.underlying29 rfl tokI) rfl ⟨OneE.mk (t := ⟨1, p, upL row, 0⟩) rfl (by rw [HF.out, HR.out]) (fun _ => by rw [HF.out, HR.out]; exact ⟨rfl, by rw [HLN.out]⟩), bl_gr HQ5.out g8 (by omega)⟩
          | false =>
            have HR := Lib.hid (row_name HNO.out hw)
            clear hw
            go_wp2_with fail
            refine (risname_any T _ (by omega)).mono ?_
            rintro e w5 ⟨rfl, q5⟩
            have HQ5 := Lib.hid (bl_ca HQ4.out q5)
            have HB5 := Lib.hid (HB4.out.ca q5)
            clear q5
            have HTT := Lib.hid (bS_of HT.out)
            go_wp2_with (first | (refine wpList_store_blk rfl 29 (.tmp 4) (.tmp 70) rfl w.heap.size 29 #[.int .i64 0, .int .i64 0, .string ⟨#[]⟩, .int .u64 0] #[.int .i64 2, .int .i64 (p : Int), .string T, .int .u64 0] rfl rfl HB5.out rfl tokI (by simp [Value.oneCell']) ?_; intro w8 h8 g8))
            exact bodyPost_ret (res3 Tryz.results16 rfl rfl rfl h8 Tryz.underlying29 rfl tokI) rfl ⟨OneE.mk (t := ⟨2, p, row, 0⟩) (by rw [HTT.out]; rfl) (by rw [HF.out, HR.out, HTT.out]) (fun _ => by rw [HF.out, HR.out]; exact ⟨rfl, by rw [HLN.out]⟩), bl_gr HQ5.out g8 (by omega)⟩
end Go.Proofs.YtnpicnddcoaboaaGreatDoor
