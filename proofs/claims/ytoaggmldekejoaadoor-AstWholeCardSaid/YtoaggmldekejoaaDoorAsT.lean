/- value.Print of what may stand in a tree; a name, as it is written. Conditions: what the tables hold. -/
import Derived.Test.YtoaggmldekejoaaDoorAsQ
import Derived.Test.YtoaggmldekejoaaDoorShelf
import Derived.Lib.ItoaMem
namespace Go.Proofs.YtoaggmldekejoaaDoor
open Go.RowKit Go.Shelf
theorem len_data (s : ByteArray) : s.data.toList.length = s.size := by simp
theorem bS_of {s : ByteArray} {l : List UInt8} (h : s.data.toList = l) : s = bS l := by rw [← h]
theorem quo_len : ∀ l : List UInt8, (quoU l).length ≤ 2 * l.length
  | [] => by simp [quoU]
  | b :: l => by
    have := quo_len l
    rw [show quoU (b :: l) = (if b = 39 then [39, 39] else [b]) ++ quoU l from by unfold quoU; rw [List.flatMap_cons]]
    rw [List.length_append, List.length_cons]
    split <;> simp only [List.length_cons, List.length_nil] <;> omega
theorem drop_at {l : List UInt8} {i : Nat} {b : UInt8} (h : l[i]? = some b) : l.drop i = b :: l.drop (i + 1) := by
  have hi : i < l.length := by
    rcases Nat.lt_or_ge i l.length with h1 | h1
    · exact h1
    · rw [List.getElem?_eq_none h1] at h; cases h
  rw [List.getElem?_eq_getElem hi] at h
  injection h with h
  rw [List.drop_eq_getElem_cons hi, h]
theorem quo_none : ∀ {l : List UInt8}, (∀ k : Nat, l[k]? ≠ some 39) → quoU l = l
  | [], _ => rfl
  | b :: l, h => by
    have hb : b ≠ 39 := fun e => h 0 (by rw [e]; rfl)
    rw [show quoU (b :: l) = b :: quoU l from by unfold quoU; rw [List.flatMap_cons, if_neg hb]; rfl, quo_none (fun k => by have := h (k + 1); rwa [List.getElem?_cons_succ] at this)]
theorem quo_app (a b : List UInt8) : quoU (a ++ b) = quoU a ++ quoU b := by unfold quoU; rw [List.flatMap_append]
theorem replace_quo : ∀ (n : Nat) (s : List UInt8), s.length ≤ n → Lib.replaceK [39] [39, 39] (Lib.count s [39]) s = quoU s := by
  intro n
  induction n with
  | zero =>
    intro s h
    have : s = [] := List.eq_nil_of_length_eq_zero (by omega)
    subst this
    rfl
  | succ n ih =>
    intro s h
    by_cases hm : Lib.indexByte s 39 = -1
    · rw [Lib.count_miss (by rw [Lib.index_one]; exact hm), Lib.replaceK, quo_none (Lib.indexByte_none hm)]
    · have hg := Lib.indexByte_ge s 39
      obtain ⟨i, hi⟩ : ∃ i : Nat, Lib.indexByte s 39 = i := ⟨(Lib.indexByte s 39).toNat, by omega⟩
      have hidx : Lib.index s [39] = i := by rw [Lib.index_one]; exact hi
      obtain ⟨h1, h2⟩ := Lib.indexByte_some hi
      have hlt : i < s.length := by
        rcases Nat.lt_or_ge i s.length with h3 | h3
        · exact h3
        · rw [List.getElem?_eq_none h3] at h1; cases h1
      rw [Lib.count_hit (by simp) hidx, Nat.add_comm, Lib.replaceK_hit _ _ _ _ _ hidx]
      rw [show i + ([39] : List UInt8).length = i + 1 from rfl, ih (s.drop (i + 1)) (by rw [List.length_drop]; omega)]
      have e : s = s.take i ++ (39 :: s.drop (i + 1)) := by
        rw [← drop_at h1, List.take_append_drop]
      conv => rhs; rw [e]
      rw [quo_app, quo_none (l := s.take i) (fun k hk => by
        rw [List.getElem?_take] at hk
        split at hk
        · rename_i h9; exact h2 k h9 hk
        · cases hk)]
      rw [List.append_assoc]
      rfl
theorem replaceAll_quo (s : List UInt8) : Lib.replaceAll s [39] [39, 39] = quoU s := by
  unfold Lib.replaceAll Lib.replace
  rw [if_neg (by decide), show Lib.replaceNum s [39] (-1) = Lib.count s [39] from by unfold Lib.replaceNum; rw [if_pos (by left; decide)]]
  exact replace_quo _ s (Nat.le_refl _)
set_option maxHeartbeats 6400000 in
set_option maxRecDepth 100000 in
theorem ifmt_any (u : Nat) (hu64 : u ≤ 9223372036854775807) (w : World) (hT : Tab w) :
    Calls Tryd.prog 56 #[.int .i64 (u : Int), .int .i64 10] w fun e w' => e = .returned (.string ⟨(Lib.decDigits u).toArray⟩) ∧ Below w.heap.size w w' := by
  by_cases hs : u < 100
  · have hi : (u : Int) < 100 := by omega
    have HS := Lib.hid hs
    clear hs hu64
    go_enter Tryd.func56, Tryd.ntmps56
    go_wp2_with fail
    refine (Tryd.internal_strconv_small u HS.out _).mono ?_
    rintro e w' ⟨rfl, rfl⟩
    go_wp2
    go_ret
    exact ⟨rfl, Below.refl _ _⟩
  · have hu1 : 1 ≤ u := by omega
    have hi : 100 ≤ (u : Int) := by omega
    have hi9 : (u : Int) ≤ 9223372036854775807 := by omega
    have hnd20 : Lib.nDigits u ≤ 20 := by have := Lib.numDigits_eq u hu1 (by omega); split at this <;> omega
    have hal : Tryd.prog.arrayLen 102 = 24 := by kernel_rfl
    have hsl1 : ∀ W, (Instr.sliceAt 102 (.pointer (some ⟨w.heap.size, 0, none⟩)) (some (.int .i64 1)) (some (.int .i64 (1 + (Lib.nDigits u : Int)))) none).run Tryd.prog W = .ok (.slice (some ⟨w.heap.size, 1, none⟩) (Lib.nDigits u) 23) W := fun W => by
      rw [run_sliceAt_array_lh W 102 ⟨w.heap.size, 0, none⟩ (by kernel_rfl) .i64 .i64 1 (1 + (Lib.nDigits u : Int)) (by omega) (by omega) (by rw [hal]; omega)]
      go_simp
      omega
    have hH0 := Lib.holds_zero w 102 (Lib.nDigits u) (by omega)
    have hfmt := Tryd.internal_strconv_formatBase10 w.heap.size 1 23 u (Array.replicate (Lib.nDigits u) 0) (w.alloc (.cells Lib.zeros24 102)) hH0 (by rw [Array.size_replicate]; exact Lib.lt_pow_nDigits u) (by omega) (by rw [Array.size_replicate]; omega)
    rw [Array.size_replicate] at hfmt
    have HH0 := Lib.hid hH0
    have HFM := Lib.hid hfmt
    have HT := Lib.hid (Lib.tabIs_alloc hT.pw (.cells Lib.zeros24 102))
    have HU := Lib.hid (And.intro hu1 (show u < 18446744073709551616 by omega))
    clear hH0 hal hfmt hT hs hu64
    go_enter Tryd.func56, Tryd.ntmps56
    go_wp2_with fail
    refine (Tryd.internal_strconv_numDigits u HU.out.1 HU.out.2 _ HT.out).mono ?_
    rintro e w' ⟨rfl, rfl⟩
    go_wp2_with fail
    refine HFM.out.mono ?_
    rintro e w' ⟨rfl, k, v', dk, rfl, hF⟩
    have hcv : (convert 81 9 (.slice (some ⟨w.heap.size, 1, none⟩) (Lib.nDigits u) 23)).run Tryd.prog ((Sort.putRow (fun (b : UInt8) => Value.int .u8 (b.toNat : Int)) (w.alloc (.cells Lib.zeros24 102)) w.heap.size 1 dk).drewN k) = .ok (.string ⟨(Lib.decDigits u).toArray⟩) ((Sort.putRow (fun (b : UInt8) => Value.int .u8 (b.toNat : Int)) (w.alloc (.cells Lib.zeros24 102)) w.heap.size 1 dk).drewN k) := by
      have h := run_convert_bytes_back (P := Tryd.prog) ((Sort.putRow (fun (b : UInt8) => Value.int .u8 (b.toNat : Int)) (w.alloc (.cells Lib.zeros24 102)) w.heap.size 1 dk).drewN k) 81 9 5 ⟨w.heap.size, 1, none⟩ 23 (Lib.decDigits u) Tryd.underlying81 Tryd.underlying5 Tryd.underlying9 (fun j hj => by
        rw [Lib.row_is_numeral hF j hj, Lib.add_plain, World.cell?_drewN]
        exact Sort.cell?_putRow (fun (b : UInt8) => Value.int .u8 (b.toNat : Int)) _ w.heap.size 1 _ dk HH0.out (by rw [hF.size, Array.size_replicate]) j (by rw [hF.size]; rw [Lib.decDigits_length] at hj; exact hj))
      rw [Lib.decDigits_length] at h
      exact h
    obtain ⟨os, eo⟩ := Lib.fin_pos w (.cells Lib.zeros24 102) dk k
    have HB := Lib.hid (show Below w.heap.size w ((Sort.putRow (fun (b : UInt8) => Value.int .u8 (b.toNat : Int)) (w.alloc (.cells Lib.zeros24 102)) w.heap.size 1 dk).drewN k) from by rw [eo]; exact below_grown w k os)
    generalize (Sort.putRow (fun (b : UInt8) => Value.int .u8 (b.toNat : Int)) (w.alloc (.cells Lib.zeros24 102)) w.heap.size 1 dk).drewN k = w2 at *
    clear eo hF
    go_wp2
    go_ret
    exact ⟨rfl, HB.out⟩
set_option maxRecDepth 100000 in
theorem fmt_any (u : Nat) (hu64 : u ≤ 9223372036854775807) (w : World) (hT : Tab w) :
    Calls Tryd.prog 46 #[.int .i64 (u : Int), .int .i64 10] w fun e w' => e = .returned (.string ⟨(Lib.decDigits u).toArray⟩) ∧ Below w.heap.size w w' := by
  have H := Lib.hid (fun w hT => ifmt_any u hu64 w hT)
  clear hu64
  go_enter Tryd.func46, Tryd.ntmps46
  go_wp2_with fail
  refine (H.out w hT).mono ?_
  rintro e w2 ⟨rfl, q2⟩
  go_wp2
  go_ret
  exact ⟨rfl, q2⟩
theorem truth_null (w : World) : Calls Tryd.prog 48 #[.agg #[.int .i64 0, .int .i64 0, .int .u64 0, .string ⟨#[]⟩]] w fun e w' => e = .returned (.int .i64 1) ∧ Below w.heap.size w w' := by
  have HQ := Lib.hid (bl_al (Below.refl w.heap.size w) (.cells #[.int .i64 0, .int .i64 0, .int .u64 0, .string ⟨#[]⟩] 25))
  go_enter Tryd.func48, Tryd.ntmps48
  go_wp2
  go_ret
  exact ⟨rfl, HQ.out⟩
theorem truth_f (w : World) : Calls Tryd.prog 48 #[.agg #[.int .i64 1, .int .i64 0, .int .u64 0, .string ⟨#[]⟩]] w fun e w' => e = .returned (.int .i64 0) ∧ Below w.heap.size w w' := by
  have HQ := Lib.hid (bl_al (Below.refl w.heap.size w) (.cells #[.int .i64 1, .int .i64 0, .int .u64 0, .string ⟨#[]⟩] 25))
  go_enter Tryd.func48, Tryd.ntmps48
  go_wp2
  go_ret
  exact ⟨rfl, HQ.out⟩
theorem truth_t (w : World) : Calls Tryd.prog 48 #[.agg #[.int .i64 1, .int .i64 1, .int .u64 0, .string ⟨#[]⟩]] w fun e w' => e = .returned (.int .i64 2) ∧ Below w.heap.size w w' := by
  have HQ := Lib.hid (bl_al (Below.refl w.heap.size w) (.cells #[.int .i64 1, .int .i64 1, .int .u64 0, .string ⟨#[]⟩] 25))
  go_enter Tryd.func48, Tryd.ntmps48
  go_wp2
  go_ret
  exact ⟨rfl, HQ.out⟩
/-- what Print gives back of a value that may stand in a tree -/
def VPr (k n u : Int) (s : ByteArray) (w : World) : Prop := Calls Tryd.prog 36 #[.agg #[.int .i64 k, .int .i64 n, .int .u64 u, .string s]] w fun e w' => e = .returned (.tuple #[.string (bS (litU k n s.data.toList)), .int .i64 0]) ∧ Below w.heap.size w w'
set_option maxRecDepth 100000 in
theorem vprint_null (w : World) (hT : Tab w) : VPr 0 0 0 ⟨#[]⟩ w := by
  unfold VPr
  have HQ := Lib.hid (bl_al (Below.refl w.heap.size w) (.cells #[.int .i64 0, .int .i64 0, .int .u64 0, .string ⟨#[]⟩] 25))
  have HB := Lib.hid (Blk.new w 25 #[.int .i64 0, .int .i64 0, .int .u64 0, .string ⟨#[]⟩])
  have HT := Lib.hid (hT.below HQ.out)
  clear hT
  go_enter Tryd.func36, Tryd.ntmps36
  go_wp2_with fail
  generalize w.alloc (.cells #[.int .i64 0, .int .i64 0, .int .u64 0, .string ⟨#[]⟩] 25) = w1 at *
  refine (check_y 0 0 0 ⟨#[]⟩ (by unfold rightB; simp) _).mono ?_
  rintro e w2 ⟨rfl, q2⟩
  have HQ2 := Lib.hid (bl_ca HQ.out q2)
  have HB2 := Lib.hid (HB.out.ca q2)
  have HT2 := Lib.hid (HT.out.below q2)
  have x0 := HB2.out.cell 0
  have x1 := HB2.out.cell 1
  have x2 := HB2.out.cell 2
  have x3 := HB2.out.cell 3
  simp at x0 x1 x2 x3
  clear q2 HB
  go_wp2_with fail
  refine (truth_null _).mono ?_
  rintro e w3 ⟨rfl, q3⟩
  have HQ3 := Lib.hid (bl_ca HQ2.out q3)
  have hv := (HT2.out.below q3).vw 1 _ rfl
  clear q3 x0 x1 x2 x3
  go_wp2
  go_ret2
  exact ⟨rfl, HQ3.out⟩
set_option maxRecDepth 100000 in
theorem vprint_false (w : World) (hT : Tab w) : VPr 1 0 0 ⟨#[]⟩ w := by
  unfold VPr
  have HQ := Lib.hid (bl_al (Below.refl w.heap.size w) (.cells #[.int .i64 1, .int .i64 0, .int .u64 0, .string ⟨#[]⟩] 25))
  have HB := Lib.hid (Blk.new w 25 #[.int .i64 1, .int .i64 0, .int .u64 0, .string ⟨#[]⟩])
  have HT := Lib.hid (hT.below HQ.out)
  clear hT
  go_enter Tryd.func36, Tryd.ntmps36
  go_wp2_with fail
  generalize w.alloc (.cells #[.int .i64 1, .int .i64 0, .int .u64 0, .string ⟨#[]⟩] 25) = w1 at *
  refine (check_y 1 0 0 ⟨#[]⟩ (by unfold rightB; simp) _).mono ?_
  rintro e w2 ⟨rfl, q2⟩
  have HQ2 := Lib.hid (bl_ca HQ.out q2)
  have HB2 := Lib.hid (HB.out.ca q2)
  have HT2 := Lib.hid (HT.out.below q2)
  have x0 := HB2.out.cell 0
  have x1 := HB2.out.cell 1
  have x2 := HB2.out.cell 2
  have x3 := HB2.out.cell 3
  simp at x0 x1 x2 x3
  clear q2 HB
  go_wp2_with fail
  refine (truth_f _).mono ?_
  rintro e w3 ⟨rfl, q3⟩
  have HQ3 := Lib.hid (bl_ca HQ2.out q3)
  have hv := (HT2.out.below q3).vw 0 _ rfl
  clear q3 x0 x1 x2 x3
  go_wp2
  go_ret2
  exact ⟨rfl, HQ3.out⟩
set_option maxRecDepth 100000 in
theorem vprint_true (w : World) (hT : Tab w) : VPr 1 1 0 ⟨#[]⟩ w := by
  unfold VPr
  have HQ := Lib.hid (bl_al (Below.refl w.heap.size w) (.cells #[.int .i64 1, .int .i64 1, .int .u64 0, .string ⟨#[]⟩] 25))
  have HB := Lib.hid (Blk.new w 25 #[.int .i64 1, .int .i64 1, .int .u64 0, .string ⟨#[]⟩])
  have HT := Lib.hid (hT.below HQ.out)
  clear hT
  go_enter Tryd.func36, Tryd.ntmps36
  go_wp2_with fail
  generalize w.alloc (.cells #[.int .i64 1, .int .i64 1, .int .u64 0, .string ⟨#[]⟩] 25) = w1 at *
  refine (check_y 1 1 0 ⟨#[]⟩ (by unfold rightB; simp) _).mono ?_
  rintro e w2 ⟨rfl, q2⟩
  have HQ2 := Lib.hid (bl_ca HQ.out q2)
  have HB2 := Lib.hid (HB.out.ca q2)
  have HT2 := Lib.hid (HT.out.below q2)
  have x0 := HB2.out.cell 0
  have x1 := HB2.out.cell 1
  have x2 := HB2.out.cell 2
  have x3 := HB2.out.cell 3
  simp at x0 x1 x2 x3
  clear q2 HB
  go_wp2_with fail
  refine (truth_t _).mono ?_
  rintro e w3 ⟨rfl, q3⟩
  have HQ3 := Lib.hid (bl_ca HQ2.out q3)
  have hv := (HT2.out.below q3).vw 2 _ rfl
  clear q3 x0 x1 x2 x3
  go_wp2
  go_ret2
  exact ⟨rfl, HQ3.out⟩
set_option maxRecDepth 100000 in
theorem vprint_int (u : Nat) (hu : u ≤ 9223372036854775807) (w : World) (hT : Tab w) : VPr 2 (u : Int) 0 ⟨#[]⟩ w := by
  unfold VPr
  have HQ := Lib.hid (bl_al (Below.refl w.heap.size w) (.cells #[.int .i64 2, .int .i64 (u : Int), .int .u64 0, .string ⟨#[]⟩] 25))
  have HB := Lib.hid (Blk.new w 25 #[.int .i64 2, .int .i64 (u : Int), .int .u64 0, .string ⟨#[]⟩])
  have HT := Lib.hid (hT.below HQ.out)
  have HR := Lib.hid (show rightB 2 (u : Int) 0 ⟨#[]⟩ = true from by unfold rightB; simp)
  have HF := Lib.hid (fun w hT => fmt_any u hu w hT)
  have HL := Lib.hid (show (⟨(Lib.decDigits u).toArray⟩ : ByteArray) = bS (litU 2 (u : Int) (⟨#[]⟩ : ByteArray).data.toList) from by
    show _ = bS (Lib.decDigits (u : Int).toNat)
    rw [Int.toNat_natCast])
  generalize bS (litU 2 (u : Int) (⟨#[]⟩ : ByteArray).data.toList) = R at *
  clear hT hu
  go_enter Tryd.func36, Tryd.ntmps36
  go_wp2_with fail
  generalize w.alloc (.cells #[.int .i64 2, .int .i64 (u : Int), .int .u64 0, .string ⟨#[]⟩] 25) = w1 at *
  refine (check_y 2 (u : Int) 0 ⟨#[]⟩ HR.out _).mono ?_
  rintro e w2 ⟨rfl, q2⟩
  have HQ2 := Lib.hid (bl_ca HQ.out q2)
  have HB2 := Lib.hid (HB.out.ca q2)
  have HT2 := Lib.hid (HT.out.below q2)
  have x0 := HB2.out.cell 0
  have x1 := HB2.out.cell 1
  simp at x0 x1
  clear q2 HB
  go_wp2_with fail
  refine (HF.out _ HT2.out).mono ?_
  rintro e w3 ⟨rfl, q3⟩
  have HQ3 := Lib.hid (bl_ca HQ2.out q3)
  rw [HL.out]
  clear q3 x0 x1
  go_wp2
  go_ret2
  exact ⟨rfl, HQ3.out⟩
set_option maxRecDepth 100000 in
theorem vprint_text (T : ByteArray) (hs : T.size ≤ 40) (w : World) (hT : Tab w) : VPr 3 0 0 T w := by
  unfold VPr
  have HQ := Lib.hid (bl_al (Below.refl w.heap.size w) (.cells #[.int .i64 3, .int .i64 0, .int .u64 0, .string T] 25))
  have HB := Lib.hid (Blk.new w 25 #[.int .i64 3, .int .i64 0, .int .u64 0, .string T])
  have HT := Lib.hid (hT.below HQ.out)
  have HR := Lib.hid (show rightB 3 0 0 T = true from by unfold rightB; simp; exact hs)
  have HQL := Lib.hid (quo_len T.data.toList)
  have hcount := Lib.count_le T.data.toList [39]
  rw [len_data] at hcount
  have hcB : Lib.countB T ⟨#[39]⟩ = Lib.count T.data.toList [39] := rfl
  have hlen : T.size + Lib.countB T ⟨#[39]⟩ * (⟨#[39, 39]⟩ : ByteArray).size ≤ 140737488355328 := by
    rw [hcB]
    have h9 : (⟨#[39, 39]⟩ : ByteArray).size = 2 := rfl
    rw [h9]
    omega
  have hsz : T.size < 4294967281 := by omega
  have HRP := Lib.hid (fun w' (m : Int) hm => Tryd.strings_ReplaceAll T ⟨#[39]⟩ ⟨#[39, 39]⟩ m w' hsz hm (by decide) hlen)
  have HLU := Lib.hid (show litU 3 0 T.data.toList = 39 :: (quoU T.data.toList ++ [39]) from rfl)
  have HTL := Lib.hid (len_data T)
  have HS := Lib.hid hs
  generalize litU 3 0 T.data.toList = r at *
  clear hT hs hcount hcB hlen hsz
  go_enter Tryd.func36, Tryd.ntmps36
  go_wp2_with fail
  generalize w.alloc (.cells #[.int .i64 3, .int .i64 0, .int .u64 0, .string T] 25) = w1 at *
  refine (check_y 3 0 0 T HR.out _).mono ?_
  rintro e w2 ⟨rfl, q2⟩
  have HQ2 := Lib.hid (bl_ca HQ.out q2)
  have HB2 := Lib.hid (HB.out.ca q2)
  have HT2 := Lib.hid (HT.out.below q2)
  have x0 := HB2.out.cell 0
  have x1 := HB2.out.cell 1
  have x3 := HB2.out.cell 3
  simp at x0 x1 x3
  clear q2 HB
  obtain ⟨m, hm⟩ := HT2.out.ml
  go_wp2_with fail
  refine (HRP.out _ m hm).mono ?_
  rintro e w3 ⟨rfl, q3⟩
  rw [show (⟨(Lib.replaceAll T.data.toList (⟨#[39]⟩ : ByteArray).data.toList (⟨#[39, 39]⟩ : ByteArray).data.toList).toArray⟩ : ByteArray) = bS (quoU T.data.toList) from congrArg bS (replaceAll_quo _)]
  have HQ3 := Lib.hid (bl_ca HQ2.out q3)
  have hz : (bS (quoU T.data.toList)).size ≤ 2000 := by rw [← len_data]; have := HQL.out; have := HTL.out; have := HS.out; show (quoU T.data.toList).length ≤ _; omega
  have HFIN := Lib.hid (show (⟨#[39]⟩ ++ bS (quoU T.data.toList)) ++ ⟨#[39]⟩ = bS r from bS_of (by rw [ByteArray.data_append, Array.toList_append, ByteArray.data_append, Array.toList_append, HLU.out]; rfl))
  have hz2 : (⟨#[39]⟩ ++ bS (quoU T.data.toList) : ByteArray).size ≤ 2001 := by rw [ByteArray.size_append]; have h1 : (⟨#[39]⟩ : ByteArray).size = 1 := rfl; omega
  obtain ⟨Z, hZ⟩ : ∃ Z, Z = bS (quoU T.data.toList) := ⟨_, rfl⟩
  rw [← hZ] at hz HFIN hz2 ⊢
  clear hZ q3 x0 x1 x3 hm
  go_wp2
  go_ret2
  exact ⟨by rw [← HFIN.out]; rfl, HQ3.out⟩
/-- a literal that may stand in a tree is written -/
theorem vprint_any (p : Py) (h : cntB p = true) (h1 : p.tag = 1) (hn : p.n ≤ 9223372036854775807) (w : World) (hT : Tab w) : VPr p.k p.n p.u p.s w := by
  have h0 : partsI p.tag = 0 := by rw [h1]; rfl
  rcases leaf_cases h h0 with rfl | rfl | rfl | ⟨n, rfl⟩ | ⟨s, rfl⟩ | ⟨tb, nm, rfl, _⟩ | rfl
  · exact vprint_null w hT
  · exact vprint_false w hT
  · exact vprint_true w hT
  · exact vprint_int n (by have h2 : (n : Int) ≤ 9223372036854775807 := hn; omega) w hT
  · refine vprint_text s ?_ w hT
    unfold cntB at h
    rw [if_pos rfl] at h
    simp only [Bool.and_eq_true] at h
    have h3 := h.2.2.1
    unfold plainV at h3
    simp only at h3
    rw [if_neg (by decide), if_neg (by decide), if_neg (by decide)] at h3
    exact (of_decide_eq_true h3).2.2.2
  · cases h1
  · cases h1
set_option maxRecDepth 100000 in
theorem name_any (tb nm : ByteArray) (h1 : tb.size ≤ 100000) (h2 : nm.size ≤ 100000) (w : World) : Calls Tryd.prog 37 #[.string tb, .string nm] w fun e w' => e = .returned (.string (bS (namU tb.data.toList nm.data.toList))) ∧ w = w' := by
  have HF := Lib.hid (show namU tb.data.toList nm.data.toList = if tb.data.toList = [] then nm.data.toList else tb.data.toList ++ (46 :: nm.data.toList) from rfl)
  generalize namU tb.data.toList nm.data.toList = r at *
  by_cases h0 : tb.data.toList = []
  · have HR := Lib.hid (show nm = bS r from bS_of (by rw [HF.out, if_pos h0]))
    have ht := ba_e h0
    subst ht
    clear h0 HF h1
    go_enter Tryd.func37, Tryd.ntmps37
    go_wp2
    go_ret
    exact ⟨by rw [← HR.out]; rfl, rfl⟩
  · have HR := Lib.hid (show (tb ++ ⟨#[46]⟩) ++ nm = bS r from bS_of (by rw [HF.out, if_neg h0, ByteArray.data_append, Array.toList_append, ByteArray.data_append, Array.toList_append, List.append_assoc]; rfl))
    have e0 := ne_list h0
    have e1 : ¬ tb.toList = [] := by rw [toList_data]; exact h0
    have e2 : tb.toList.isEmpty = false := by rw [toList_data]; cases hh : tb.data.toList with | nil => exact absurd hh h0 | cons => rfl
    have e3 : (tb.toList == []) = false := by rw [toList_data]; simpa using h0
    have hz : (tb ++ ⟨#[46]⟩ : ByteArray).size ≤ 100001 := by rw [ByteArray.size_append]; have h9 : (⟨#[46]⟩ : ByteArray).size = 1 := rfl; omega
    clear h0 HF
    go_enter Tryd.func37, Tryd.ntmps37
    go_wp2
    go_ret
    exact ⟨by rw [← HR.out]; rfl, rfl⟩
end Go.Proofs.YtoaggmldekejoaaDoor
