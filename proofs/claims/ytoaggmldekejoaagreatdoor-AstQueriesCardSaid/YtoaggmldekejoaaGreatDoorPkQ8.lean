/- value.Print of what may stand in a tree; a name, as it is written. Conditions: what the tables hold. -/
import Derived.Test.YtoaggmldekejoaaGreatDoorPkQ7
import Derived.Lib.ItoaMem
namespace Go.Proofs.YtoaggmldekejoaaGreatDoor
open Go.RowKit Go.Shelf
theorem len_data (s : ByteArray) : s.data.toList.length = s.size := by simp
theorem bS_of {s : ByteArray} {l : List UInt8} (h : s.data.toList = l) : s = bS l := by rw [← h]
theorem quo_len : ∀ l : List UInt8, (quoU l).length ≤ 2 * l.length
 | [] => by simp [quoU]
 | b :: l => by
  have := quo_len l
  rw [show quoU (b :: l) = (if b = 39 then [39, 39] else [b]) ++ quoU l from by unfold quoU; rw [List.flatMap_cons]]
  rw [List.length_append, List.length_cons]
  split <;> simp only [List.length_cons, List.length_nil] <;> omega
theorem drop_at {l : List UInt8} {i : Nat} {b : UInt8} (h : l[i]? = some b) : l.drop i = b :: l.drop (i + 1) := by
 have hi : i < l.length := by
  rcases Nat.lt_or_ge i l.length with h1 | h1
  · exact h1
  · rw [List.getElem?_eq_none h1] at h; cases h
 rw [List.getElem?_eq_getElem hi] at h
 injection h with h
 rw [List.drop_eq_getElem_cons hi, h]
theorem quo_none : ∀ {l : List UInt8}, (∀ k : Nat, l[k]? ≠ some 39) → quoU l = l
 | [], _ => rfl
 | b :: l, h => by
  have hb : b ≠ 39 := fun e => h 0 (by rw [e]; rfl)
  rw [show quoU (b :: l) = b :: quoU l from by unfold quoU; rw [List.flatMap_cons, if_neg hb]; rfl, quo_none (fun k => by have := h (k + 1); rwa [List.getElem?_cons_succ] at this)]
theorem quo_app (a b : List UInt8) : quoU (a ++ b) = quoU a ++ quoU b := by unfold quoU; rw [List.flatMap_append]
theorem replace_quo : ∀ (n : Nat) (s : List UInt8), s.length ≤ n → Lib.replaceK [39] [39, 39] (Lib.count s [39]) s = quoU s := by
 intro n
 induction n with
 | zero =>
  intro s h
  have : s = [] := List.eq_nil_of_length_eq_zero (by omega)
  subst this
  rfl
 | succ n ih =>
  intro s h
  by_cases hm : Lib.indexByte s 39 = -1
  · rw [Lib.count_miss (by rw [Lib.index_one]; exact hm), Lib.replaceK, quo_none (Lib.indexByte_none hm)]
  · have hg := Lib.indexByte_ge s 39
    obtain ⟨i, hi⟩ : ∃ i : Nat, Lib.indexByte s 39 = i := ⟨(Lib.indexByte s 39).toNat, by omega⟩
    have hidx : Lib.index s [39] = i := by rw [Lib.index_one]; exact hi
    obtain ⟨h1, h2⟩ := Lib.indexByte_some hi
    have hlt : i < s.length := by
     rcases Nat.lt_or_ge i s.length with h3 | h3
     · exact h3
     · rw [List.getElem?_eq_none h3] at h1; cases h1
    rw [Lib.count_hit (by simp) hidx, Nat.add_comm, Lib.replaceK_hit _ _ _ _ _ hidx]
    rw [show i + ([39] : List UInt8).length = i + 1 from rfl, ih (s.drop (i + 1)) (by rw [List.length_drop]; omega)]
    have e : s = s.take i ++ (39 :: s.drop (i + 1)) := by
     rw [← drop_at h1, List.take_append_drop]
    conv => rhs; rw [e]
    rw [quo_app, quo_none (l := s.take i) (fun k hk => by
     rw [List.getElem?_take] at hk
     split at hk
     · rename_i h9; exact h2 k h9 hk
     · cases hk)]
    rw [List.append_assoc]
    rfl
theorem replaceAll_quo (s : List UInt8) : Lib.replaceAll s [39] [39, 39] = quoU s := by
 unfold Lib.replaceAll Lib.replace
 rw [if_neg (by decide), show Lib.replaceNum s [39] (-1) = Lib.count s [39] from by unfold Lib.replaceNum; rw [if_pos (by left; decide)]]
 exact replace_quo _ s (Nat.le_refl _)
set_option maxHeartbeats 6400000 in
set_option maxRecDepth 100000 in
theorem ifmt_any (u : Nat) (hu64 : u ≤ 9223372036854775807) (w : World) (hT : Tab w) :
 Calls Tryz.prog 107 #[.int .i64 (u : Int), .int .i64 10] w fun e w' => e = .returned (.string ⟨(Lib.decDigits u).toArray⟩) ∧ Below w.heap.size w w' := by
 by_cases hs : u < 100
 · have hi : (u : Int) < 100 := by omega
   have HS := Lib.hid hs
   clear hs hu64
   go_enter Tryz.func107, Tryz.ntmps107
   go_wp2_with fail
   refine (Tryz.internal_strconv_small u HS.out _).mono ?_
   rintro e w' ⟨rfl, rfl⟩
   go_wp2
   go_ret
   exact ⟨rfl, Below.refl _ _⟩
 · have hu1 : 1 ≤ u := by omega
   have hi : 100 ≤ (u : Int) := by omega
   have hi9 : (u : Int) ≤ 9223372036854775807 := by omega
   have hnd20 : Lib.nDigits u ≤ 20 := by have := Lib.numDigits_eq u hu1 (by omega); split at this <;> omega
   have hal : Tryz.prog.arrayLen 168 = 24 := by kernel_rfl
   have hsl1 : ∀ W, (Instr.sliceAt 168 (.pointer (some ⟨w.heap.size, 0, none⟩)) (some (.int .i64 1)) (some (.int .i64 (1 + (Lib.nDigits u : Int)))) none).run Tryz.prog W = .ok (.slice (some ⟨w.heap.size, 1, none⟩) (Lib.nDigits u) 23) W := fun W => by
    rw [run_sliceAt_array_lh W 168 ⟨w.heap.size, 0, none⟩ (by kernel_rfl) .i64 .i64 1 (1 + (Lib.nDigits u : Int)) (by omega) (by omega) (by rw [hal]; omega)]
    go_simp
    omega
   have hH0 := Lib.holds_zero w 168 (Lib.nDigits u) (by omega)
   have hfmt := Tryz.internal_strconv_formatBase10 w.heap.size 1 23 u (Array.replicate (Lib.nDigits u) 0) (w.alloc (.cells Lib.zeros24 168)) hH0 (by rw [Array.size_replicate]; exact Lib.lt_pow_nDigits u) (by omega) (by rw [Array.size_replicate]; omega)
   rw [Array.size_replicate] at hfmt
   have HH0 := Lib.hid hH0
   have HFM := Lib.hid hfmt
   have HT := Lib.hid (Lib.tabIs_alloc hT.pw (.cells Lib.zeros24 168))
   have HU := Lib.hid (And.intro hu1 (show u < 18446744073709551616 by omega))
   clear hH0 hal hfmt hT hs hu64
   go_enter Tryz.func107, Tryz.ntmps107
   go_wp2_with fail
   refine (Tryz.internal_strconv_numDigits u HU.out.1 HU.out.2 _ HT.out).mono ?_
   rintro e w' ⟨rfl, rfl⟩
   go_wp2_with fail
   refine HFM.out.mono ?_
   rintro e w' ⟨rfl, k, v', dk, rfl, hF⟩
   have hcv : (convert 102 9 (.slice (some ⟨w.heap.size, 1, none⟩) (Lib.nDigits u) 23)).run Tryz.prog ((Sort.putRow (fun (b : UInt8) => Value.int .u8 (b.toNat : Int)) (w.alloc (.cells Lib.zeros24 168)) w.heap.size 1 dk).drewN k) = .ok (.string ⟨(Lib.decDigits u).toArray⟩) ((Sort.putRow (fun (b : UInt8) => Value.int .u8 (b.toNat : Int)) (w.alloc (.cells Lib.zeros24 168)) w.heap.size 1 dk).drewN k) := by
    have h := run_convert_bytes_back (P := Tryz.prog) ((Sort.putRow (fun (b : UInt8) => Value.int .u8 (b.toNat : Int)) (w.alloc (.cells Lib.zeros24 168)) w.heap.size 1 dk).drewN k) 102 9 5 ⟨w.heap.size, 1, none⟩ 23 (Lib.decDigits u) Tryz.underlying102 Tryz.underlying5 Tryz.underlying9 (fun j hj => by
     rw [Lib.row_is_numeral hF j hj, Lib.add_plain, World.cell?_drewN]
     exact Sort.cell?_putRow (fun (b : UInt8) => Value.int .u8 (b.toNat : Int)) _ w.heap.size 1 _ dk HH0.out (by rw [hF.size, Array.size_replicate]) j (by rw [hF.size]; rw [Lib.decDigits_length] at hj; exact hj))
    rw [Lib.decDigits_length] at h
    exact h
   obtain ⟨os, eo⟩ := Lib.fin_pos w (.cells Lib.zeros24 168) dk k
   have HB := Lib.hid (show Below w.heap.size w ((Sort.putRow (fun (b : UInt8) => Value.int .u8 (b.toNat : Int)) (w.alloc (.cells Lib.zeros24 168)) w.heap.size 1 dk).drewN k) from by rw [eo]; exact below_grown w k os)
   generalize (Sort.putRow (fun (b : UInt8) => Value.int .u8 (b.toNat : Int)) (w.alloc (.cells Lib.zeros24 168)) w.heap.size 1 dk).drewN k = w2 at *
   clear eo hF
   go_wp2
   go_ret
   exact ⟨rfl, HB.out⟩
set_option maxRecDepth 100000 in
theorem fmt_any (u : Nat) (hu64 : u ≤ 9223372036854775807) (w : World) (hT : Tab w) :
 Calls Tryz.prog 95 #[.int .i64 (u : Int), .int .i64 10] w fun e w' => e = .returned (.string ⟨(Lib.decDigits u).toArray⟩) ∧ Below w.heap.size w w' := by
 have H := Lib.hid (fun w hT => ifmt_any u hu64 w hT)
 clear hu64
 go_enter Tryz.func95, Tryz.ntmps95
 go_wp2_with fail
 refine (H.out w hT).mono ?_
 rintro e w2 ⟨rfl, q2⟩
 go_wp2
 go_ret
 exact ⟨rfl, q2⟩
theorem truth_null (w : World) : Calls Tryz.prog 97 #[.agg #[.int .i64 0, .int .i64 0, .int .u64 0, .string ⟨#[]⟩]] w fun e w' => e = .returned (.int .i64 1) ∧ Below w.heap.size w w' := by
 have HQ := Lib.hid (bl_al (Below.refl w.heap.size w) (.cells #[.int .i64 0, .int .i64 0, .int .u64 0, .string ⟨#[]⟩] 55))
 go_enter Tryz.func97, Tryz.ntmps97
 go_wp2
 go_ret
 exact ⟨rfl, HQ.out⟩
theorem truth_f (w : World) : Calls Tryz.prog 97 #[.agg #[.int .i64 1, .int .i64 0, .int .u64 0, .string ⟨#[]⟩]] w fun e w' => e = .returned (.int .i64 0) ∧ Below w.heap.size w w' := by
 have HQ := Lib.hid (bl_al (Below.refl w.heap.size w) (.cells #[.int .i64 1, .int .i64 0, .int .u64 0, .string ⟨#[]⟩] 55))
 go_enter Tryz.func97, Tryz.ntmps97
 go_wp2
 go_ret
 exact ⟨rfl, HQ.out⟩
theorem truth_t (w : World) : Calls Tryz.prog 97 #[.agg #[.int .i64 1, .int .i64 1, .int .u64 0, .string ⟨#[]⟩]] w fun e w' => e = .returned (.int .i64 2) ∧ Below w.heap.size w w' := by
 have HQ := Lib.hid (bl_al (Below.refl w.heap.size w) (.cells #[.int .i64 1, .int .i64 1, .int .u64 0, .string ⟨#[]⟩] 55))
 go_enter Tryz.func97, Tryz.ntmps97
 go_wp2
 go_ret
 exact ⟨rfl, HQ.out⟩
/-- what Print gives back of a value that may stand in a tree -/
def VPr (k n u : Int) (s : ByteArray) (w : World) : Prop := Calls Tryz.prog 66 #[.agg #[.int .i64 k, .int .i64 n, .int .u64 u, .string s]] w fun e w' => e = .returned (.tuple #[.string (bS (litU k n s.data.toList)), .int .i64 0]) ∧ Below w.heap.size w w'
set_option maxRecDepth 100000 in
theorem vprint_null (w : World) (hT : Tab w) : VPr 0 0 0 ⟨#[]⟩ w := by
 unfold VPr
 have HQ := Lib.hid (bl_al (Below.refl w.heap.size w) (.cells #[.int .i64 0, .int .i64 0, .int .u64 0, .string ⟨#[]⟩] 55))
 have HB := Lib.hid (Blk.new w 55 #[.int .i64 0, .int .i64 0, .int .u64 0, .string ⟨#[]⟩])
 have HT := Lib.hid (hT.below HQ.out)
 clear hT
 go_enter Tryz.func66, Tryz.ntmps66
 go_wp2_with fail
 generalize w.alloc (.cells #[.int .i64 0, .int .i64 0, .int .u64 0, .string ⟨#[]⟩] 55) = w1 at *
 refine (check_y 0 0 0 ⟨#[]⟩ (by unfold rightB; simp) _).mono ?_
 rintro e w2 ⟨rfl, q2⟩
 have HQ2 := Lib.hid (bl_ca HQ.out q2)
 have HB2 := Lib.hid (HB.out.ca q2)
 have HT2 := Lib.hid (HT.out.below q2)
 have x0 := HB2.out.cell 0
 have x1 := HB2.out.cell 1
 have x2 := HB2.out.cell 2
 have x3 := HB2.out.cell 3
 simp at x0 x1 x2 x3
 clear q2 HB
 go_wp2_with fail
 refine (truth_null _).mono ?_
 rintro e w3 ⟨rfl, q3⟩
 have HQ3 := Lib.hid (bl_ca HQ2.out q3)
 have hv := (HT2.out.below q3).vw 1 _ rfl
 clear q3 x0 x1 x2 x3
 go_wp2
 go_ret2
 exact ⟨rfl, HQ3.out⟩
set_option maxRecDepth 100000 in
theorem vprint_false (w : World) (hT : Tab w) : VPr 1 0 0 ⟨#[]⟩ w := by
 unfold VPr
 have HQ := Lib.hid (bl_al (Below.refl w.heap.size w) (.cells #[.int .i64 1, .int .i64 0, .int .u64 0, .string ⟨#[]⟩] 55))
 have HB := Lib.hid (Blk.new w 55 #[.int .i64 1, .int .i64 0, .int .u64 0, .string ⟨#[]⟩])
 have HT := Lib.hid (hT.below HQ.out)
 clear hT
 go_enter Tryz.func66, Tryz.ntmps66
 go_wp2_with fail
 generalize w.alloc (.cells #[.int .i64 1, .int .i64 0, .int .u64 0, .string ⟨#[]⟩] 55) = w1 at *
 refine (check_y 1 0 0 ⟨#[]⟩ (by unfold rightB; simp) _).mono ?_
 rintro e w2 ⟨rfl, q2⟩
 have HQ2 := Lib.hid (bl_ca HQ.out q2)
 have HB2 := Lib.hid (HB.out.ca q2)
 have HT2 := Lib.hid (HT.out.below q2)
 have x0 := HB2.out.cell 0
 have x1 := HB2.out.cell 1
 have x2 := HB2.out.cell 2
 have x3 := HB2.out.cell 3
 simp at x0 x1 x2 x3
 clear q2 HB
 go_wp2_with fail
 refine (truth_f _).mono ?_
 rintro e w3 ⟨rfl, q3⟩
 have HQ3 := Lib.hid (bl_ca HQ2.out q3)
 have hv := (HT2.out.below q3).vw 0 _ rfl
 clear q3 x0 x1 x2 x3
 go_wp2
 go_ret2
 exact ⟨rfl, HQ3.out⟩
set_option maxRecDepth 100000 in
theorem vprint_true (w : World) (hT : Tab w) : VPr 1 1 0 ⟨#[]⟩ w := by
 unfold VPr
 have HQ := Lib.hid (bl_al (Below.refl w.heap.size w) (.cells #[.int .i64 1, .int .i64 1, .int .u64 0, .string ⟨#[]⟩] 55))
 have HB := Lib.hid (Blk.new w 55 #[.int .i64 1, .int .i64 1, .int .u64 0, .string ⟨#[]⟩])
 have HT := Lib.hid (hT.below HQ.out)
 clear hT
 go_enter Tryz.func66, Tryz.ntmps66
 go_wp2_with fail
 generalize w.alloc (.cells #[.int .i64 1, .int .i64 1, .int .u64 0, .string ⟨#[]⟩] 55) = w1 at *
 refine (check_y 1 1 0 ⟨#[]⟩ (by unfold rightB; simp) _).mono ?_
 rintro e w2 ⟨rfl, q2⟩
 have HQ2 := Lib.hid (bl_ca HQ.out q2)
 have HB2 := Lib.hid (HB.out.ca q2)
 have HT2 := Lib.hid (HT.out.below q2)
 have x0 := HB2.out.cell 0
 have x1 := HB2.out.cell 1
 have x2 := HB2.out.cell 2
 have x3 := HB2.out.cell 3
 simp at x0 x1 x2 x3
 clear q2 HB
 go_wp2_with fail
 refine (truth_t _).mono ?_
 rintro e w3 ⟨rfl, q3⟩
 have HQ3 := Lib.hid (bl_ca HQ2.out q3)
 have hv := (HT2.out.below q3).vw 2 _ rfl
 clear q3 x0 x1 x2 x3
 go_wp2
 go_ret2
 exact ⟨rfl, HQ3.out⟩
set_option maxRecDepth 100000 in
theorem vprint_int (u : Nat) (hu : u ≤ 9223372036854775807) (w : World) (hT : Tab w) : VPr 2 (u : Int) 0 ⟨#[]⟩ w := by
 unfold VPr
 have HQ := Lib.hid (bl_al (Below.refl w.heap.size w) (.cells #[.int .i64 2, .int .i64 (u : Int), .int .u64 0, .string ⟨#[]⟩] 55))
 have HB := Lib.hid (Blk.new w 55 #[.int .i64 2, .int .i64 (u : Int), .int .u64 0, .string ⟨#[]⟩])
 have HT := Lib.hid (hT.below HQ.out)
 have HR := Lib.hid (show rightB 2 (u : Int) 0 ⟨#[]⟩ = true from by unfold rightB; simp)
 have HF := Lib.hid (fun w hT => fmt_any u hu w hT)
 have HL := Lib.hid (show (⟨(Lib.decDigits u).toArray⟩ : ByteArray) = bS (litU 2 (u : Int) (⟨#[]⟩ : ByteArray).data.toList) from by
  show _ = bS (Lib.decDigits (u : Int).toNat)
  rw [Int.toNat_natCast])
 generalize bS (litU 2 (u : Int) (⟨#[]⟩ : ByteArray).data.toList) = R at *
 clear hT hu
 go_enter Tryz.func66, Tryz.ntmps66
 go_wp2_with fail
 generalize w.alloc (.cells #[.int .i64 2, .int .i64 (u : Int), .int .u64 0, .string ⟨#[]⟩] 55) = w1 at *
 refine (check_y 2 (u : Int) 0 ⟨#[]⟩ HR.out _).mono ?_
 rintro e w2 ⟨rfl, q2⟩
 have HQ2 := Lib.hid (bl_ca HQ.out q2)
 have HB2 := Lib.hid (HB.out.ca q2)
 have HT2 := Lib.hid (HT.out.below q2)
 have x0 := HB2.out.cell 0
 have x1 := HB2.out.cell 1
 simp at x0 x1
 clear q2 HB
 go_wp2_with fail
 refine (HF.out _ HT2.out).mono ?_
 rintro e w3 ⟨rfl, q3⟩
 have HQ3 := Lib.hid (bl_ca HQ2.out q3)
 rw [HL.out]
 clear q3 x0 x1
 go_wp2
 go_ret2
 exact ⟨rfl, HQ3.out⟩
set_option maxRecDepth 100000 in
theorem vprint_text (T : ByteArray) (hs : T.size ≤ 40) (w : World) (hT : Tab w) : VPr 3 0 0 T w := by
 unfold VPr
 have HQ := Lib.hid (bl_al (Below.refl w.heap.size w) (.cells #[.int .i64 3, .int .i64 0, .int .u64 0, .string T] 55))
 have HB := Lib.hid (Blk.new w 55 #[.int .i64 3, .int .i64 0, .int .u64 0, .string T])
 have HT := Lib.hid (hT.below HQ.out)
 have HR := Lib.hid (show rightB 3 0 0 T = true from by unfold rightB; simp; exact hs)
 have HQL := Lib.hid (quo_len T.data.toList)
 have hcount := Lib.count_le T.data.toList [39]
 rw [len_data] at hcount
 have hcB : Lib.countB T ⟨#[39]⟩ = Lib.count T.data.toList [39] := rfl
 have hlen : T.size + Lib.countB T ⟨#[39]⟩ * (⟨#[39, 39]⟩ : ByteArray).size ≤ 140737488355328 := by
  rw [hcB]
  have h9 : (⟨#[39, 39]⟩ : ByteArray).size = 2 := rfl
  rw [h9]
  omega
 have hsz : T.size < 4294967281 := by omega
 have HRP := Lib.hid (fun w' (m : Int) hm => Tryz.strings_ReplaceAll T ⟨#[39]⟩ ⟨#[39, 39]⟩ m w' hsz hm (by decide) hlen)
 have HLU := Lib.hid (show litU 3 0 T.data.toList = 39 :: (quoU T.data.toList ++ [39]) from rfl)
 have HTL := Lib.hid (len_data T)
 have HS := Lib.hid hs
 generalize litU 3 0 T.data.toList = r at *
 clear hT hs hcount hcB hlen hsz
 go_enter Tryz.func66, Tryz.ntmps66
 go_wp2_with fail
 generalize w.alloc (.cells #[.int .i64 3, .int .i64 0, .int .u64 0, .string T] 55) = w1 at *
 refine (check_y 3 0 0 T HR.out _).mono ?_
 rintro e w2 ⟨rfl, q2⟩
 have HQ2 := Lib.hid (bl_ca HQ.out q2)
 have HB2 := Lib.hid (HB.out.ca q2)
 have HT2 := Lib.hid (HT.out.below q2)
 have x0 := HB2.out.cell 0
 have x1 := HB2.out.cell 1
 have x3 := HB2.out.cell 3
 simp at x0 x1 x3
 clear q2 HB
 obtain ⟨m, hm⟩ := HT2.out.ml
 go_wp2_with fail
 refine (HRP.out _ m hm).mono ?_
 rintro e w3 ⟨rfl, q3⟩
 rw [show (⟨(Lib.replaceAll T.data.toList (⟨#[39]⟩ : ByteArray).data.toList (⟨#[39, 39]⟩ : ByteArray).data.toList).toArray⟩ : ByteArray) = bS (quoU T.data.toList) from congrArg bS (replaceAll_quo _)]
 have HQ3 := Lib.hid (bl_ca HQ2.out q3)
 have hz : (bS (quoU T.data.toList)).size ≤ 2000 := by rw [← len_data]; have := HQL.out; have := HTL.out; have := HS.out; show (quoU T.data.toList).length ≤ _; omega
 have HFIN := Lib.hid (show (⟨#[39]⟩ ++ bS (quoU T.data.toList)) ++ ⟨#[39]⟩ = bS r from bS_of (by rw [ByteArray.data_append, Array.toList_append, ByteArray.data_append, Array.toList_append, HLU.out]; rfl))
 have hz2 : (⟨#[39]⟩ ++ bS (quoU T.data.toList) : ByteArray).size ≤ 2001 := by rw [ByteArray.size_append]; have h1 : (⟨#[39]⟩ : ByteArray).size = 1 := rfl; omega
 obtain ⟨Z, hZ⟩ : ∃ Z, Z = bS (quoU T.data.toList) := ⟨_, rfl⟩
 rw [← hZ] at hz HFIN hz2 ⊢
 clear hZ q3 x0 x1 x3 hm
 go_wp2
 go_ret2
 exact ⟨by rw [← HFIN.out]; rfl, HQ3.out⟩
/-- a literal that may stand in a tree is written -/
theorem vprint_any (p : Py) (h : cntB p = true) (h1 : p.tag = 1) (hn : p.n ≤ 9223372036854775807) (w : World) (hT : Tab w) : VPr p.k p.n p.u p.s w := by
 have h0 : partsI p.tag = 0 := by rw [h1]; rfl
 rcases leaf_cases h h0 with rfl | rfl | rfl | ⟨n, rfl⟩ | ⟨s, rfl⟩ | ⟨tb, nm, rfl, _⟩ | rfl
 · exact vprint_null w hT
 · exact vprint_false w hT
 · exact vprint_true w hT
 · exact vprint_int n (by have h2 : (n : Int) ≤ 9223372036854775807 := hn; omega) w hT
 · refine vprint_text s ?_ w hT
   unfold cntB at h
   rw [if_pos rfl] at h
   simp only [Bool.and_eq_true] at h
   have h3 := h.2.2.1
   unfold plainV at h3
   simp only at h3
   rw [if_neg (by decide), if_neg (by decide), if_neg (by decide)] at h3
   exact (of_decide_eq_true h3).2.2.2
 · cases h1
 · cases h1
set_option maxRecDepth 100000 in
theorem name_any (tb nm : ByteArray) (h1 : tb.size ≤ 100000) (h2 : nm.size ≤ 100000) (w : World) : Calls Tryz.prog 67 #[.string tb, .string nm] w fun e w' => e = .returned (.string (bS (namU tb.data.toList nm.data.toList))) ∧ w = w' := by
 have HF := Lib.hid (show namU tb.data.toList nm.data.toList = if tb.data.toList = [] then nm.data.toList else tb.data.toList ++ (46 :: nm.data.toList) from rfl)
 generalize namU tb.data.toList nm.data.toList = r at *
 by_cases h0 : tb.data.toList = []
 · have HR := Lib.hid (show nm = bS r from bS_of (by rw [HF.out, if_pos h0]))
   have ht := ba_e h0
   subst ht
   clear h0 HF h1
   go_enter Tryz.func67, Tryz.ntmps67
   go_wp2
   go_ret
   exact ⟨by rw [← HR.out]; rfl, rfl⟩
 · have HR := Lib.hid (show (tb ++ ⟨#[46]⟩) ++ nm = bS r from bS_of (by rw [HF.out, if_neg h0, ByteArray.data_append, Array.toList_append, ByteArray.data_append, Array.toList_append, List.append_assoc]; rfl))
   have e0 := ne_list h0
   have e1 : ¬ tb.toList = [] := by rw [toList_data]; exact h0
   have e2 : tb.toList.isEmpty = false := by rw [toList_data]; cases hh : tb.data.toList with | nil => exact absurd hh h0 | cons => rfl
   have e3 : (tb.toList == []) = false := by rw [toList_data]; simpa using h0
   have hz : (tb ++ ⟨#[46]⟩ : ByteArray).size ≤ 100001 := by rw [ByteArray.size_append]; have h9 : (⟨#[46]⟩ : ByteArray).size = 1 := rfl; omega
   clear h0 HF
   go_enter Tryz.func67, Tryz.ntmps67
   go_wp2
   go_ret
   exact ⟨by rw [← HR.out]; rfl, rfl⟩
end Go.Proofs.YtoaggmldekejoaaGreatDoor
/- tree: how a tree is written. Conditions: the nodes read so; what the tables hold. -/
namespace Go.Proofs.YtoaggmldekejoaaGreatDoor
open Go.RowKit
/-- what the two closures find -/
structure Cx (F : Nat → Prop) (xs : List Nd) (A : Option Addr) (n c bt bn bp : Nat) (w : World) : Prop where
 tr : w.cell? ⟨bt, 0, none⟩ = some (.slice A n c)
 nd : w.cell? ⟨bn, 0, none⟩ = some (.func (.func 65) #[] #[.pointer (some ⟨bt, 0, none⟩), .pointer (some ⟨bp, 0, none⟩), .pointer (some ⟨bn, 0, none⟩)])
 pt : w.cell? ⟨bp, 0, none⟩ = some (.func (.func 64) #[] #[.pointer (some ⟨bn, 0, none⟩), .pointer (some ⟨bt, 0, none⟩)])
 rd : LN.rd w F A n xs
 tab : Tab w
theorem Cx.below {F : Nat → Prop} {xs : List Nd} {A : Option Addr} {n c bt bn bp : Nat} {w w' : World} (h : Cx F xs A n c bt bn bp w) (b : Below w.heap.size w w') : Cx F xs A n c bt bn bp w' :=
 ⟨ce h.tr b, ce h.nd b, ce h.pt b, Lay.rd_below h.rd b, h.tab.below b⟩
def NodeW (F : Nat → Prop) (xs : List Nd) (A : Option Addr) (n c bt bn bp : Nat) (u : Tr) (o : Nat) : Prop :=
 ∀ w, Cx F xs A n c bt bn bp w → Calls Tryz.prog 65 #[.int .i64 ((o + u.size - 1 : Nat) : Int), .pointer (some ⟨bt, 0, none⟩), .pointer (some ⟨bp, 0, none⟩), .pointer (some ⟨bn, 0, none⟩)] w fun e w' => e = .returned (.string (bS (prT u))) ∧ Below w.heap.size w w'
def PartW (F : Nat → Prop) (xs : List Nd) (A : Option Addr) (n c bt bn bp : Nat) (u : Tr) (o : Nat) : Prop :=
 ∀ w, Cx F xs A n c bt bn bp w → Calls Tryz.prog 64 #[.int .i64 ((o + u.size - 1 : Nat) : Int), .pointer (some ⟨bn, 0, none⟩), .pointer (some ⟨bt, 0, none⟩)] w fun e w' => e = .returned (.string (bS (parT u))) ∧ Below w.heap.size w w'
/-- a tree's nodes lie in a row from a place on -/
def LiesAt (xs : List Nd) (u : Tr) (o : Nat) : Prop := ∀ i, i < u.size → xs[o + i]? = (u.flat o)[i]?
theorem lies_root {xs : List Nd} {u : Tr} {o : Nat} (h : LiesAt xs u o) : xs[o + u.size - 1]? = some (u.node o) := by
 have hp := u.size_pos
 have h1 := h (u.size - 1) (by omega)
 rw [show o + (u.size - 1) = o + u.size - 1 from by omega] at h1
 rw [h1, u.node_at o (u.size - 1) (by omega), u.sub_last]
 congr 2
 omega
theorem lies_one {xs : List Nd} {p : Py} {a : Tr} {o : Nat} (h : LiesAt xs (.one p a) o) : LiesAt xs a o := by
 intro i hi
 rw [h i (by show i < a.size + 1; omega)]
 show (a.flat o ++ _)[i]? = _
 rw [List.getElem?_append_left (by rw [a.flat_len]; exact hi)]
theorem lies_two {xs : List Nd} {p : Py} {a b : Tr} {o : Nat} (h : LiesAt xs (.two p a b) o) : LiesAt xs a o ∧ LiesAt xs b (o + a.size) := by
 constructor
 · intro i hi
   rw [h i (by show i < a.size + b.size + 1; omega)]
   show (a.flat o ++ _)[i]? = _
   rw [List.getElem?_append_left (by rw [a.flat_len]; exact hi)]
 · intro i hi
   rw [Nat.add_assoc, h (a.size + i) (by show a.size + i < a.size + b.size + 1; omega)]
   show (a.flat o ++ (b.flat (o + a.size) ++ _))[a.size + i]? = _
   rw [List.getElem?_append_right (by rw [a.flat_len]; omega), a.flat_len, Nat.add_sub_cancel_left, List.getElem?_append_left (by rw [b.flat_len]; exact hi)]
/-! ### how long a tree is written -/
def RgP (p : Py) : Prop := p.n ≤ 9223372036854775807
def rgT : Tr → Prop
 | .leaf p => RgP p
 | .one _ a => rgT a
 | .two _ a b => rgT a ∧ rgT b
theorem sg_len (t : Int) : (sgL t).length ≤ 11 := by
 unfold sgL
 rw [List.getD_eq_getElem?_getD]
 have hall : sgs.all (fun l => decide (l.length ≤ 11)) = true := by decide
 cases h : sgs[t.toNat - 1]? with
 | none => show (0 : Nat) ≤ 11; omega
 | some l => exact of_decide_eq_true (List.all_eq_true.1 hall l (List.mem_of_getElem? h))
theorem name_len {s : ByteArray} (h : nameB s = true) : s.size ≤ 16 := by
 unfold nameB at h
 simp only [Bool.and_eq_true, decide_eq_true_eq] at h
 exact h.2.1
theorem leaf_len {p : Py} (h : cntB p = true) (h0 : partsI p.tag = 0) (hr : RgP p) : (leafU p).length ≤ 100 := by
 rcases leaf_cases h h0 with rfl | rfl | rfl | ⟨n, rfl⟩ | ⟨s, rfl⟩ | ⟨tb, nm, rfl, hn, ht⟩ | rfl
 · decide
 · decide
 · decide
 · show (Lib.decDigits (n : Int).toNat).length ≤ 100
   rw [Int.toNat_natCast, Lib.decDigits_length]
   have hn : n ≤ 9223372036854775807 := by have h2 : (n : Int) ≤ 9223372036854775807 := hr; omega
   rcases Nat.eq_zero_or_pos n with h0 | h0
   · subst h0; rw [Lib.nDigits]; simp
   · have := Lib.numDigits_eq n h0 (by omega); split at this <;> omega
 · show (39 :: (quoU s.data.toList ++ [39])).length ≤ 100
   have hs : s.size ≤ 40 := by
    unfold cntB at h
    rw [if_pos rfl] at h
    simp only [Bool.and_eq_true] at h
    have h3 := h.2.2.1
    unfold plainV at h3
    simp only at h3
    rw [if_neg (by decide), if_neg (by decide), if_neg (by decide)] at h3
    exact (of_decide_eq_true h3).2.2.2
   have := quo_len s.data.toList
   rw [len_data] at this
   rw [List.length_cons, List.length_append]
   simp only [List.length_cons, List.length_nil]
   omega
 · show (namU tb.data.toList nm.data.toList).length ≤ 100
   have h1 := name_len hn
   unfold namU
   split
   · rw [len_data]; omega
   · rw [List.length_append, List.length_cons, len_data, len_data]
     rcases ht with rfl | ht
     · rename_i h9; exact absurd rfl h9
     · have := name_len ht; omega
 · decide
theorem pr_len : ∀ u : Tr, u.ok cntB = true → rgT u → (prT u).length + 2 ≤ 120 * u.size
 | .leaf p, h, hr => by
  have := ok_leaf h
  have := leaf_len this.2 this.1 hr
  rw [pr_leaf]
  show _ ≤ 120 * 1
  omega
 | .one p a, h, hr => by
  have ho := ok_one h
  have ih := pr_len a ho.2.2 hr
  have hsg := sg_len p.tag
  have hpar : (parT a).length ≤ (prT a).length + 2 := by
   unfold parT; split
   · omega
   · rw [List.length_cons, List.length_append]; simp only [List.length_cons, List.length_nil]; omega
  have hs : (Tr.one p a).size = a.size + 1 := rfl
  rcases Nat.lt_or_ge 7 p.tag.toNat with h8 | h8
  · rw [pr_agg (by omega), List.length_append, List.length_cons, List.length_append]; simp only [List.length_cons, List.length_nil]; omega
  · rcases Nat.lt_or_ge 5 p.tag.toNat with h6 | h6
    · rw [pr_post (by omega) (by omega), List.length_append, List.length_cons]; omega
    · rw [pr_pre (by omega), List.length_append, List.length_cons]; omega
 | .two p a b, h, hr => by
  have ho := ok_two h
  have ih := pr_len a ho.2.2.1 hr.1
  have ih2 := pr_len b ho.2.2.2 hr.2
  have hsg := sg_len p.tag
  have hpar : ∀ x : Tr, (parT x).length ≤ (prT x).length + 2 := fun x => by
   unfold parT; split
   · omega
   · rw [List.length_cons, List.length_append]; simp only [List.length_cons, List.length_nil]; omega
  have h1 := hpar a
  have h2 := hpar b
  have hs : (Tr.two p a b).size = a.size + b.size + 1 := rfl
  rw [pr_two, List.length_append, List.length_cons, List.length_append, List.length_cons]; omega
theorem bs_size (l : List UInt8) : (bS l).size = l.length := by rw [← len_data]
theorem node_pay {u : Tr} (o : Nat) : (u.node o).p = u.pay := by cases u <;> rfl
theorem bare_tag {u : Tr} (hok : u.ok cntB = true) : (partsI u.pay.tag = 0 → bareT u = true) ∧ (0 < partsI u.pay.tag → u.pay.tag < 8 → bareT u = false) ∧ (8 ≤ u.pay.tag → u.pay.tag ≤ 11 → bareT u = true) ∧ (11 < u.pay.tag → bareT u = false) ∧ 0 ≤ partsI u.pay.tag := by
 cases u with
 | leaf p =>
  have h1 : partsI p.tag = 0 := (ok_leaf hok).1
  have h3 : p.tag ≤ 3 := by unfold partsI at h1; split at h1; omega; split at h1; omega; split at h1; omega; split at h1 <;> omega
  show (partsI p.tag = 0 → true = true) ∧ (0 < partsI p.tag → p.tag < 8 → true = false) ∧ (8 ≤ p.tag → p.tag ≤ 11 → true = true) ∧ (11 < p.tag → true = false) ∧ 0 ≤ partsI p.tag
  exact ⟨fun _ => rfl, fun h => by omega, fun _ _ => rfl, fun h => by omega, by omega⟩
 | one p a =>
  have h1 : partsI p.tag = 1 := (ok_one hok).1
  have h3 := tag_one h1
  show (partsI p.tag = 0 → decide (8 ≤ p.tag) = true) ∧ (0 < partsI p.tag → p.tag < 8 → decide (8 ≤ p.tag) = false) ∧ (8 ≤ p.tag → p.tag ≤ 11 → decide (8 ≤ p.tag) = true) ∧ (11 < p.tag → decide (8 ≤ p.tag) = false) ∧ 0 ≤ partsI p.tag
  exact ⟨fun h => by omega, fun _ h => decide_eq_false (by omega), fun h _ => decide_eq_true h, fun h => by omega, by omega⟩
 | two p a b =>
  have h1 : partsI p.tag = 2 := (ok_two hok).1
  have h3 := tag_two h1
  show (partsI p.tag = 0 → false = true) ∧ (0 < partsI p.tag → p.tag < 8 → false = false) ∧ (8 ≤ p.tag → p.tag ≤ 11 → false = true) ∧ (11 < p.tag → false = false) ∧ 0 ≤ partsI p.tag
  exact ⟨fun h => by omega, fun _ _ => rfl, fun h h2 => by omega, fun _ => rfl, by omega⟩
/-! ### the closures -/
set_option maxRecDepth 100000 in
theorem part_of {F : Nat → Prop} {xs : List Nd} {A : Option Addr} {n c bt bn bp : Nat} {u : Tr} {o : Nat} (h : NodeW F xs A n c bt bn bp u o) (hl : LiesAt xs u o) (hok : u.ok cntB = true) (hz : (prT u).length ≤ 100000) : PartW F xs A n c bt bn bp u o := by
 intro w hc
 have hp := u.size_pos
 have hr := lies_root hl
 obtain ⟨i, hi⟩ : ∃ i, i = o + u.size - 1 := ⟨_, rfl⟩
 unfold NodeW at h
 rw [← hi] at h hr ⊢
 have hin : i < n := by
  have := (List.getElem?_eq_some_iff.1 hr).1
  rw [Lay.rd_len hc.rd] at this
  exact this
 have HC := Lib.hid hc
 have HN := Lib.hid (h w hc)
 have c1 := hc.nd
 have HPT := Lib.hid (show parT u = if bareT u then prT u else 40 :: (prT u ++ [41]) from rfl)
 obtain ⟨tg, htg⟩ : ∃ tg, tg = (u.node o).p.tag := ⟨_, rfl⟩
 have HTG := Lib.hid htg
 have hbare := bare_tag hok
 rw [← node_pay o, ← htg] at hbare
 have HBA := Lib.hid hbare
 have hzz : (bS (prT u)).size ≤ 100000 := by rw [bs_size]; exact hz
 have HAP := Lib.hid (show (⟨#[40]⟩ ++ bS (prT u)) ++ ⟨#[41]⟩ = bS (40 :: (prT u ++ [41])) from bS_of (by rw [ByteArray.data_append, Array.toList_append, ByteArray.data_append, Array.toList_append]; rfl))
 have hz2 : (⟨#[40]⟩ ++ bS (prT u) : ByteArray).size ≤ 100001 := by rw [ByteArray.size_append]; have h1 : (⟨#[40]⟩ : ByteArray).size = 1 := rfl; omega
 have HRT := Lib.hid hr
 clear hc h hr hp hi hok hz htg hbare hl
 obtain ⟨Z, hZ⟩ : ∃ Z, Z = bS (prT u) := ⟨_, rfl⟩
 rw [← hZ] at hzz HAP hz2 HN
 have HZZ := Lib.hid hZ
 clear hZ
 go_enter Tryz.func64, Tryz.ntmps64
 go_wp2_with fail
 refine HN.out.mono ?_
 rintro e w2 ⟨rfl, q2⟩
 have HC2 := Lib.hid (HC.out.below q2)
 have HQ2 := Lib.hid q2
 have c3 := HC2.out.tr
 obtain ⟨p3, x, hAe, hx, s3⟩ := LN_at HC2.out.rd hin
 obtain rfl : A = some p3 := hAe
 have hxe := at_eq HRT.out hx
 subst hxe
 have s0 := s3.c0
 rw [← HTG.out] at s0
 have hin2 : (i : Int) < (n : Int) := by omega
 have HP := Lib.hid (fun W => parts_any tg W)
 obtain ⟨kk, hkk⟩ : ∃ kk, kk = partsI tg := ⟨_, rfl⟩
 rw [← hkk] at HP HBA
 clear hkk
 clear q2 c1 s3 hx HN
 go_wp2_with fail
 refine (HP.out _).mono ?_
 rintro e w9 ⟨rfl, rfl⟩
 have HB1 := Lib.hid (fun (h : bareT u = true) => show Ending.returned (.string Z) = Ending.returned (.string (bS (parT u))) from by rw [HPT.out, if_pos h, HZZ.out])
 have HB0 := Lib.hid (fun (h : bareT u = false) => show Ending.returned (.string ((⟨#[40]⟩ ++ Z) ++ ⟨#[41]⟩)) = Ending.returned (.string (bS (parT u))) from by rw [HPT.out, if_neg (by rw [h]; decide), HAP.out])
 clear HP c3 s0
 by_cases k0 : 0 < kk
 · by_cases t8 : tg < 8
   · have HF := Lib.hid (HB0.out (HBA.out.2.1 k0 t8))
     go_wp2
     go_ret
     exact ⟨HF.out, HQ2.out⟩
   · have t8' : 8 ≤ tg := by omega
     by_cases t11 : 11 < tg
     · have HF := Lib.hid (HB0.out (HBA.out.2.2.2.1 t11))
       clear t8
       go_wp2
       go_ret
       exact ⟨HF.out, HQ2.out⟩
     · have t11' : tg ≤ 11 := by omega
       have HF := Lib.hid (HB1.out (HBA.out.2.2.1 t8' t11'))
       clear t8 t11
       go_wp2
       go_ret
       exact ⟨HF.out, HQ2.out⟩
 · have k0' : kk ≤ 0 := by omega
   have HF := Lib.hid (HB1.out (HBA.out.1 (by have := HBA.out.2.2.2.2; omega)))
   clear k0
   go_wp2
   go_ret
   exact ⟨HF.out, HQ2.out⟩
set_option maxRecDepth 100000 in
theorem node_leaf {F : Nat → Prop} {xs : List Nd} {A : Option Addr} {n c bt bn bp : Nat} {p : Py} {o : Nat} (hl : LiesAt xs (.leaf p) o) (hok : (Tr.leaf p).ok cntB = true) (hr : RgP p) : NodeW F xs A n c bt bn bp (.leaf p) o := by
 intro w hc
 have hrt := lies_root hl
 obtain ⟨h0, hcb⟩ := ok_leaf hok
 have hs : o + (Tr.leaf p).size - 1 = o := by show o + 1 - 1 = o; omega
 rw [hs] at hrt ⊢
 have hin : o < n := by
  have := (List.getElem?_eq_some_iff.1 hrt).1
  rw [Lay.rd_len hc.rd] at this
  exact this
 obtain ⟨p3, x, hAe, hx, s3⟩ := LN_at hc.rd hin
 obtain rfl : A = some p3 := hAe
 have hxe := at_eq hrt hx
 subst hxe
 have e0 : w.cell? (p3.add (o * 9)) = some (.int .i64 p.tag) := s3.c0
 have e1 : w.cell? ⟨(p3.add (o * 9)).block, (p3.add (o * 9)).off + 1, none⟩ = some (.int .i64 (-1)) := s3.c1
 have e2 : w.cell? ⟨(p3.add (o * 9)).block, (p3.add (o * 9)).off + 2, none⟩ = some (.int .i64 (-1)) := s3.c2
 have e3 : w.cell? ⟨(p3.add (o * 9)).block, (p3.add (o * 9)).off + 3, none⟩ = some (.int .i64 p.k) := s3.c3
 have e4 : w.cell? ⟨(p3.add (o * 9)).block, (p3.add (o * 9)).off + 4, none⟩ = some (.int .i64 p.n) := s3.c4
 have e5 : w.cell? ⟨(p3.add (o * 9)).block, (p3.add (o * 9)).off + 5, none⟩ = some (.int .u64 p.u) := s3.c5
 have e6 : w.cell? ⟨(p3.add (o * 9)).block, (p3.add (o * 9)).off + 6, none⟩ = some (.string p.s) := s3.c6
 have e7 : w.cell? ⟨(p3.add (o * 9)).block, (p3.add (o * 9)).off + 7, none⟩ = some (.string p.tb) := s3.c7
 have e8 : w.cell? ⟨(p3.add (o * 9)).block, (p3.add (o * 9)).off + 8, none⟩ = some (.string p.nm) := s3.c8
 have c1 := hc.tr
 have hin2 : (o : Int) < (n : Int) := by omega
 have HT := Lib.hid hc.tab
 have HPR := Lib.hid (pr_leaf p)
 have HLU := Lib.hid (show leafU p = if p.tag = 1 then litU p.k p.n p.s.data.toList else if p.tag = 2 then namU p.tb.data.toList p.nm.data.toList else sgL p.tag from rfl)
 rw [HPR.out]
 have HVP := Lib.hid (fun (h1 : p.tag = 1) W hT => vprint_any p hcb h1 hr W hT)
 unfold VPr at HVP
 have hnm : p.tag = 2 → p.tb.size ≤ 100000 ∧ p.nm.size ≤ 100000 := fun h2 => by
  unfold cntB at hcb
  rw [if_neg (by omega), if_pos h2] at hcb
  simp only [Bool.and_eq_true, Bool.or_eq_true, decide_eq_true_eq] at hcb
  obtain ⟨_, h5, h6⟩ := hcb
  have := name_len h5
  refine ⟨?_, by omega⟩
  rcases h6 with h6 | h6
  · rw [← len_data, h6]; decide
  · have := name_len h6; omega
 have HNM := Lib.hid hnm
 have HQ := Lib.hid (bl_al (Below.refl w.heap.size w) (.cells #[.int .i64 p.tag, .int .i64 (-1), .int .i64 (-1), .int .i64 p.k, .int .i64 p.n, .int .u64 p.u, .string p.s, .string p.tb, .string p.nm] 57))
 have HB := Lib.hid (Blk.new w 57 #[.int .i64 p.tag, .int .i64 (-1), .int .i64 (-1), .int .i64 p.k, .int .i64 p.n, .int .u64 p.u, .string p.s, .string p.tb, .string p.nm])
 generalize leafU p = R at *
 obtain ⟨tg, k, nn, u, s, tb, nm⟩ := p
 simp only at *
 have htg : tg = 1 ∨ tg = 2 ∨ tg = 3 := by
  unfold partsI at h0; split at h0; omega; split at h0; omega; split at h0; omega; split at h0 <;> omega
 clear hc hrt hx hs s3 h0 hcb hok hl hr hnm HPR
 go_enter Tryz.func65, Tryz.ntmps65
 go_upto_region 2 with fail
 generalize w.alloc (.cells #[.int .i64 tg, .int .i64 (-1), .int .i64 (-1), .int .i64 k, .int .i64 nn, .int .u64 u, .string s, .string tb, .string nm] 57) = w1 at *
 clear e0 e1 e2 e3 e4 e5 e6 e7 e8 c1
 have HT1 := Lib.hid (HT.out.below HQ.out)
 have e0 := HB.out.cell 0
 have e3 := HB.out.cell 3
 have e4 := HB.out.cell 4
 have e5 := HB.out.cell 5
 have e6 := HB.out.cell 6
 have e7 := HB.out.cell 7
 have e8 := HB.out.cell 8
 simp at e0 e3 e4 e5 e6 e7 e8
 rcases htg with rfl | rfl | rfl
 · have hsg := HT1.out.sg 1 _ rfl
   have HR := Lib.hid (show bS R = bS (litU k nn s.data.toList) from by rw [HLU.out]; rfl)
   go_wp2_with fail
   refine (HVP.out trivial _ HT1.out).mono ?_
   rintro e w2 ⟨rfl, q2⟩
   have HQ2 := Lib.hid (bl_ca HQ.out q2)
   clear q2 e0 e3 e4 e5 e6 e7 e8 hsg
   go_wp2
   go_ret
   exact ⟨by rw [HR.out]; rfl, HQ2.out⟩
 · have hsg := HT1.out.sg 2 _ rfl
   have HR := Lib.hid (show bS R = bS (namU tb.data.toList nm.data.toList) from by rw [HLU.out]; rfl)
   have hnm := HNM.out rfl
   go_wp2_with fail
   refine (name_any tb nm hnm.1 hnm.2 _).mono ?_
   rintro e w2 ⟨rfl, rfl⟩
   clear e0 e3 e4 e5 e6 e7 e8 hsg
   go_wp2
   go_ret
   exact ⟨by rw [HR.out]; rfl, HQ.out⟩
 · have hsg := HT1.out.sg 3 _ rfl
   have HR := Lib.hid (show bS R = bS [67, 79, 85, 78, 84, 40, 42, 41] from by rw [HLU.out]; rfl)
   go_wp2
   go_ret
   exact ⟨by rw [HR.out]; rfl, HQ.out⟩
theorem one_zero {p : Py} (h : cntB p = true) (h1 : partsI p.tag = 1 ∨ partsI p.tag = 2) : ∃ t : Int, p = zP t ∧ t = p.tag := ⟨p.tag, inner_zero h h1, rfl⟩
set_option maxRecDepth 100000 in
set_option maxHeartbeats 8000000 in
theorem node_one {F : Nat → Prop} {xs : List Nd} {A : Option Addr} {n c bt bn bp : Nat} {p : Py} {a : Tr} {o : Nat} (hN : NodeW F xs A n c bt bn bp a o) (hP : PartW F xs A n c bt bn bp a o) (hl : LiesAt xs (.one p a) o) (hok : (Tr.one p a).ok cntB = true) (hz : (prT a).length ≤ 99000) : NodeW F xs A n c bt bn bp (.one p a) o := by
 obtain ⟨hpt, hcb, _⟩ := ok_one hok
 obtain ⟨tg, htp, _⟩ := one_zero hcb (.inl hpt)
 subst htp
 intro w hc
 have hrt := lies_root hl
 have hap := a.size_pos
 have htg := tag_one hpt
 change 4 ≤ tg ∧ tg ≤ 11 at htg
 unfold NodeW at hN
 unfold PartW at hP
 obtain ⟨i, hi⟩ : ∃ i, i = o + (Tr.one (zP tg) a).size - 1 := ⟨_, rfl⟩
 obtain ⟨i1, hi1⟩ : ∃ i1, i1 = o + a.size - 1 := ⟨_, rfl⟩
 rw [← hi] at hrt ⊢
 rw [← hi1] at hN hP
 have hin : i < n := by
  have := (List.getElem?_eq_some_iff.1 hrt).1
  rw [Lay.rd_len hc.rd] at this
  exact this
 obtain ⟨p3, x, hAe, hx, s3⟩ := LN_at hc.rd hin
 obtain rfl : A = some p3 := hAe
 have hxe := at_eq hrt hx
 subst hxe
 have hL : ((Tr.one (zP tg) a).node o).l = (i1 : Int) := by show ((o + a.size : Nat) : Int) - 1 = _; omega
 have e0 : w.cell? (p3.add (i * 9)) = some (.int .i64 tg) := s3.c0
 have e1 : w.cell? ⟨(p3.add (i * 9)).block, (p3.add (i * 9)).off + 1, none⟩ = some (.int .i64 (i1 : Int)) := by rw [← hL]; exact s3.c1
 have e2 : w.cell? ⟨(p3.add (i * 9)).block, (p3.add (i * 9)).off + 2, none⟩ = some (.int .i64 (-1)) := s3.c2
 have e3 : w.cell? ⟨(p3.add (i * 9)).block, (p3.add (i * 9)).off + 3, none⟩ = some (.int .i64 0) := s3.c3
 have e4 : w.cell? ⟨(p3.add (i * 9)).block, (p3.add (i * 9)).off + 4, none⟩ = some (.int .i64 0) := s3.c4
 have e5 : w.cell? ⟨(p3.add (i * 9)).block, (p3.add (i * 9)).off + 5, none⟩ = some (.int .u64 0) := s3.c5
 have e6 : w.cell? ⟨(p3.add (i * 9)).block, (p3.add (i * 9)).off + 6, none⟩ = some (.string eB) := s3.c6
 have e7 : w.cell? ⟨(p3.add (i * 9)).block, (p3.add (i * 9)).off + 7, none⟩ = some (.string eB) := s3.c7
 have e8 : w.cell? ⟨(p3.add (i * 9)).block, (p3.add (i * 9)).off + 8, none⟩ = some (.string eB) := s3.c8
 have c1 := hc.tr
 have hin2 : (i : Int) < (n : Int) := by omega
 have HC := Lib.hid hc
 have HQ := Lib.hid (bl_al (Below.refl w.heap.size w) (.cells #[.int .i64 tg, .int .i64 (i1 : Int), .int .i64 (-1), .int .i64 0, .int .i64 0, .int .u64 0, .string eB, .string eB, .string eB] 57))
 have HB := Lib.hid (Blk.new w 57 #[.int .i64 tg, .int .i64 (i1 : Int), .int .i64 (-1), .int .i64 0, .int .i64 0, .int .u64 0, .string eB, .string eB, .string eB])
 have HN := Lib.hid hN
 have HP := Lib.hid hP
 have HZ := Lib.hid hz
 have HPA := Lib.hid (show (parT a).length ≤ (prT a).length + 2 from by
  unfold parT; split
  · omega
  · rw [List.length_cons, List.length_append]; simp only [List.length_cons, List.length_nil]; omega)
 have HPRE := Lib.hid (fun (h : tg ≤ 5) => show bS (sgL tg ++ (32 :: parT a)) = bS (prT (.one (zP tg) a)) from by rw [pr_pre h])
 have HPOST := Lib.hid (fun (h : 6 ≤ tg) (h2 : tg ≤ 7) => show bS (parT a ++ (32 :: sgL tg)) = bS (prT (.one (zP tg) a)) from by rw [pr_post h h2])
 have HAGG := Lib.hid (fun (h : 8 ≤ tg) => show bS (sgL tg ++ (40 :: (prT a ++ [41]))) = bS (prT (.one (zP tg) a)) from by rw [pr_agg h])
 generalize prT (.one (zP tg) a) = R at *
 obtain ⟨ZN, hZN⟩ : ∃ Z, Z = bS (prT a) := ⟨_, rfl⟩
 obtain ⟨ZP, hZP⟩ : ∃ Z, Z = bS (parT a) := ⟨_, rfl⟩
 rw [← hZN] at HN
 rw [← hZP] at HP
 have hsn : ZN.size ≤ 99000 := by rw [hZN, bs_size]; exact hz
 have hsp : ZP.size ≤ 99002 := by rw [hZP, bs_size]; have := HPA.out; omega
 have HZN := Lib.hid hZN
 have HZP := Lib.hid hZP
 clear hc hrt hx s3 hcb hok hl hN hP hz hZN hZP hpt hi hi1 hL hap
 go_enter Tryz.func65, Tryz.ntmps65
 go_upto_region 2 with fail
 generalize w.alloc (.cells #[.int .i64 tg, .int .i64 (i1 : Int), .int .i64 (-1), .int .i64 0, .int .i64 0, .int .u64 0, .string eB, .string eB, .string eB] 57) = w1 at *
 clear e0 e1 e2 e3 e4 e5 e6 e7 e8 c1
 have HC1 := Lib.hid (HC.out.below HQ.out)
 have e0 := HB.out.cell 0
 have e1 := HB.out.cell 1
 simp at e0 e1
 have c2 := HC1.out.nd
 have c3 := HC1.out.pt
 obtain ⟨tk, htk⟩ : ∃ tk : Nat, tg = (tk : Int) := ⟨tg.toNat, by omega⟩
 subst htk
 have hcases : tk = 4 ∨ tk = 5 ∨ tk = 6 ∨ tk = 7 ∨ tk = 8 ∨ tk = 9 ∨ tk = 10 ∨ tk = 11 := by omega
 clear htg
 rcases hcases with rfl | rfl | rfl | rfl | rfl | rfl | rfl | rfl
 · have hsg := HC1.out.tab.sg 4 _ rfl
   have HF := Lib.hid (show (bS [45] ++ ⟨#[32]⟩) ++ ZP = bS R from by rw [← HPRE.out (by omega), HZP.out]; exact bS_of (by rw [ByteArray.data_append, Array.toList_append, ByteArray.data_append, Array.toList_append, List.append_assoc]; rfl))
   have hz2 : (bS [45] ++ ⟨#[32]⟩ : ByteArray).size ≤ 100 := by decide
   go_wp2_with fail
   refine (HP.out _ HC1.out).mono ?_
   rintro e w2 ⟨rfl, q2⟩
   have HQ2 := Lib.hid (bl_ca HQ.out q2)
   clear q2 e0 e1 c2 c3 hsg
   go_wp2
   go_ret
   exact ⟨by rw [← HF.out]; rfl, HQ2.out⟩
 · have hsg := HC1.out.tab.sg 5 _ rfl
   have HF := Lib.hid (show (bS [78, 79, 84] ++ ⟨#[32]⟩) ++ ZP = bS R from by rw [← HPRE.out (by omega), HZP.out]; exact bS_of (by rw [ByteArray.data_append, Array.toList_append, ByteArray.data_append, Array.toList_append, List.append_assoc]; rfl))
   have hz2 : (bS [78, 79, 84] ++ ⟨#[32]⟩ : ByteArray).size ≤ 100 := by decide
   go_wp2_with fail
   refine (HP.out _ HC1.out).mono ?_
   rintro e w2 ⟨rfl, q2⟩
   have HQ2 := Lib.hid (bl_ca HQ.out q2)
   clear q2 e0 e1 c2 c3 hsg
   go_wp2
   go_ret
   exact ⟨by rw [← HF.out]; rfl, HQ2.out⟩
 · have hsg := HC1.out.tab.sg 6 _ rfl
   have HF := Lib.hid (show (ZP ++ ⟨#[32]⟩) ++ bS [73, 83, 32, 78, 85, 76, 76] = bS R from by rw [← HPOST.out (by omega) (by omega), HZP.out]; exact bS_of (by rw [ByteArray.data_append, Array.toList_append, ByteArray.data_append, Array.toList_append, List.append_assoc]; rfl))
   have hz2 : (ZP ++ ⟨#[32]⟩ : ByteArray).size ≤ 99003 := by rw [ByteArray.size_append]; have h1 : (⟨#[32]⟩ : ByteArray).size = 1 := rfl; omega
   go_wp2_with fail
   refine (HP.out _ HC1.out).mono ?_
   rintro e w2 ⟨rfl, q2⟩
   have HQ2 := Lib.hid (bl_ca HQ.out q2)
   clear q2 e0 e1 c2 c3 hsg
   go_wp2
   go_ret
   exact ⟨by rw [← HF.out]; rfl, HQ2.out⟩
 · have hsg := HC1.out.tab.sg 7 _ rfl
   have HF := Lib.hid (show (ZP ++ ⟨#[32]⟩) ++ bS [73, 83, 32, 78, 79, 84, 32, 78, 85, 76, 76] = bS R from by rw [← HPOST.out (by omega) (by omega), HZP.out]; exact bS_of (by rw [ByteArray.data_append, Array.toList_append, ByteArray.data_append, Array.toList_append, List.append_assoc]; rfl))
   have hz2 : (ZP ++ ⟨#[32]⟩ : ByteArray).size ≤ 99003 := by rw [ByteArray.size_append]; have h1 : (⟨#[32]⟩ : ByteArray).size = 1 := rfl; omega
   go_wp2_with fail
   refine (HP.out _ HC1.out).mono ?_
   rintro e w2 ⟨rfl, q2⟩
   have HQ2 := Lib.hid (bl_ca HQ.out q2)
   clear q2 e0 e1 c2 c3 hsg
   go_wp2
   go_ret
   exact ⟨by rw [← HF.out]; rfl, HQ2.out⟩
 · have hsg := HC1.out.tab.sg 8 _ rfl
   have HF := Lib.hid (show ((bS [67, 79, 85, 78, 84] ++ ⟨#[40]⟩) ++ ZN) ++ ⟨#[41]⟩ = bS R from by rw [← HAGG.out (by omega), HZN.out]; exact bS_of (by rw [ByteArray.data_append, Array.toList_append, ByteArray.data_append, Array.toList_append, ByteArray.data_append, Array.toList_append, List.append_assoc, List.append_assoc]; rfl))
   have hz1 : (bS [67, 79, 85, 78, 84] ++ ⟨#[40]⟩ : ByteArray).size ≤ 100 := by decide
   have hz2 : ((bS [67, 79, 85, 78, 84] ++ ⟨#[40]⟩) ++ ZN : ByteArray).size ≤ 99100 := by rw [ByteArray.size_append]; omega
   go_wp2_with fail
   refine (HN.out _ HC1.out).mono ?_
   rintro e w2 ⟨rfl, q2⟩
   have HQ2 := Lib.hid (bl_ca HQ.out q2)
   clear q2 e0 e1 c2 c3 hsg
   go_wp2
   go_ret
   exact ⟨by rw [← HF.out]; rfl, HQ2.out⟩
 · have hsg := HC1.out.tab.sg 9 _ rfl
   have HF := Lib.hid (show ((bS [83, 85, 77] ++ ⟨#[40]⟩) ++ ZN) ++ ⟨#[41]⟩ = bS R from by rw [← HAGG.out (by omega), HZN.out]; exact bS_of (by rw [ByteArray.data_append, Array.toList_append, ByteArray.data_append, Array.toList_append, ByteArray.data_append, Array.toList_append, List.append_assoc, List.append_assoc]; rfl))
   have hz1 : (bS [83, 85, 77] ++ ⟨#[40]⟩ : ByteArray).size ≤ 100 := by decide
   have hz2 : ((bS [83, 85, 77] ++ ⟨#[40]⟩) ++ ZN : ByteArray).size ≤ 99100 := by rw [ByteArray.size_append]; omega
   go_wp2_with fail
   refine (HN.out _ HC1.out).mono ?_
   rintro e w2 ⟨rfl, q2⟩
   have HQ2 := Lib.hid (bl_ca HQ.out q2)
   clear q2 e0 e1 c2 c3 hsg
   go_wp2
   go_ret
   exact ⟨by rw [← HF.out]; rfl, HQ2.out⟩
 · have hsg := HC1.out.tab.sg 10 _ rfl
   have HF := Lib.hid (show ((bS [77, 73, 78] ++ ⟨#[40]⟩) ++ ZN) ++ ⟨#[41]⟩ = bS R from by rw [← HAGG.out (by omega), HZN.out]; exact bS_of (by rw [ByteArray.data_append, Array.toList_append, ByteArray.data_append, Array.toList_append, ByteArray.data_append, Array.toList_append, List.append_assoc, List.append_assoc]; rfl))
   have hz1 : (bS [77, 73, 78] ++ ⟨#[40]⟩ : ByteArray).size ≤ 100 := by decide
   have hz2 : ((bS [77, 73, 78] ++ ⟨#[40]⟩) ++ ZN : ByteArray).size ≤ 99100 := by rw [ByteArray.size_append]; omega
   go_wp2_with fail
   refine (HN.out _ HC1.out).mono ?_
   rintro e w2 ⟨rfl, q2⟩
   have HQ2 := Lib.hid (bl_ca HQ.out q2)
   clear q2 e0 e1 c2 c3 hsg
   go_wp2
   go_ret
   exact ⟨by rw [← HF.out]; rfl, HQ2.out⟩
 · have hsg := HC1.out.tab.sg 11 _ rfl
   have HF := Lib.hid (show ((bS [77, 65, 88] ++ ⟨#[40]⟩) ++ ZN) ++ ⟨#[41]⟩ = bS R from by rw [← HAGG.out (by omega), HZN.out]; exact bS_of (by rw [ByteArray.data_append, Array.toList_append, ByteArray.data_append, Array.toList_append, ByteArray.data_append, Array.toList_append, List.append_assoc, List.append_assoc]; rfl))
   have hz1 : (bS [77, 65, 88] ++ ⟨#[40]⟩ : ByteArray).size ≤ 100 := by decide
   have hz2 : ((bS [77, 65, 88] ++ ⟨#[40]⟩) ++ ZN : ByteArray).size ≤ 99100 := by rw [ByteArray.size_append]; omega
   go_wp2_with fail
   refine (HN.out _ HC1.out).mono ?_
   rintro e w2 ⟨rfl, q2⟩
   have HQ2 := Lib.hid (bl_ca HQ.out q2)
   clear q2 e0 e1 c2 c3 hsg
   go_wp2
   go_ret
   exact ⟨by rw [← HF.out]; rfl, HQ2.out⟩
end Go.Proofs.YtoaggmldekejoaaGreatDoor
