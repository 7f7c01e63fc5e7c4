/- strconv.FormatUint at base 10; the layer's written. Conditions: texts of at most 1000 bytes; what the tables hold. -/
import Derived.Test.YtnpicnddcoaboaaGreatDoorLxG5
import Derived.Test.YtnpicnddcoaboaaGreatDoorLxR7
import Derived.Lib.ItoaMem
namespace Go.Proofs.YtnpicnddcoaboaaGreatDoor
open Go.RowKit Go.Shelf
set_option maxHeartbeats 6400000 in
set_option maxRecDepth 100000 in
theorem ifmt_any (u : Nat) (hu64 : u < 18446744073709551616) (w : World) (hT : Tab w) :
    Calls Tryz.prog 71 #[.int .u64 (u : Int), .int .i64 10] w fun e w' => e = .returned (.string ⟨(Lib.decDigits u).toArray⟩) ∧ Below w.heap.size w w' := by
  by_cases hs : u < 100
  · have hi : (u : Int) < 100 := by omega
    have HS := Lib.hid hs
    clear hs hu64
    go_enter Tryz.func71, Tryz.ntmps71
    go_wp2_with fail
    refine (Tryz.internal_strconv_small u HS.out _).mono ?_
    rintro e w' ⟨rfl, rfl⟩
    go_wp2
    go_ret
    exact ⟨rfl, Below.refl _ _⟩
  · have hu1 : 1 ≤ u := by omega
    have hi : 100 ≤ (u : Int) := by omega
    have hnd20 : Lib.nDigits u ≤ 20 := by have := Lib.numDigits_eq u hu1 hu64; split at this <;> omega
    have hal : Tryz.prog.arrayLen 102 = 24 := by kernel_rfl
    have hsl1 : ∀ W, (Instr.sliceAt 102 (.pointer (some ⟨w.heap.size, 0, none⟩)) none (some (.int .i64 (Lib.nDigits u : Int))) none).run Tryz.prog W = .ok (.slice (some ⟨w.heap.size, 0, none⟩) (Lib.nDigits u) 24) W := fun W => by
      rw [run_sliceAt_array_h W 102 ⟨w.heap.size, 0, none⟩ (by kernel_rfl) .i64 (Lib.nDigits u : Int) (by omega) (by rw [hal]; omega)]
      go_simp
    have hH0 := Lib.holds_zero0 w 102 (Lib.nDigits u) (by omega)
    have hfmt := Tryz.internal_strconv_formatBase10 w.heap.size 0 24 u (Array.replicate (Lib.nDigits u) 0) (w.alloc (.cells Lib.zeros24 102)) hH0 (by rw [Array.size_replicate]; exact Lib.lt_pow_nDigits u) hu64 (by rw [Array.size_replicate]; omega)
    rw [Array.size_replicate] at hfmt
    have HH0 := Lib.hid hH0
    have HFM := Lib.hid hfmt
    have HT := Lib.hid (Lib.tabIs_alloc hT.pw (.cells Lib.zeros24 102))
    have HU := Lib.hid (And.intro hu1 hu64)
    clear hH0 hal hfmt hT hs
    go_enter Tryz.func71, Tryz.ntmps71
    go_wp2_with fail
    refine (Tryz.internal_strconv_numDigits u HU.out.1 HU.out.2 _ HT.out).mono ?_
    rintro e w' ⟨rfl, rfl⟩
    go_wp2_with fail
    refine HFM.out.mono ?_
    rintro e w' ⟨rfl, k, v', dk, rfl, hF⟩
    have hcv : (convert 52 9 (.slice (some ⟨w.heap.size, 0, none⟩) (Lib.nDigits u) 24)).run Tryz.prog ((Sort.putRow (fun (b : UInt8) => Value.int .u8 (b.toNat : Int)) (w.alloc (.cells Lib.zeros24 102)) w.heap.size 0 dk).drewN k) = .ok (.string ⟨(Lib.decDigits u).toArray⟩) ((Sort.putRow (fun (b : UInt8) => Value.int .u8 (b.toNat : Int)) (w.alloc (.cells Lib.zeros24 102)) w.heap.size 0 dk).drewN k) := by
      have h := run_convert_bytes_back (P := Tryz.prog) ((Sort.putRow (fun (b : UInt8) => Value.int .u8 (b.toNat : Int)) (w.alloc (.cells Lib.zeros24 102)) w.heap.size 0 dk).drewN k) 52 9 5 ⟨w.heap.size, 0, none⟩ 24 (Lib.decDigits u) Tryz.underlying52 Tryz.underlying5 Tryz.underlying9 (fun j hj => by
        rw [Lib.row_is_numeral hF j hj, Lib.add_plain, World.cell?_drewN]
        exact Sort.cell?_putRow (fun (b : UInt8) => Value.int .u8 (b.toNat : Int)) _ w.heap.size 0 _ dk HH0.out (by rw [hF.size, Array.size_replicate]) j (by rw [hF.size]; rw [Lib.decDigits_length] at hj; exact hj))
      rw [Lib.decDigits_length] at h
      exact h
    obtain ⟨os, eo⟩ := Lib.fin_at w (.cells Lib.zeros24 102) dk k 0
    have HB := Lib.hid (show Below w.heap.size w ((Sort.putRow (fun (b : UInt8) => Value.int .u8 (b.toNat : Int)) (w.alloc (.cells Lib.zeros24 102)) w.heap.size 0 dk).drewN k) from by rw [eo]; exact below_grown w k os)
    generalize (Sort.putRow (fun (b : UInt8) => Value.int .u8 (b.toNat : Int)) (w.alloc (.cells Lib.zeros24 102)) w.heap.size 0 dk).drewN k = w2 at *
    clear eo hF
    go_wp2
    go_ret
    exact ⟨rfl, HB.out⟩
set_option maxRecDepth 100000 in
theorem fmt_any (u : Nat) (hu64 : u < 18446744073709551616) (w : World) (hT : Tab w) :
    Calls Tryz.prog 48 #[.int .u64 (u : Int), .int .i64 10] w fun e w' => e = .returned (.string ⟨(Lib.decDigits u).toArray⟩) ∧ Below w.heap.size w w' := by
  have H := Lib.hid (fun w hT => ifmt_any u hu64 w hT)
  clear hu64
  go_enter Tryz.func48, Tryz.ntmps48
  go_wp2_with fail
  refine (H.out w hT).mono ?_
  rintro e w2 ⟨rfl, q2⟩
  go_wp2
  go_ret
  exact ⟨rfl, q2⟩

theorem quo_none : ∀ {l : List UInt8}, (∀ k : Nat, l[k]? ≠ some 39) → quoU l = l
  | [], _ => rfl
  | b :: l, h => by
    have hb : b ≠ 39 := fun e => h 0 (by rw [e]; rfl)
    rw [show quoU (b :: l) = b :: quoU l from by unfold quoU; rw [List.flatMap_cons, if_neg hb]; rfl, quo_none (fun k => by have := h (k + 1); rwa [List.getElem?_cons_succ] at this)]
theorem quo_app (a b : List UInt8) : quoU (a ++ b) = quoU a ++ quoU b := by unfold quoU; rw [List.flatMap_append]
theorem replace_quo : ∀ (n : Nat) (s : List UInt8), s.length ≤ n → Lib.replaceK [39] [39, 39] (Lib.count s [39]) s = quoU s := by
  intro n
  induction n with
  | zero =>
    intro s h
    have : s = [] := List.eq_nil_of_length_eq_zero (by omega)
    subst this
    rfl
  | succ n ih =>
    intro s h
    by_cases hm : Lib.indexByte s 39 = -1
    · rw [Lib.count_miss (by rw [Lib.index_one]; exact hm), Lib.replaceK, quo_none (Lib.indexByte_none hm)]
    · have hg := Lib.indexByte_ge s 39
      obtain ⟨i, hi⟩ : ∃ i : Nat, Lib.indexByte s 39 = i := ⟨(Lib.indexByte s 39).toNat, by omega⟩
      have hidx : Lib.index s [39] = i := by rw [Lib.index_one]; exact hi
      obtain ⟨h1, h2⟩ := Lib.indexByte_some hi
      have hlt : i < s.length := by
        rcases Nat.lt_or_ge i s.length with h3 | h3
        · exact h3
        · rw [List.getElem?_eq_none h3] at h1; cases h1
      rw [Lib.count_hit (by simp) hidx, Nat.add_comm, Lib.replaceK_hit _ _ _ _ _ hidx]
      rw [show i + ([39] : List UInt8).length = i + 1 from rfl, ih (s.drop (i + 1)) (by rw [List.length_drop]; omega)]
      have e : s = s.take i ++ (39 :: s.drop (i + 1)) := by
        rw [← drop_at h1, List.take_append_drop]
      conv => rhs; rw [e]
      rw [quo_app, quo_none (l := s.take i) (fun k hk => by
        rw [List.getElem?_take] at hk
        split at hk
        · rename_i h9; exact h2 k h9 hk
        · cases hk)]
      rw [List.append_assoc]
      rfl
theorem replaceAll_quo (s : List UInt8) : Lib.replaceAll s [39] [39, 39] = quoU s := by
  unfold Lib.replaceAll Lib.replace
  rw [if_neg (by decide), show Lib.replaceNum s [39] (-1) = Lib.count s [39] from by unfold Lib.replaceNum; rw [if_pos (by left; decide)]]
  exact replace_quo _ s (Nat.le_refl _)
set_option maxRecDepth 100000 in
set_option maxHeartbeats 8000000 in
theorem lwritten_any (k a : Int) (l : List UInt8) (n : Nat) (w : World) (hl : l.length ≤ 1000) (hn : n < 18446744073709551616) (hT : Tab w) : Calls Tryz.prog 23 #[.agg #[.int .i64 k, .int .i64 a, .string (bS l), .int .u64 (n : Int)]] w fun e w' => e = .returned (.string (bS (wrU ⟨k, a, l, n⟩))) ∧ Below w.heap.size w w' := by
  have HQ := Lib.hid (bl_al (Below.refl w.heap.size w) (.cells #[.int .i64 k, .int .i64 a, .string (bS l), .int .u64 (n : Int)] 29))
  have HT := Lib.hid (hT.below HQ.out)
  have HR := Lib.hid (show wrU ⟨k, a, l, n⟩ = if k = 3 then Lib.decDigits n else if k = 4 then 39 :: (quoU l ++ [39]) else l from rfl)
  generalize wrU ⟨k, a, l, n⟩ = r at *
  clear hT
  by_cases h3 : k = 3
  · subst h3
    have HF := Lib.hid (show r = Lib.decDigits n from by rw [HR.out]; rfl)
    clear HR
    have H := Lib.hid (fun w hT => fmt_any n hn w hT)
    clear hn hl
    go_enter Tryz.func23, Tryz.ntmps23
    go_wp2_with fail
    refine (H.out _ HT.out).mono ?_
    rintro e w2 ⟨rfl, q2⟩
    go_wp2
    go_ret
    exact ⟨by rw [HF.out]; rfl, bl_ca HQ.out q2⟩
  have k3 : (k == 3) = false := by simpa using h3
  by_cases h4 : k = 4
  case neg =>
    have k4 : (k == 4) = false := by simpa using h4
    have HF := Lib.hid (show r = l from by rw [HR.out, if_neg h3, if_neg h4])
    clear h3 h4 HR
    go_enter Tryz.func23, Tryz.ntmps23
    go_wp2
    go_ret
    exact ⟨by rw [HF.out]; rfl, HQ.out⟩
  subst h4
  have HF := Lib.hid (show r = 39 :: (quoU l ++ [39]) from by rw [HR.out]; rfl)
  have HSZ := Lib.hid (show (bS l).size ≤ 1000 from by rw [← len_data]; exact hl)
  have HDT := Lib.hid (show (bS l).data.toList = l from rfl)
  have HQL := Lib.hid (quo_len l)
  obtain ⟨T, hT⟩ : ∃ T, T = bS l := ⟨_, rfl⟩
  rw [← hT] at HQ HT HSZ HDT ⊢
  have hcount := Lib.count_le T.data.toList [39]
  rw [len_data] at hcount
  have hcB : Lib.countB T ⟨#[39]⟩ = Lib.count T.data.toList [39] := rfl
  have hlen : T.size + Lib.countB T ⟨#[39]⟩ * (⟨#[39, 39]⟩ : ByteArray).size ≤ 140737488355328 := by
    rw [hcB]
    have h9 : (⟨#[39, 39]⟩ : ByteArray).size = 2 := rfl
    have := HSZ.out
    rw [h9]
    omega
  have hsz : T.size < 4294967281 := by have := HSZ.out; omega
  obtain ⟨m, hm⟩ := HT.out.ml
  have HRP := Lib.hid (Tryz.strings_ReplaceAll T ⟨#[39]⟩ ⟨#[39, 39]⟩ m _ hsz hm (by decide) hlen)
  clear hT HR h3 k3 hcount hcB hlen hsz hm
  go_enter Tryz.func23, Tryz.ntmps23
  go_wp2_with fail
  refine HRP.out.mono ?_
  rintro e w2 ⟨rfl, q2⟩
  rw [show (⟨(Lib.replaceAll T.data.toList (⟨#[39]⟩ : ByteArray).data.toList (⟨#[39, 39]⟩ : ByteArray).data.toList).toArray⟩ : ByteArray) = bS (quoU l) from by rw [HDT.out]; exact congrArg bS (replaceAll_quo l)]
  have HB2 := Lib.hid (bl_ca HQ.out q2)
  have hz : (bS (quoU l)).size ≤ 2000 := by rw [← len_data]; have := HQL.out; show (quoU l).length ≤ _; omega
  have HFIN := Lib.hid (show (⟨#[39]⟩ ++ bS (quoU l)) ++ ⟨#[39]⟩ = bS r from bS_of (by rw [ByteArray.data_append, Array.toList_append, ByteArray.data_append, Array.toList_append, HF.out]; rfl))
  have hz2 : (⟨#[39]⟩ ++ bS (quoU l) : ByteArray).size ≤ 2001 := by rw [ByteArray.size_append]; have h1 : (⟨#[39]⟩ : ByteArray).size = 1 := rfl; omega
  clear q2
  obtain ⟨Z, hZ⟩ : ∃ Z, Z = bS (quoU l) := ⟨_, rfl⟩
  rw [← hZ] at hz HFIN hz2 ⊢
  clear hZ
  go_wp2
  go_ret
  exact ⟨by rw [← HFIN.out]; rfl, HB2.out⟩
end Go.Proofs.YtnpicnddcoaboaaGreatDoor
