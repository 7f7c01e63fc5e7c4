/- strconv.ParseUint of digits at 63 bits; the layer's number. Conditions: as each says. -/
import Derived.Test.YtnpicnddcoaboaaGreatDoorLxG1
import Derived.Test.YtnpicnddcoaboaaGreatDoorLxR2
import Derived.Test.YtnpicnddcoaboaaGreatDoorApp
import Derived.Lib.ParseIntBMem
import Derived.Lib.ConvBytes
import Derived.Lib.Strings
import Derived.Laws.Closers25
import Derived.Laws.Closers25b
namespace Go.Proofs.YtnpicnddcoaboaaGreatDoor
open Go.RowKit Go.Shelf
abbrev MX : Nat := 9223372036854775807
set_option maxHeartbeats 32000000 in
set_option maxRecDepth 100000 in
theorem iparse_any (t : ByteArray) (hne : t.size ≠ 0) (hmax : t.size ≤ 100000) (hall : t.data.toList.all dgU = true) (w : World) :
    Calls Tryz.prog 95 #[.string t, .int .i64 10, .int .i64 63] w fun e w' => e = .returned (Lib.uintTupleM 128 9223372036854775807 (Lib.parseUintM 9223372036854775807 0 t.data.toList)) ∧ w' = Lib.bytesWorld w 5 t := by
  have hemp : t.toList.isEmpty = false := by
    rw [← decide_eq_emptyBytes]
    exact decide_eq_false (fun h => hne (by rw [h]; rfl))
  have hcv := Lib.run_convert_string_bytes (P := Tryz.prog) w 9 52 5 t (u := .string) Tryz.underlying9 Tryz.underlying52 Tryz.underlying5
  have hB : ∀ j, j < t.size → (Lib.bytesWorld w 5 t).cell? ⟨w.heap.size, j, none⟩ = some (.int .u8 (t.data.toList.getD j 0).toNat) := fun j hj => Lib.bytesWorld_cell w 5 t j hj
  obtain ⟨W1, hW1⟩ : ∃ W1, W1 = Lib.bytesWorld w 5 t := ⟨_, rfl⟩
  rw [← hW1] at hcv hB ⊢
  clear hW1
  obtain ⟨bs, hL⟩ : ∃ bs, bs = t.data.toList := ⟨_, rfl⟩
  have hLn : bs.length = t.size := by rw [hL, Lib.size_eq]
  rw [← hL] at hB hall ⊢
  clear hL
  have HALL := Lib.hid (fun (k : Nat) (c : UInt8) (h : bs[k]? = some c) => (show 48 ≤ c.toNat ∧ c.toNat ≤ 57 from by
    have h9 := List.all_eq_true.1 hall c (List.mem_of_getElem? h)
    unfold dgU dgI at h9
    simp only [Bool.and_eq_true, decide_eq_true_eq] at h9
    omega))
  clear hall
  have hmv : IntKind.u64.wrap (IntKind.u64.wrap 9223372036854775808 - 1) = 9223372036854775807 := by
    rw [IntKind.wrap_u64, IntKind.wrap_u64]
    decide
  go_enter Tryz.func95, Tryz.ntmps95
  go_wp2
  go_loop [12, 13, 101] (fun vu vn vi => ∃ (k acc : Nat) (a : Int), vu = .bool false ∧ vn = .int .u64 a ∧ vi = .int .i64 k ∧ k ≤ t.size ∧ Hid (a = (acc : Int) ∧ acc ≤ 9223372036854775807 ∧ Lib.parseUintM 9223372036854775807 0 bs = Lib.parseUintM 9223372036854775807 acc (bs.drop k)))
    (fun _ _ vi => t.size - (intOf vi).toNat)
  case atStart => exact ⟨0, 0, 0, rfl, rfl, rfl, by omega, Lib.hid ⟨rfl, by omega, rfl⟩⟩
  case round =>
    obtain ⟨k, acc, a, rfl, rfl, rfl, hk, hh⟩ := hrel
    obtain ⟨ha, hacc, hdec⟩ := hh.out
    clear hh
    have a0 : 0 ≤ a := by omega
    have a1 : a ≤ 9223372036854775807 := by omega
    by_cases hkn : k < t.size
    · have hc := hB k hkn
      have hdrop : bs.drop k = bs[k]'(by omega) :: bs.drop (k + 1) := List.drop_eq_getElem_cons (by omega)
      have hget : bs.getD k 0 = bs[k]'(by omega) := by simp [List.getD, List.getElem?_eq_getElem (show k < bs.length by omega)]
      have hd01 := HALL.out k _ (List.getElem?_eq_getElem (show k < bs.length by omega))
      rw [hdrop] at hdec
      rw [hget] at hc
      generalize bs[k]'(by omega) = c at hc hdec hd01
      have hc256 : c.toNat < 256 := c.toNat_lt
      clear hB hdrop hget
      obtain ⟨hd0, hd1⟩ := hd01
      by_cases hcut : 1844674407370955162 ≤ acc
      · have hF : Lib.parseUintM 9223372036854775807 acc (c :: bs.drop (k + 1)) = .range := by simp [Lib.parseUintM, hd0, hd1, hcut]
        rw [hF] at hdec
        have icut : 1844674407370955162 ≤ a := by omega
        clear hcut hacc hF ha
        go_wp2
        go_ret2
        exact ⟨rfl, rfl⟩
      · by_cases hov : 18446744073709551616 ≤ acc * 10 + (c.toNat - 48)
        · have hF : Lib.parseUintM 9223372036854775807 acc (c :: bs.drop (k + 1)) = .range := by
            simp only [Lib.parseUintM]
            rw [if_pos ⟨hd0, hd1⟩, if_neg hcut, if_pos (by omega)]
          rw [hF] at hdec
          have icut : a < 1844674407370955162 := by omega
          have iov : 18446744073709551616 ≤ a * 10 + ((c.toNat : Int) - 48) := by omega
          have hwr : IntKind.u64.wrap (a * 10 + ((c.toNat : Int) - 48)) = a * 10 + ((c.toNat : Int) - 48) - 18446744073709551616 := by
            rw [IntKind.wrap_u64]
            omega
          clear hcut hacc hF hov ha
          go_wp2
          go_ret2
          exact ⟨rfl, rfl⟩
        · have iov2 : a * 10 + ((c.toNat : Int) - 48) < 18446744073709551616 := by omega
          have icut : a < 1844674407370955162 := by omega
          by_cases hm : 9223372036854775807 < acc * 10 + (c.toNat - 48)
          · have hF : Lib.parseUintM 9223372036854775807 acc (c :: bs.drop (k + 1)) = .range := by
              simp only [Lib.parseUintM]
              rw [if_pos ⟨hd0, hd1⟩, if_neg hcut, if_pos hm]
            rw [hF] at hdec
            have iov : 9223372036854775807 < a * 10 + ((c.toNat : Int) - 48) := by omega
            clear hcut hacc hF hov ha hm
            go_wp2
            go_ret2
            exact ⟨rfl, rfl⟩
          · have hF : Lib.parseUintM 9223372036854775807 acc (c :: bs.drop (k + 1)) = Lib.parseUintM 9223372036854775807 (acc * 10 + (c.toNat - 48)) (bs.drop (k + 1)) := by
              simp only [Lib.parseUintM]
              rw [if_pos ⟨hd0, hd1⟩, if_neg hcut, if_neg hm]
            have HN : Hid (a * 10 + ((c.toNat : Int) - 48) = ((acc * 10 + (c.toNat - 48) : Nat) : Int) ∧ acc * 10 + (c.toNat - 48) ≤ 9223372036854775807 ∧ Lib.parseUintM 9223372036854775807 0 bs = Lib.parseUintM 9223372036854775807 (acc * 10 + (c.toNat - 48)) (bs.drop (k + 1))) := Lib.hid ⟨by omega, by omega, hdec.trans hF⟩
            have iov : a * 10 + ((c.toNat : Int) - 48) ≤ 9223372036854775807 := by omega
            clear hcut hacc hF hov hdec ha hm
            go_wp2
            refine ⟨⟨k + 1, acc * 10 + (c.toNat - 48), a * 10 + ((c.toNat : Int) - 48), rfl, (by first | rfl | (congr 1; omega)), (by first | rfl | (congr 1; omega)), by omega, HN⟩, by simp [intOf]; omega⟩
    · have hkk : k = t.size := by omega
      subst hkk
      have hF : Lib.parseUintM 9223372036854775807 acc (bs.drop t.size) = .ok acc := by rw [List.drop_eq_nil_of_le (by omega)]; rfl
      rw [hF] at hdec
      subst ha
      clear hacc hF a0 a1
      go_wp2
      go_ret2
      exact ⟨rfl, rfl⟩
theorem parse_val : ∀ (l : List UInt8) (acc : Nat), l.all dgU = true → acc ≤ 9223372036854775807 → Lib.parseUintM 9223372036854775807 acc l = if valU acc l ≤ 9223372036854775807 then .ok (valU acc l) else .range
  | [], acc, _, h => by
    rw [valU_nil, if_pos h]; rfl
  | c :: r, acc, h, ha => by
    rw [List.all_cons, Bool.and_eq_true] at h
    have h9 := h.1
    unfold dgU dgI at h9
    simp only [Bool.and_eq_true, decide_eq_true_eq] at h9
    have hm := valU_mono r (acc * 10 + (c.toNat - 48))
    have h1 : 1 ≤ 10 ^ r.length := Nat.one_le_pow _ _ (by decide)
    have h2 : (acc * 10 + (c.toNat - 48)) * 1 ≤ (acc * 10 + (c.toNat - 48)) * 10 ^ r.length := Nat.mul_le_mul_left _ h1
    rw [valU_cons]
    simp only [Lib.parseUintM]
    rw [if_pos (show 48 ≤ c.toNat ∧ c.toNat ≤ 57 by omega)]
    by_cases hc : 1844674407370955162 ≤ acc
    · rw [if_pos hc, if_neg (by omega)]
    · rw [if_neg hc]
      by_cases ho : 9223372036854775807 < acc * 10 + (c.toNat - 48)
      · rw [if_pos ho, if_neg (by omega)]
      · rw [if_neg ho]
        exact parse_val r _ h.2 (by omega)
/-- what ParseUint of digits returns -/
def PuE (v : Nat) (e : Ending) : Prop := (v ≤ 9223372036854775807 ∧ e = .returned (.tuple #[.int .u64 (v : Int), .nilIface])) ∨ (9223372036854775807 < v ∧ ∃ T p, e = .returned (.tuple #[.int .u64 9223372036854775807, .iface T p]))
set_option maxRecDepth 100000 in
set_option maxHeartbeats 8000000 in
theorem puint_any (s : ByteArray) (hne : s.size ≠ 0) (hmax : s.size ≤ 100000) (hall : s.data.toList.all dgU = true) (w : World) (hT : Tab w) :
    Calls Tryz.prog 81 #[.string s, .int .i64 10, .int .i64 63] w fun e w' => PuE (valU 0 s.data.toList) e ∧ Below w.heap.size w w' := by
  have H := Lib.hid (fun w => iparse_any s hne hmax hall w)
  have HP := Lib.hid (parse_val s.data.toList 0 hall (by omega))
  have hm2 : s.size ≤ 281474976710656 := by omega
  have HM := Lib.hid hm2
  obtain ⟨te, pe, hv⟩ := hT.er
  have HV := Lib.hid hv
  clear hne hmax hall hv hT hm2
  by_cases h : valU 0 s.data.toList ≤ 9223372036854775807
  · have HF := Lib.hid (show Lib.parseUintM 9223372036854775807 0 s.data.toList = .ok (valU 0 s.data.toList) from by rw [HP.out, if_pos h])
    have HPE := Lib.hid (show PuE (valU 0 s.data.toList) (.returned (.tuple #[.int .u64 (valU 0 s.data.toList : Int), .nilIface])) from .inl ⟨h, rfl⟩)
    clear h HP
    generalize valU 0 s.data.toList = v at *
    obtain ⟨z, hz⟩ : ∃ z, z = (v : Int) := ⟨_, rfl⟩
    rw [← hz] at HPE
    go_enter Tryz.func81, Tryz.ntmps81
    have H2 := Lib.hid (fun w => (H.out w).mono (R' := fun e w' => e = .returned (.tuple #[.int .u64 z, .nilIface]) ∧ w' = Lib.bytesWorld w 5 s) (fun e w' ⟨h1, h2⟩ => ⟨by rw [h1, HF.out, hz]; rfl, h2⟩))
    clear H HF hz
    go_wp2_with fail
    refine (H2.out _).mono ?_
    rintro e w2 ⟨rfl, rfl⟩
    have hb := Lib.hid (Lib.bytesWorld_below w 5 s)
    generalize Lib.bytesWorld w 5 s = w2 at *
    go_wp2
    go_ret2
    exact ⟨HPE.out, hb.out⟩
  · have HF := Lib.hid (show Lib.parseUintM 9223372036854775807 0 s.data.toList = .range from by rw [HP.out, if_neg h])
    have HPE := Lib.hid (fun T p => (show PuE (valU 0 s.data.toList) (.returned (.tuple #[.int .u64 9223372036854775807, .iface T p])) from .inr ⟨by omega, T, p, rfl⟩))
    clear h HP
    generalize valU 0 s.data.toList = v at *
    have H2 := Lib.hid (fun w => (H.out w).mono (R' := fun e w' => e = .returned (.tuple #[.int .u64 9223372036854775807, .iface 128 (.int .i64 1)]) ∧ w' = Lib.bytesWorld w 5 s) (fun e w' ⟨h1, h2⟩ => ⟨by rw [h1, HF.out]; rfl, h2⟩))
    clear H HF
    have HE := Lib.hid (fun (w : World) (hv : w.cell? ⟨8, 0, none⟩ = some (.iface te pe)) => (show Calls Tryz.prog 96 #[.string ⟨#[80, 97, 114, 115, 101, 85, 105, 110, 116]⟩, .string s, .int .i64 10, .int .i64 63, .iface 128 (.int .i64 1)] w (fun e w' => ∃ N, e = .returned (.iface 130 (.pointer (some ⟨N, 0, none⟩))) ∧ Below w.heap.size w w') from (AnyPu.strconv_toError_range { Tryz.laysPu14 with } ⟨#[80, 97, 114, 115, 101, 85, 105, 110, 116]⟩ s 10 63 (.iface te pe) w HM.out hv (.inr ⟨te, pe, rfl⟩)).mono fun e w' ⟨N, h1, _, _, h4⟩ => ⟨N, h1, h4⟩))
    go_enter Tryz.func81, Tryz.ntmps81
    go_wp2_with fail
    refine (H2.out _).mono ?_
    rintro e w2 ⟨rfl, rfl⟩
    have hb := Lib.hid (Lib.bytesWorld_below w 5 s)
    have HV2 := Lib.hid ((hb.out.cell (World.block_lt_of_cell? w _ HV.out)).trans HV.out)
    generalize Lib.bytesWorld w 5 s = w2 at *
    go_wp2_with fail
    refine (HE.out _ HV2.out).mono ?_
    rintro e w3 ⟨N, rfl, q3⟩
    go_wp2
    go_ret2
    exact ⟨HPE.out _ _, bl_ca hb.out q3⟩
end Go.Proofs.YtnpicnddcoaboaaGreatDoor
