/- value.quoted at every text. Conditions: texts of at most 1000 bytes. -/
import Derived.Test.YtabbiepafibmmaaDoorTab
import Derived.Test.YtabbiepafibmmaaDoorVtM
import Derived.WalkMore
namespace Go.Proofs.YtabbiepafibmmaaDoor
open Go.RowKit
/-- what quoted gives back -/
def quoO (s : List UInt8) : Ending := match quoP s with
  | some t => .returned (.tuple #[.string ⟨t.toArray⟩, .bool true])
  | none => .returned (.tuple #[.string ⟨#[]⟩, .bool false])
theorem quoO_some {s t : List UInt8} (h : quoP s = some t) : quoO s = .returned (.tuple #[.string ⟨t.toArray⟩, .bool true]) := by unfold quoO; rw [h]
theorem quoO_none {s : List UInt8} (h : quoP s = none) : quoO s = .returned (.tuple #[.string ⟨#[]⟩, .bool false]) := by unfold quoO; rw [h]
theorem quoP_no {s : List UInt8} (h : Lib.hasPrefix s [39] = false) : quoP s = none := by
  unfold quoP
  split
  · rename_i r
    simp [Lib.hasPrefix] at h
  · rfl
theorem quoP_yes {s : List UInt8} (h : Lib.hasPrefix s [39] = true) : quoP s = inQ (Lib.trimPrefix s [39]) := by
  match s, h with
  | [], h => simp [Lib.hasPrefix] at h
  | b :: r, h =>
    have hb : b = 39 := (by simpa [Lib.hasPrefix] using h : 39 = b).symm
    subst hb
    simp [quoP, Lib.trimPrefix, Lib.hasPrefix]
theorem run_bt {s : ByteArray} {i : Nat} {b : UInt8} (h : s.data.toList[i]? = some b) (W : World) : (Instr.index 9 (.string s) (.int .i64 (i : Int))).run Tryd.prog W = .ok (.int .u8 (b.toNat : Int)) W := by
  have hi : i < s.data.toList.length := by
    rcases Nat.lt_or_ge i s.data.toList.length with h1 | h1
    · exact h1
    · rw [List.getElem?_eq_none h1] at h; cases h
  have hs : i < s.size := by simpa using hi
  rw [run_index_string W 9 s .i64 (i : Int) Tryd.underlying9, dif_pos ⟨by omega, by omega⟩]
  rw [List.getElem?_eq_getElem hi] at h
  injection h with h
  have e : s[((i : Int)).toNat]'(by simpa using hs) = b := by
    rw [← h]
    simp only [Int.toNat_natCast]
    simp
    rfl
  rw [e]
theorem byte_at {s : ByteArray} {i : Nat} (h : i < s.size) : ∃ b, s.data.toList[i]? = some b := ⟨s.data.toList[i]'(by simpa using h), List.getElem?_eq_getElem (by simpa using h)⟩
theorem drop_at {l : List UInt8} {i : Nat} {b : UInt8} (h : l[i]? = some b) : l.drop i = b :: l.drop (i + 1) := by
  have hi : i < l.length := by
    rcases Nat.lt_or_ge i l.length with h1 | h1
    · exact h1
    · rw [List.getElem?_eq_none h1] at h; cases h
  rw [List.getElem?_eq_getElem hi] at h
  injection h with h
  rw [List.drop_eq_getElem_cons hi, h]
theorem map_app (l : List UInt8) (b : UInt8) (o : Option (List UInt8)) : (o.map (b :: ·)).map (l ++ ·) = o.map ((l ++ [b]) ++ ·) := by
  cases o with
  | none => rfl
  | some x => simp
set_option maxRecDepth 100000 in
set_option maxHeartbeats 8000000 in
theorem quoted_any (s : ByteArray) (hs : s.size ≤ 1000) (w : World) : Calls Tryd.prog 46 #[.string s] w fun e w' => e = quoO s.data.toList ∧ Below w.heap.size w w' := by
  cases hp : Lib.hasPrefix s.data.toList [39]
  · have HF := Lib.hid (quoO_none (quoP_no hp))
    go_enter Tryd.func46, Tryd.ntmps46
    go_wp2_with fail
    go_step3
    go_wp2_with fail
    refine (Tryd.strings_CutPrefix s ⟨#[39]⟩ w).mono ?_
    rintro e w1 ⟨rfl, rfl⟩
    rw [show Lib.hasPrefix s.data.toList (⟨#[39]⟩ : ByteArray).data.toList = false from hp]
    go_wp2
    rw [Exit.noGoto_ret]
    refine bodyPost_ret (v := .tuple #[.string ⟨#[]⟩, .bool false]) (by simp [results, Tryd.results46, go_sem]) rfl ⟨HF.out.symm, Below.refl _ _⟩
  · have hq := quoP_yes hp
    have HQ := Lib.hid hq
    obtain ⟨D, hD⟩ : ∃ D : ByteArray, D = ⟨(Lib.trimPrefix s.data.toList [39]).toArray⟩ := ⟨_, rfl⟩
    go_enter Tryd.func46, Tryd.ntmps46
    go_wp2_with fail
    go_step3
    go_wp2_with fail
    refine (Tryd.strings_CutPrefix s ⟨#[39]⟩ w).mono ?_
    rintro e w1 ⟨rfl, rfl⟩
    rw [show Lib.hasPrefix s.data.toList (⟨#[39]⟩ : ByteArray).data.toList = true from hp]
    rw [show (⟨(Lib.trimPrefix s.data.toList (⟨#[39]⟩ : ByteArray).data.toList).toArray⟩ : ByteArray) = D from hD.symm]
    have HDD := Lib.hid (show D.data.toList = Lib.trimPrefix s.data.toList [39] from by rw [hD])
    rw [← HDD.out] at HQ
    have HDL := Lib.hid (show D.size ≤ 1000 from by
      have h8 := congrArg List.length HDD.out
      have h9 : D.data.toList.length = D.size := by simp
      have h7 : s.data.toList.length = s.size := by simp
      have h6 : (Lib.trimPrefix s.data.toList [39]).length ≤ s.data.toList.length := by
        unfold Lib.trimPrefix
        rw [hp, if_pos rfl, List.length_drop]; omega
      omega)
    clear hp hq hD HDD
    have bb := bl_al (Below.refl w1.heap.size w1) (.cells #[.pointer none, .slice none 0 0] 81)
    have hb0 := Lib.fresh_isBuilder 81 5 w1
    go_wp2_with fail
    go_step3
    go_wp2_with fail
    generalize w1.alloc (.cells #[.pointer none, .slice none 0 0] 81) = w2 at *
    go_loopg [7] D.size (fun g a wr => ∃ (i : Nat) (l : List UInt8), i + g = D.size ∧ a = .int .i64 (i : Int) ∧ Hid (l.length ≤ i ∧ inQ D.data.toList = (inQ (D.data.toList.drop i)).map (l ++ ·)) ∧ Lib.IsBuilder 81 5 w1.heap.size w1.heap.size (Lib.byteCells l) wr ∧ Below w1.heap.size w1 wr)
    case atStart => exact ⟨0, [], by omega, rfl, Lib.hid ⟨Nat.le_refl _, by rw [List.drop_zero]; simp⟩, hb0, bb⟩
    case round =>
      obtain ⟨i, l, hig, rfl, HI, hb, bb2⟩ := hrel
      have HB := Lib.hid hb
      have HBB := Lib.hid bb2
      have hsz := bb2.size
      have hd := HDL.out
      have hll := HI.out.1
      have hlb : (Lib.byteCells l).length + 1 ≤ 140737488355328 := by rw [show (Lib.byteCells l).length = l.length from by simp [Lib.byteCells]]; omega
      clear hb bb2
      by_cases hlt : i < D.size
      · have hi1 : (i : Int) < (D.size : Int) := by omega
        obtain ⟨b, hb⟩ := byte_at hlt
        have hix := run_bt hb
        have HDR := Lib.hid (drop_at hb)
        have HBC := Lib.hid (show ((b.toNat : Int) = 39 → b = 39) ∧ (¬ (b.toNat : Int) = 39 → b ≠ 39) from ⟨fun h => UInt8.toNat_inj.1 (by show b.toNat = 39; omega), fun h e => h (by rw [e]; rfl)⟩)
        obtain ⟨d, hd2⟩ : ∃ d, d = (b.toNat : Int) := ⟨_, rfl⟩
        have HDE := Lib.hid hd2
        rw [← hd2] at hix HBC
        clear hb hd2
        by_cases h39 : d = 39
        case neg =>
          have e1 : (d == 39) = false := by simpa using h39
          have e2 : (d != 39) = true := by simpa using h39
          have HNE := Lib.hid (HBC.out.2 h39)
          have HI2 := Lib.hid (show inQ D.data.toList = (inQ (D.data.toList.drop (i + 1))).map ((l ++ [b]) ++ ·) from by rw [HI.out.2, HDR.out, inQ_ne HNE.out, map_app])
          clear h39
          go_wp2_with fail
          refine (writeByte_any w1.heap.size w1.heap.size _ d _ HB.out hlb hsz).mono ?_
          rintro e w3 ⟨rfl, h3, b3⟩
          have hb4 : Lib.IsBuilder 81 5 w1.heap.size w1.heap.size (Lib.byteCells (l ++ [b])) w3 := Or.inr (by rw [HDE.out] at h3; simpa [Lib.byteCells] using h3)
          go_wp2_with fail
          go_roundg (gk - 1)
          · exact ⟨i + 1, l ++ [b], by omega, by go_num, Lib.hid ⟨by rw [List.length_append]; simp; omega, HI2.out⟩, hb4, HBB.out.trans b3⟩
          · omega
        case pos =>
          have e1 : (d == 39) = true := by simpa using h39
          have e2 : (d != 39) = false := by simpa using h39
          have HEQ := Lib.hid (HBC.out.1 h39)
          clear h39
          by_cases hl1 : i = D.size - 1
          · have HRT := Lib.hid (quoO_some (s := s.data.toList) (t := l) (by
              rw [HQ.out, HI.out.2, HDR.out, HEQ.out, List.drop_of_length_le (by simp; omega)]
              simp [inQ]))
            have g2 : ((i : Int) == (D.size : Int) - 1) = true := by simp; omega
            clear hl1
            go_wp2_with fail
            refine (Tryd.Builder_String_any w1.heap.size w1.heap.size l _ HB.out hsz).mono ?_
            rintro e w3 ⟨rfl, b3⟩
            go_wp2
            rw [Exit.noGoto_ret]
            refine bodyPost_ret (v := .tuple #[.string ⟨l.toArray⟩, .bool true]) (by simp [results, Tryd.results46, go_sem]) rfl ⟨HRT.out.symm, HBB.out.trans b3⟩
          · have g2 : ((i : Int) == (D.size : Int) - 1) = false := by simp; omega
            obtain ⟨b2, hb2⟩ := byte_at (s := D) (i := i + 1) (by omega)
            have hix2 : ∀ W, (Instr.index 9 (.string D) (.int .i64 ((i : Int) + 1))).run Tryd.prog W = .ok (.int .u8 (b2.toNat : Int)) W := fun W => by have := run_bt hb2 W; rwa [Int.natCast_add] at this
            have HDR2 := Lib.hid (drop_at hb2)
            have HBC2 := Lib.hid (show ((b2.toNat : Int) = 39 → b2 = 39) ∧ (¬ (b2.toNat : Int) = 39 → b2 ≠ 39) from ⟨fun h => UInt8.toNat_inj.1 (by show b2.toNat = 39; omega), fun h e => h (by rw [e]; rfl)⟩)
            obtain ⟨d2, hd2⟩ : ∃ d, d = (b2.toNat : Int) := ⟨_, rfl⟩
            rw [← hd2] at hix2 HBC2
            have hi12 : (i : Int) + 1 < (D.size : Int) := by omega
            clear hl1 hb2 hd2
            by_cases h392 : d2 = 39
            · have e3 : (d2 == 39) = true := by simpa using h392
              have e4 : (d2 != 39) = false := by simpa using h392
              have HD2 := Lib.hid h392
              have HI2 := Lib.hid (show inQ D.data.toList = (inQ (D.data.toList.drop (i + 2))).map ((l ++ [39]) ++ ·) from by rw [HI.out.2, HDR.out, HDR2.out, HEQ.out, HBC2.out.1 h392, inQ_qq, map_app])
              clear h392
              go_wp2_with fail
              refine (writeByte_any w1.heap.size w1.heap.size _ d2 _ HB.out hlb hsz).mono ?_
              rintro e w3 ⟨rfl, h3, b3⟩
              have hb4 : Lib.IsBuilder 81 5 w1.heap.size w1.heap.size (Lib.byteCells (l ++ [39])) w3 := Or.inr (by rw [HD2.out] at h3; simpa [Lib.byteCells] using h3)
              go_wp2_with fail
              go_roundg (gk - 2)
              · exact ⟨i + 2, l ++ [39], by omega, by go_num, Lib.hid ⟨by rw [List.length_append]; simp; omega, HI2.out⟩, hb4, HBB.out.trans b3⟩
              · omega
            · have e3 : (d2 == 39) = false := by simpa using h392
              have e4 : (d2 != 39) = true := by simpa using h392
              have HRT := Lib.hid (quoO_none (s := s.data.toList) (by rw [HQ.out, HI.out.2, HDR.out, HDR2.out, HEQ.out, inQ_no (HBC2.out.2 h392)]; rfl))
              clear h392
              go_wp2
              rw [Exit.noGoto_ret]
              refine bodyPost_ret (v := .tuple #[.string ⟨#[]⟩, .bool false]) (by simp [results, Tryd.results46, go_sem]) rfl ⟨HRT.out.symm, HBB.out⟩
      · obtain rfl : i = D.size := by omega
        have hi1 : (D.size : Int) ≤ (D.size : Int) := by omega
        have HRT := Lib.hid (quoO_none (s := s.data.toList) (by rw [HQ.out, HI.out.2, List.drop_of_length_le (by simp)]; rfl))
        go_wp2
        rw [Exit.noGoto_ret]
        refine bodyPost_ret (v := .tuple #[.string ⟨#[]⟩, .bool false]) (by simp [results, Tryd.results46, go_sem]) rfl ⟨HRT.out.symm, HBB.out⟩
end Go.Proofs.YtabbiepafibmmaaDoor
