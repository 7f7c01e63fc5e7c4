/- The walk of the law LexPrints. Conditions: the slices read so; what the tables hold. -/
import Derived.Test.YtnpicnddcoaboaaGreatDoorLxQ
namespace Go.Proofs.YtnpicnddcoaboaaGreatDoor
open Go.RowKit
theorem Tryz.tokInfoN : (Tryz.prog.info? 29).map (fun i => (i.zero, i.size, i.bytes)) = some (some (.agg #[.int .i64 0, .int .i64 0, .string ByteArray.empty, .int .u64 0]), 4, 40) := by kernel_rfl
set_option maxRecDepth 100000 in
set_option maxHeartbeats 16000000 in
theorem prints_walk (A : Option Addr) (n c : Nat) (l : List Tk) (B : Option Addr) (m d : Nat) (o : List Tk) (w : World) (hl : LT.rd w AllB A n l) (hn : n ≤ 9223372036854775807) (hr : ∀ x ∈ l, x.n < 18446744073709551616) (ho : LT.rd w AllB B m o) (hm : m ≤ 9223372036854775807) (_hro : ∀ x ∈ o, x.n < 18446744073709551616) (hT : Tab w) :
    Calls Tryz.prog 4 #[.slice A n c, .slice B m d] w fun e w' => e = .returned (.bool true) ∧ Below w.heap.size w w' := by
  have HT := Lib.hid hT
  have HL := Lib.hid hl
  have HO := Lib.hid ho
  have HR := Lib.hid hr
  have HM := Lib.hid hm
  clear hT hl ho hr hm
  go_enter Tryz.func4, Tryz.ntmps4
  go_wp2_with fail
  refine (wakes_any _ HT.out).mono ?_
  rintro e w2 ⟨rfl, q2⟩
  have HT2 := Lib.hid (HT.out.below q2)
  have HL2 := Lib.hid (Lay.rd_below HL.out q2)
  have HO2 := Lib.hid (Lay.rd_below HO.out q2)
  have HQ2 := Lib.hid q2
  clear q2 HT HL HO
  by_cases h300 : 300 < n
  · have h3 : 300 < (n : Int) := by omega
    clear h300
    go_wp2
    go_ret
    exact ⟨rfl, HQ2.out⟩
  have h3 : (n : Int) ≤ 300 := by omega
  by_cases h301 : 300 < m
  · have h4 : 300 < (m : Int) := by omega
    clear h300 h301
    go_wp2
    go_ret
    exact ⟨rfl, HQ2.out⟩
  have h4 : (m : Int) ≤ 300 := by omega
  have HN := Lib.hid (show n ≤ 300 by omega)
  clear h300 h301 hn
  go_wp2_with fail
  go_loopg [5, 22] n (fun g a b wr => ∃ (i : Nat) (r : Bool), i + g = n ∧ a = .bool r ∧ b = .int .i64 i ∧ Hid (r = (l.take i).all rightU ∧ ∀ t ∈ l.take i, t.text.length ≤ 1000) ∧ Below w2.heap.size w2 wr)
  case atStart => exact ⟨0, true, by omega, rfl, rfl, Lib.hid ⟨rfl, by simp⟩, Below.refl _ _⟩
  case round =>
    obtain ⟨i, r, hig, rfl, rfl, HI, hb⟩ := hrel
    have HB := Lib.hid hb
    by_cases hlt : i < n
    · have hi1 : (i : Int) < (n : Int) := by omega
      obtain ⟨ad, t, rfl, hx, st⟩ := LT_at (Lay.rd_below HL2.out hb) hlt
      have e0 := st.c0
      have e1 := st.c1
      have e2 := st.c2
      have e3 := st.c3
      have HX := Lib.hid hx
      have HTT := Lib.hid (HR.out t (List.mem_of_getElem? hx))
      have HA := Lib.hid (all_take rightU hx)
      have HTK := Lib.hid (show l.take (i + 1) = l.take i ++ [t] from by rw [List.take_add_one, hx]; rfl)
      have q5 := bl_al (Below.refl wr.heap.size wr) (.cells #[.int .i64 t.kind, .int .i64 t.at_, .string (bS t.text), .int .u64 (t.n : Int)] 29)
      have HQ5 := Lib.hid q5
      clear st hx hb q5
      obtain ⟨k, a, tx, tn⟩ := t
      simp only at *
      by_cases h1000 : 1000 < tx.length
      · have z1 : 1000 < ((bS tx).size : Int) := by have := len_data (bS tx); simp only [bS] at *; omega
        have z2 : 1000 < (tx.length : Int) := by omega
        clear h1000
        go_wp2
        go_ret
        exact ⟨rfl, bl_ca HQ2.out (bl_ca HB.out HQ5.out)⟩
      · have z1 : ((bS tx).size : Int) ≤ 1000 := by have := len_data (bS tx); simp only [bS] at *; omega
        have z2 : (tx.length : Int) ≤ 1000 := by omega
        have HZ := Lib.hid (show tx.length ≤ 1000 by omega)
        clear h1000
        cases r
        · go_wp2
          go_roundg (gk - 1)
          · exact ⟨i + 1, false, by omega, rfl, by go_num, Lib.hid ⟨by rw [HA.out, ← HI.out.1]; rfl, fun t ht => by
              rw [HTK.out] at ht
              rcases List.mem_append.1 ht with ht | ht
              · exact HI.out.2 t ht
              · rw [List.mem_singleton.1 ht]; exact HZ.out⟩, bl_ca HB.out HQ5.out⟩
          · omega
        · go_wp2_with fail
          refine (rright_any k a tx tn _ HZ.out HTT.out).mono ?_
          rintro e w6 ⟨rfl, q6⟩
          have HQ6 := Lib.hid (bl_ca HQ5.out q6)
          clear q6 e0 e1 e2 e3
          go_wp2
          go_roundg (gk - 1)
          · exact ⟨i + 1, _, by omega, rfl, by go_num, Lib.hid ⟨by rw [HA.out, ← HI.out.1]; rfl, fun t ht => by
              rw [HTK.out] at ht
              rcases List.mem_append.1 ht with ht | ht
              · exact HI.out.2 t ht
              · rw [List.mem_singleton.1 ht]; exact HZ.out⟩, bl_ca HB.out HQ6.out⟩
          · omega
    · obtain rfl : i = n := by omega
      have hi1 : (i : Int) ≤ (i : Int) := by omega
      have HI2 := Lib.hid (show r = l.all rightU ∧ ∀ t ∈ l, t.text.length ≤ 1000 ∧ t.n < 18446744073709551616 from by
        have h1 := HI.out
        rw [List.take_of_length_le (by rw [Lay.rd_len HL2.out]; exact Nat.le_refl _)] at h1
        exact ⟨h1.1, fun t ht => ⟨h1.2 t ht, HR.out t ht⟩⟩)
      have HT3 := Lib.hid (HT2.out.below hb)
      have HL3 := Lib.hid (Lay.rd_below HL2.out hb)
      have HO3 := Lib.hid (Lay.rd_below HO2.out hb)
      have HQ3 := Lib.hid (bl_ca HQ2.out hb)
      clear hb HI HT2 HL2 HO2 HB HQ2 HR
      obtain ⟨w1, rfl⟩ : ∃ x, x = wr := ⟨_, rfl⟩
      have HLA := Lib.hid (Lay.rd_below (rd_lt HL3.out) (bl_al (Below.refl w1.heap.size w1) (.cells #[] 29)))
      have HQA := Lib.hid (bl_al (Below.refl w1.heap.size w1) (.cells #[] 29))
      go_wp2_with (at_builtin; refine wpList_appLs (L := LT) (e := 29) rfl (.tmp 37) (.tmp 38) 23 rfl (.agg #[.int .i64 0, .int .i64 0, .string ByteArray.empty, .int .u64 0]) 4 40 Tryz.underlying23 Tryz.tokInfoN rfl rfl (by decide) w1.heap.size (fun b => AllB b ∧ b < w1.heap.size) (fun b => AllB b ∧ b < w1.heap.size) (some ⟨w1.heap.size, 0, none⟩) 0 0 [] A i c l i (by omega) rfl rfl (Lay.own_empty LT w1 29 _ (by decide)) HLA.out (fun b hb _ => ⟨hb, fun e => by have e2 : w1.heap.size = b := Option.some.inj e; have := hb.2; omega⟩) (fun b hb => by have := hb.2; simp only [World.size_alloc]; omega) (by have := HN.out; omega) (by have := HN.out; unfold maxLen; omega) (by simp only [World.size_alloc]; omega) ?_; intro A6 c6 w6 ho6 hg6 hat6)
      have hg6' : World.grownBy _ w6 (some w1.heap.size) := hg6
      have q6 : Below w1.heap.size w1 w6 := bl_gr HQA.out hg6' (Nat.le_refl _)
      have HR6 := Lib.hid (show LT.rd w6 AllB A6 i l from Lay.own_rd2 ho6 (fun _ _ => trivial) (fun _ _ _ => trivial))
      have HQ6 := Lib.hid (bl_ca HQ3.out q6)
      have HT6 := Lib.hid (HT3.out.below q6)
      have HL6 := Lib.hid (Lay.rd_below HL3.out q6)
      have HO6 := Lib.hid (Lay.rd_below HO3.out q6)
      clear hg6' hg6 ho6 hat6 q6 HT3 HL3 HO3 HQ3 HLA HQA
      go_wp2_with fail
      refine (lprint_any A6 i c6 l _ HR6.out (by have := HN.out; omega) HI2.out.2 HT6.out).mono ?_
      rintro e w7 ⟨hp, q7⟩
      unfold PrE at hp
      rw [← HI2.out.1] at hp
      have HQ7 := Lib.hid (bl_ca HQ6.out q7)
      have HL7 := Lib.hid (Lay.rd_below HL6.out q7)
      have HO7 := Lib.hid (Lay.rd_below HO6.out q7)
      obtain ⟨P, er, rfl, hP⟩ : ∃ P er, e = .returned (.tuple #[.string P, .int .i64 er]) ∧ (if r then P = bS (joinU l) ∧ er = 0 else P = ⟨#[]⟩ ∧ er = 171) := by
        cases r
        · exact ⟨_, _, hp, rfl, rfl⟩
        · exact ⟨_, _, hp, rfl, rfl⟩
      have HP := Lib.hid hP
      clear hp hP q7 HT6 HL6 HO6 HQ6 HR6
      go_wp2_with fail
      refine (lsame_any l o A i c B m d _ HL7.out HO7.out (by have := HN.out; omega)).mono ?_
      rintro e w8 ⟨rfl, q8⟩
      have HQ8 := Lib.hid (bl_ca HQ7.out q8)
      have HL8 := Lib.hid (Lay.rd_below HL7.out q8)
      have HO8 := Lib.hid (Lay.rd_below HO7.out q8)
      clear q8 HL7 HO7 HQ7
      go_wp2_with fail
      refine (rsame_any A B i c m d l o _ HL8.out HO8.out (by have := HN.out; omega) HM.out).mono ?_
      rintro e w9 ⟨rfl, q9⟩
      have HQ9 := Lib.hid (bl_ca HQ8.out q9)
      have HL9 := Lib.hid (Lay.rd_below HL8.out q9)
      have HSS := Lib.hid (show sameU l l = true from decide_eq_true rfl)
      obtain ⟨b, hbb⟩ : ∃ b, b = sameU l o := ⟨_, rfl⟩
      rw [← hbb]
      have x1 : (b != b) = false := by cases b <;> rfl
      have x2 : (b == b) = true := by cases b <;> rfl
      clear q9 HL8 HO8 HQ8 hbb
      go_wp2_with fail
      refine (lsame_any l l A i c A i c _ HL9.out HL9.out (by have := HN.out; omega)).mono ?_
      rintro e w10 ⟨rfl, q10⟩
      rw [HSS.out]
      have HQ10 := Lib.hid (bl_ca HQ9.out q10)
      have HL10 := Lib.hid (Lay.rd_below HL9.out q10)
      clear q10 HL9 HQ9
      cases r
      case false =>
        obtain ⟨hP1, hP2⟩ := HP.out
        subst hP1 hP2
        go_wp2
        go_ret
        exact ⟨rfl, HQ10.out⟩
      case true =>
        obtain ⟨hP1, hP2⟩ := HP.out
        subst hP1 hP2
        go_wp2_with fail
        refine (rprint_any A i c l _ HL10.out HN.out HI2.out.2).mono ?_
        rintro e w11 ⟨rfl, q11⟩
        have HQ11 := Lib.hid (bl_ca HQ10.out q11)
        clear q11
        go_wp2
        go_ret
        exact ⟨rfl, HQ11.out⟩
end Go.Proofs.YtnpicnddcoaboaaGreatDoor
