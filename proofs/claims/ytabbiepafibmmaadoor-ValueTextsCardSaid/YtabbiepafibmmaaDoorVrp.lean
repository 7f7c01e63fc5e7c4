/- The reference's Parse, of every text. Conditions: at most 1000 bytes. -/
import Derived.Test.YtabbiepafibmmaaDoorVn
import Derived.Test.YtabbiepafibmmaaDoorVpa
import Derived.Test.YtabbiepafibmmaaDoorRefC
namespace Go.Proofs.YtabbiepafibmmaaDoor
open Go.RowKit
def rpR (s : ByteArray) : Ending := match parseR s.data.toList with
  | some l => .returned (.tuple #[.agg #[.int .i64 l.vv.k, .int .i64 l.vv.n, .int .u64 l.vv.u, .string l.vv.s], .bool true])
  | none => .returned (.tuple #[.agg #[.int .i64 0, .int .i64 0, .int .u64 0, .string ⟨#[]⟩], .bool false])
theorem rpR_some {s : ByteArray} {l : LV} (h : parseR s.data.toList = some l) : rpR s = .returned (.tuple #[.agg #[.int .i64 l.vv.k, .int .i64 l.vv.n, .int .u64 l.vv.u, .string l.vv.s], .bool true]) := by unfold rpR; rw [h]
theorem rpR_none {s : ByteArray} (h : parseR s.data.toList = none) : rpR s = .returned (.tuple #[.agg #[.int .i64 0, .int .i64 0, .int .u64 0, .string ⟨#[]⟩], .bool false]) := by unfold rpR; rw [h]
/-- what is no word and no number -/
theorem rparse_rest {s : List UInt8} (h0 : s ≠ wN) (h1 : s ≠ wF) (h2 : s ≠ wT) (hi : intR s = none) : parseR s = match quoR s with
    | some t => if t.length ≤ 40 then some ⟨3, 0, t⟩ else none
    | none => none := by
  unfold parseR
  rw [if_neg h0, if_neg h1, if_neg h2, hi]
  rfl
theorem rparse_num {s : List UInt8} {n : Int} (h0 : s ≠ wN) (h1 : s ≠ wF) (h2 : s ≠ wT) (hi : intR s = some n) : parseR s = some ⟨2, n, []⟩ := by
  unfold parseR
  rw [if_neg h0, if_neg h1, if_neg h2, hi]
theorem outF_ne {b : UInt8} (h : b ≠ 39) (r : List UInt8) : outF (b :: r) = b :: outF r := by
  cases r with
  | nil => rfl
  | cons c r => rw [outF, if_neg h]
theorem outF_q (r : List UInt8) : outF (39 :: r) = 39 :: outF (r.drop 1) := by
  cases r with
  | nil => rfl
  | cons c r => rw [outF, if_pos rfl]; rfl
theorem nuR_some {s : ByteArray} {n : Int} (h : intR s.data.toList = some n) : nuR s = .returned (.tuple #[.int .i64 n, .bool true]) := by
  unfold intR at h
  split at h
  · rename_i h1
    injection h with h
    unfold nuR
    rw [if_neg (by rw [← len_data]; omega), decide_eq_true h1.2, h]
  · cases h
theorem nuR_none {s : ByteArray} (h : intR s.data.toList = none) : ∃ n, nuR s = .returned (.tuple #[.int .i64 n, .bool false]) := by
  unfold intR at h
  split at h
  · cases h
  · rename_i h1
    unfold nuR
    by_cases hl : 20 < s.size
    · exact ⟨_, if_pos hl⟩
    · refine ⟨numR s.data.toList, ?_⟩
      rw [if_neg hl, decide_eq_false (fun e => h1 ⟨by rw [len_data]; omega, e⟩)]
theorem mid_len (l : List UInt8) : (midU l).length = l.length - 2 := by unfold midU; rw [List.length_take, List.length_drop]; omega
theorem mid_drop {l : List UInt8} {i : Nat} {b : UInt8} (h : i + 2 < l.length) (hb : l[i + 1]? = some b) : (midU l).drop i = b :: (midU l).drop (i + 1) := by
  apply drop_at
  unfold midU
  rw [List.getElem?_take, if_pos (by omega), List.getElem?_drop, Nat.add_comm 1 i, hb]
theorem trv0 (w : World) : Sem.run Tryd.prog (Instr.index 58 (.agg #[.int .i64 0, .int .i64 0, .int .u64 0, .string ⟨#[]⟩, .int .i64 1, .int .i64 0, .int .u64 0, .string ⟨#[]⟩, .int .i64 1, .int .i64 1, .int .u64 0, .string ⟨#[]⟩]) (.int .i64 0)) w = .ok (.agg #[.int .i64 0, .int .i64 0, .int .u64 0, .string ⟨#[]⟩]) w := by kernel_rfl
theorem trv1 (w : World) : Sem.run Tryd.prog (Instr.index 58 (.agg #[.int .i64 0, .int .i64 0, .int .u64 0, .string ⟨#[]⟩, .int .i64 1, .int .i64 0, .int .u64 0, .string ⟨#[]⟩, .int .i64 1, .int .i64 1, .int .u64 0, .string ⟨#[]⟩]) (.int .i64 1)) w = .ok (.agg #[.int .i64 1, .int .i64 0, .int .u64 0, .string ⟨#[]⟩]) w := by kernel_rfl
theorem trv2 (w : World) : Sem.run Tryd.prog (Instr.index 58 (.agg #[.int .i64 0, .int .i64 0, .int .u64 0, .string ⟨#[]⟩, .int .i64 1, .int .i64 0, .int .u64 0, .string ⟨#[]⟩, .int .i64 1, .int .i64 1, .int .u64 0, .string ⟨#[]⟩]) (.int .i64 2)) w = .ok (.agg #[.int .i64 1, .int .i64 1, .int .u64 0, .string ⟨#[]⟩]) w := by kernel_rfl
set_option maxRecDepth 100000 in
set_option maxHeartbeats 4000000 in
theorem rparse_any (s : ByteArray) (hs : s.size ≤ 1000) (w : World) : Calls Tryd.prog 17 #[.string s] w fun e w' => e = rpR s ∧ Below w.heap.size w w' := by
  have HR1 := Lib.hid (Blk.new w 28 #[.int .i64 0, .int .i64 0, .int .u64 0, .string ⟨#[]⟩])
  have HB1 := Lib.hid (bl_al (Below.refl w.heap.size w) (.cells #[.int .i64 0, .int .i64 0, .int .u64 0, .string ⟨#[]⟩] 28))
  have HS := Lib.hid hs
  clear hs
  go_enter Tryd.func17, Tryd.ntmps17
  go_wp2_with fail
  generalize w.alloc (.cells #[.int .i64 0, .int .i64 0, .int .u64 0, .string ⟨#[]⟩] 28) = w1 at *
  refine (rbool_false w1).mono ?_
  rintro e w2 ⟨rfl, q2⟩
  have HR2 := Lib.hid (HR1.out.ca q2)
  have HB2 := Lib.hid (bl_ca HB1.out q2)
  clear q2
  go_wp2_with fail
  refine (rbool_true w2).mono ?_
  rintro e w3 ⟨rfl, q3⟩
  have HR3 := Lib.hid (HR2.out.ca q3)
  have HB3 := Lib.hid (bl_ca HB2.out q3)
  clear q3
  go_wp2_with fail
  go_loopg [15] 3 (fun g a wr => ∃ (i : Nat), i + g ≤ 3 ∧ 3 ≤ i + g ∧ a = .int .i64 i ∧ Hid (Below w3.heap.size w3 wr) ∧ Hid ((0 < i → s.data.toList ≠ wN) ∧ (1 < i → s.data.toList ≠ wF) ∧ (2 < i → s.data.toList ≠ wT)))
  case atStart => exact ⟨0, by omega, by omega, rfl, Lib.hid (Below.refl _ _), Lib.hid ⟨fun h => absurd h (by omega), fun h => absurd h (by omega), fun h => absurd h (by omega)⟩⟩
  case round =>
    obtain ⟨i, hi1, hi2, rfl, HBR, HI⟩ := hrel
    rcases (show i = 0 ∨ i = 1 ∨ i = 2 ∨ i = 3 from by omega) with rfl | rfl | rfl | rfl
    · have hw := trv0 wr
      have HV4 := Lib.hid (Blk.new wr 28 #[.int .i64 0, .int .i64 0, .int .u64 0, .string ⟨#[]⟩])
      have HB4 := Lib.hid (bl_al HBR.out (.cells #[.int .i64 0, .int .i64 0, .int .u64 0, .string ⟨#[]⟩] 28))
      have HPR := Lib.hid (fun w => rprint_any 0 0 0 ⟨#[]⟩ w (by omega) (by decide))
      rw [show (⟨0, 0, (⟨#[]⟩ : ByteArray).data.toList⟩ : LV).lit = wN from rfl] at HPR
      go_wp2_with fail
      have hsz := HBR.out.size
      generalize wr.alloc (.cells #[.int .i64 0, .int .i64 0, .int .u64 0, .string ⟨#[]⟩] 28) = w4 at *
      refine (HPR.out w4).mono ?_
      rintro e w5 ⟨rfl, q5⟩
      have HB5 := Lib.hid (bl_ca HB4.out q5)
      have HV5 := Lib.hid (HV4.out.ca q5)
      have HR5 := Lib.hid (HR3.out.ca HB5.out)
      clear q5
      by_cases he : s.data.toList = wN
      · have t : ((bS wN).toList == s.toList) = true := bs_eq (bS_of he)
        have HR := Lib.hid (rpR_some (l := ⟨0, 0, []⟩) (s := s) (by unfold parseR; rw [he]; rfl))
        clear he
        have v0 : w5.cell? ⟨wr.heap.size, 0, none⟩ = some (.int .i64 0) := HV5.out.cell 0
        have v1 : w5.cell? ⟨wr.heap.size, 1, none⟩ = some (.int .i64 0) := HV5.out.cell 1
        have v2 : w5.cell? ⟨wr.heap.size, 2, none⟩ = some (.int .u64 0) := HV5.out.cell 2
        have v3 : w5.cell? ⟨wr.heap.size, 3, none⟩ = some (.string ⟨#[]⟩) := HV5.out.cell 3
        go_wp2_with (refine wpList_store_blk rfl 28 (.tmp 2) (.tmp 22) rfl w.heap.size 28 _ _ rfl rfl HR5.out rfl valI (one4 _ _ _ _) ?_; intro wz hZ gz)
        exact bodyPost_ret (res2 Tryd.results17 rfl rfl hZ Tryd.underlying28 rfl valI) rfl ⟨HR.out.symm, bl_gr (Lib.hid (bl_ca HB3.out HB5.out)).out gz (Nat.le_refl _)⟩
      · have t : ((bS wN).toList == s.toList) = false := bs_ne (bS_data _) he
        have HE := Lib.hid he
        clear he
        go_wp2_with fail
        go_roundg (gk - 1)
        · exact ⟨1, by omega, by omega, by go_num, HB5, Lib.hid ⟨fun _ => HE.out, fun h => absurd h (by omega), fun h => absurd h (by omega)⟩⟩
        · omega
    · have hw := trv1 wr
      have HV4 := Lib.hid (Blk.new wr 28 #[.int .i64 1, .int .i64 0, .int .u64 0, .string ⟨#[]⟩])
      have HB4 := Lib.hid (bl_al HBR.out (.cells #[.int .i64 1, .int .i64 0, .int .u64 0, .string ⟨#[]⟩] 28))
      have HPR := Lib.hid (fun w => rprint_any 1 0 0 ⟨#[]⟩ w (by omega) (by decide))
      rw [show (⟨1, 0, (⟨#[]⟩ : ByteArray).data.toList⟩ : LV).lit = wF from rfl] at HPR
      go_wp2_with fail
      have hsz := HBR.out.size
      generalize wr.alloc (.cells #[.int .i64 1, .int .i64 0, .int .u64 0, .string ⟨#[]⟩] 28) = w4 at *
      refine (HPR.out w4).mono ?_
      rintro e w5 ⟨rfl, q5⟩
      have HB5 := Lib.hid (bl_ca HB4.out q5)
      have HV5 := Lib.hid (HV4.out.ca q5)
      have HR5 := Lib.hid (HR3.out.ca HB5.out)
      clear q5
      by_cases he : s.data.toList = wF
      · have t : ((bS wF).toList == s.toList) = true := bs_eq (bS_of he)
        have HR := Lib.hid (rpR_some (l := ⟨1, 0, []⟩) (s := s) (by unfold parseR; rw [he]; rfl))
        clear he
        have v0 : w5.cell? ⟨wr.heap.size, 0, none⟩ = some (.int .i64 1) := HV5.out.cell 0
        have v1 : w5.cell? ⟨wr.heap.size, 1, none⟩ = some (.int .i64 0) := HV5.out.cell 1
        have v2 : w5.cell? ⟨wr.heap.size, 2, none⟩ = some (.int .u64 0) := HV5.out.cell 2
        have v3 : w5.cell? ⟨wr.heap.size, 3, none⟩ = some (.string ⟨#[]⟩) := HV5.out.cell 3
        go_wp2_with (refine wpList_store_blk rfl 28 (.tmp 2) (.tmp 22) rfl w.heap.size 28 _ _ rfl rfl HR5.out rfl valI (one4 _ _ _ _) ?_; intro wz hZ gz)
        exact bodyPost_ret (res2 Tryd.results17 rfl rfl hZ Tryd.underlying28 rfl valI) rfl ⟨HR.out.symm, bl_gr (Lib.hid (bl_ca HB3.out HB5.out)).out gz (Nat.le_refl _)⟩
      · have t : ((bS wF).toList == s.toList) = false := bs_ne (bS_data _) he
        have HE := Lib.hid he
        clear he
        go_wp2_with fail
        go_roundg (gk - 1)
        · exact ⟨2, by omega, by omega, by go_num, HB5, Lib.hid ⟨fun _ => HI.out.1 (by omega), fun _ => HE.out, fun h => absurd h (by omega)⟩⟩
        · omega
    · have hw := trv2 wr
      have HV4 := Lib.hid (Blk.new wr 28 #[.int .i64 1, .int .i64 1, .int .u64 0, .string ⟨#[]⟩])
      have HB4 := Lib.hid (bl_al HBR.out (.cells #[.int .i64 1, .int .i64 1, .int .u64 0, .string ⟨#[]⟩] 28))
      have HPR := Lib.hid (fun w => rprint_any 1 1 0 ⟨#[]⟩ w (by omega) (by decide))
      rw [show (⟨1, 1, (⟨#[]⟩ : ByteArray).data.toList⟩ : LV).lit = wT from rfl] at HPR
      go_wp2_with fail
      have hsz := HBR.out.size
      generalize wr.alloc (.cells #[.int .i64 1, .int .i64 1, .int .u64 0, .string ⟨#[]⟩] 28) = w4 at *
      refine (HPR.out w4).mono ?_
      rintro e w5 ⟨rfl, q5⟩
      have HB5 := Lib.hid (bl_ca HB4.out q5)
      have HV5 := Lib.hid (HV4.out.ca q5)
      have HR5 := Lib.hid (HR3.out.ca HB5.out)
      clear q5
      by_cases he : s.data.toList = wT
      · have t : ((bS wT).toList == s.toList) = true := bs_eq (bS_of he)
        have HR := Lib.hid (rpR_some (l := ⟨1, 1, []⟩) (s := s) (by unfold parseR; rw [he]; rfl))
        clear he
        have v0 : w5.cell? ⟨wr.heap.size, 0, none⟩ = some (.int .i64 1) := HV5.out.cell 0
        have v1 : w5.cell? ⟨wr.heap.size, 1, none⟩ = some (.int .i64 1) := HV5.out.cell 1
        have v2 : w5.cell? ⟨wr.heap.size, 2, none⟩ = some (.int .u64 0) := HV5.out.cell 2
        have v3 : w5.cell? ⟨wr.heap.size, 3, none⟩ = some (.string ⟨#[]⟩) := HV5.out.cell 3
        go_wp2_with (refine wpList_store_blk rfl 28 (.tmp 2) (.tmp 22) rfl w.heap.size 28 _ _ rfl rfl HR5.out rfl valI (one4 _ _ _ _) ?_; intro wz hZ gz)
        exact bodyPost_ret (res2 Tryd.results17 rfl rfl hZ Tryd.underlying28 rfl valI) rfl ⟨HR.out.symm, bl_gr (Lib.hid (bl_ca HB3.out HB5.out)).out gz (Nat.le_refl _)⟩
      · have t : ((bS wT).toList == s.toList) = false := bs_ne (bS_data _) he
        have HE := Lib.hid he
        clear he
        go_wp2_with fail
        go_roundg (gk - 1)
        · exact ⟨3, by omega, by omega, by go_num, HB5, Lib.hid ⟨fun _ => HI.out.1 (by omega), fun _ => HI.out.2.1 (by omega), fun _ => HE.out⟩⟩
        · omega
    · have HN := Lib.hid (And.intro (HI.out.1 (by omega)) (And.intro (HI.out.2.1 (by omega)) (HI.out.2.2 (by omega))))
      have HNU := Lib.hid (number_any s HS.out wr)
      go_wp2_with fail
      refine HNU.out.mono ?_
      rintro e w4 ⟨he, q4⟩
      have HB4 := Lib.hid (bl_ca HBR.out q4)
      have HR4 := Lib.hid (HR3.out.ca HB4.out)
      clear q4
      cases hi : intR s.data.toList with
      | some n =>
        have HR := Lib.hid (rpR_some (rparse_num HN.out.1 HN.out.2.1 HN.out.2.2 hi))
        rw [show (⟨2, n, []⟩ : LV).vv = VI n from rfl] at HR
        have HE : e = .returned (.tuple #[.int .i64 n, .bool true]) := he.trans (nuR_some hi)
        subst HE
        clear hi he
        go_wp2_with fail
        refine (rint_any n w4).mono ?_
        rintro e w5 ⟨rfl, q5⟩
        have HB5 := Lib.hid (bl_ca HB4.out q5)
        have HR5 := Lib.hid (HR3.out.ca HB5.out)
        clear q5
        go_wp2_with (refine wpList_store_blk rfl 28 (.tmp 2) (.tmp 31) rfl w.heap.size 28 _ _ rfl rfl HR5.out rfl valI (one4 _ _ _ _) ?_; intro wz hZ gz)
        exact bodyPost_ret (res2 Tryd.results17 rfl rfl hZ Tryd.underlying28 rfl valI) rfl ⟨HR.out.symm, bl_gr (Lib.hid (bl_ca HB3.out HB5.out)).out gz (Nat.le_refl _)⟩
      | none =>
        obtain ⟨n, hn⟩ := nuR_none hi
        have HE : e = .returned (.tuple #[.int .i64 n, .bool false]) := he.trans hn
        subst HE
        have HPR := Lib.hid (rparse_rest HN.out.1 HN.out.2.1 HN.out.2.2 hi)
        clear hi he hn
        have HOW := Lib.hid (OwnB.none_ w4 w4.heap.size)
        have HLS := Lib.hid (len_data s)
        go_wp2_with fail
        go_loopg [8, 9] s.size (fun g a b wr => ∃ (i m c : Nat) (A : Option Addr) (l : List UInt8), i + g = s.size ∧ a = .slice A m c ∧ b = .int .i64 ((i : Int) + 1) ∧ m ≤ i ∧ OwnB wr w4.heap.size A m c l ∧ Hid (outF (midU s.data.toList) = l ++ outF ((midU s.data.toList).drop i)) ∧ Hid (Below w4.heap.size w4 wr))
        case atStart => exact ⟨0, 0, 0, none, [], by omega, rfl, rfl, Nat.le_refl _, HOW.out, Lib.hid rfl, Lib.hid (Below.refl _ _)⟩
        case round =>
          obtain ⟨i, m, c, A, l, hig, rfl, rfl, hmi, ho, HJ, HBQ⟩ := hrel
          have HO := Lib.hid ho
          have hsz := HBQ.out.size
          have hs9 := HS.out
          clear ho
          by_cases hlt : i + 2 < s.size
          · have hi1 : (i : Int) + 1 < (s.size : Int) - 1 := by omega
            have hi0 : 0 ≤ (i : Int) + 1 := by omega
            obtain ⟨b, hb⟩ := byte_at (s := s) (i := i + 1) (by omega)
            have hix : ∀ W, (Instr.index 9 (.string s) (.int .i64 ((i : Int) + 1))).run Tryd.prog W = .ok (.int .u8 (b.toNat : Int)) W := fun W => by have := run_bt hb W; rwa [Int.natCast_add] at this
            have HDR := Lib.hid (mid_drop (i := i) (by rw [HLS.out]; exact hlt) hb)
            clear hb
            have HBC := Lib.hid (show b = 39 ↔ (b.toNat : Int) = 39 from ⟨fun e => by rw [e]; rfl, fun e => UInt8.toNat_inj.1 (by show b.toNat = 39; omega)⟩)
            obtain ⟨d, hd⟩ : ∃ d, d = (b.toNat : Int) := ⟨_, rfl⟩
            have HVB := Lib.hid (show Value.int .u8 d = vb b from by rw [hd]; rfl)
            rw [← hd] at hix HBC
            clear hd
            go_upto_region 15 with (at_builtin; refine wpList_appB rfl (.tmp 39) (.tmp 43) rfl w4.heap.size A m c _ (some ⟨wr.heap.size, 0, none⟩) 1 1 [b] rfl rfl (HO.out.alloc _) (RdB.one wr b _ HVB.out _) (by omega) (by simp only [World.size_alloc]; omega) ?_; intro A1 c1 w5 ho2 hb2)
            have HO2 := Lib.hid ho2
            have HB2q := Lib.hid (HBQ.out.trans (((Below.refl _ _).alloc hsz _).trans hb2))
            clear ho2 hb2
            by_cases h39 : d = 39
            · have e1 : (d == 39) = true := by simpa using h39
              have HJ2 := Lib.hid (show outF (midU s.data.toList) = (l ++ [b]) ++ outF ((midU s.data.toList).drop (i + 2)) from by rw [HJ.out, HDR.out, HBC.out.2 h39, outF_q, List.drop_drop, List.append_assoc]; rfl)
              clear h39
              go_wp2_with fail
              go_roundg (gk - 2)
              · exact ⟨i + 2, m + 1, c1, A1, l ++ [b], by omega, rfl, by go_num, by omega, HO2.out, HJ2, HB2q⟩
              · omega
            · have e1 : (d == 39) = false := by simpa using h39
              have HJ2 := Lib.hid (show outF (midU s.data.toList) = (l ++ [b]) ++ outF ((midU s.data.toList).drop (i + 1)) from by rw [HJ.out, HDR.out, outF_ne (fun e => h39 (HBC.out.1 e)), List.append_assoc]; rfl)
              clear h39
              go_wp2_with fail
              go_roundg (gk - 1)
              · exact ⟨i + 1, m + 1, c1, A1, l ++ [b], by omega, rfl, by go_num, by omega, HO2.out, HJ2, HB2q⟩
              · omega
          · have hi1 : (s.size : Int) - 1 ≤ (i : Int) + 1 := by omega
            have HJF := Lib.hid (show outF (midU s.data.toList) = l from by rw [HJ.out, List.drop_of_length_le (by have := mid_len s.data.toList; rw [HLS.out] at this; omega)]; simp [outF])
            have HLL := Lib.hid (show l.length = m from HO.out.rd.len)
            have hcv := HO.out.rd.str c
            rw [show (⟨l.toArray⟩ : ByteArray) = bS l from rfl] at hcv
            have HTX := Lib.hid (fun w => rtext_any (bS l) w)
            have HTS := Lib.hid (show (bS l).size = m from by rw [← len_data, bS_data]; exact HLL.out)
            have HPT := Lib.hid (fun w => rprint_any 3 0 0 (bS l) w (by omega) (by rw [HTS.out]; omega))
            rw [show (⟨3, 0, (bS l).data.toList⟩ : LV).lit = 39 :: (quoV l ++ [39]) from rfl] at HPT
            have HEQ := Lib.hid (show ((bS (39 :: (quoV l ++ [39]))).toList == s.toList) = decide (39 :: (quoV l ++ [39]) = s.data.toList) from by rw [toList_data, toList_data, bS_data, Bool.eq_iff_iff]; simp)
            have HRT := Lib.hid (fun w => right_any 3 0 0 (bS l) w)
            have HRB := Lib.hid (show rightB 3 0 0 (bS l) = decide (m ≤ 40) from by unfold rightB; rw [HTS.out]; simp)
            rw [HRB.out] at HRT
            have HPR2 := Lib.hid (show parseR s.data.toList = if 39 :: (quoV l ++ [39]) = s.data.toList then (if m ≤ 40 then some ⟨3, 0, l⟩ else none) else none from by rw [HPR.out]; unfold quoR; rw [HJF.out, ← HLL.out]; by_cases h9 : 39 :: (quoV l ++ [39]) = s.data.toList <;> simp [h9])
            generalize hL8 : bS l = L at *
            have HL8 := Lib.hid hL8
            clear hL8
            go_wp2_with fail
            refine (HTX.out wr).mono ?_
            rintro e w5 ⟨rfl, q5⟩
            have HB5 := Lib.hid (bl_al (bl_ca HBQ.out q5) (.cells #[.int .i64 3, .int .i64 0, .int .u64 0, .string L] 28))
            have HV5 := Lib.hid (Blk.new w5 28 #[.int .i64 3, .int .i64 0, .int .u64 0, .string L])
            clear q5 hcv
            go_upto_region 18 with fail
            obtain ⟨g5, hg5⟩ : ∃ g, g = w5.heap.size := ⟨_, rfl⟩
            rw [← hg5] at HV5 ⊢
            clear hg5
            generalize w5.alloc (.cells #[.int .i64 3, .int .i64 0, .int .u64 0, .string L] 28) = w6 at *
            have v0 : w6.cell? ⟨g5, 0, none⟩ = some (.int .i64 3) := HV5.out.cell 0
            have v1 : w6.cell? ⟨g5, 1, none⟩ = some (.int .i64 0) := HV5.out.cell 1
            have v2 : w6.cell? ⟨g5, 2, none⟩ = some (.int .u64 0) := HV5.out.cell 2
            have v3 : w6.cell? ⟨g5, 3, none⟩ = some (.string L) := HV5.out.cell 3
            go_wp2_with fail
            refine (HRT.out w6).mono ?_
            rintro e w7 ⟨rfl, q7⟩
            have HB7 := Lib.hid (bl_ca HB5.out q7)
            have HV7 := Lib.hid (HV5.out.ca q7)
            clear q7 v0 v1 v2 v3
            have v0 : w7.cell? ⟨g5, 0, none⟩ = some (.int .i64 3) := HV7.out.cell 0
            have v1 : w7.cell? ⟨g5, 1, none⟩ = some (.int .i64 0) := HV7.out.cell 1
            have v2 : w7.cell? ⟨g5, 2, none⟩ = some (.int .u64 0) := HV7.out.cell 2
            have v3 : w7.cell? ⟨g5, 3, none⟩ = some (.string L) := HV7.out.cell 3
            by_cases h40 : m ≤ 40
            · rw [decide_eq_true h40]
              have HPR3 := Lib.hid (show parseR s.data.toList = if 39 :: (quoV l ++ [39]) = s.data.toList then some ⟨3, 0, l⟩ else none from by rw [HPR2.out]; simp only [if_pos h40])
              clear h40
              go_wp2_with fail
              refine (HPT.out w7).mono ?_
              rintro e w8 ⟨rfl, q8⟩
              have HB8 := Lib.hid (bl_ca HB7.out q8)
              have HV8 := Lib.hid (HV7.out.ca q8)
              have HR8 := Lib.hid (HR4.out.ca HB8.out)
              clear q8 v0 v1 v2 v3
              have v0 : w8.cell? ⟨g5, 0, none⟩ = some (.int .i64 3) := HV8.out.cell 0
              have v1 : w8.cell? ⟨g5, 1, none⟩ = some (.int .i64 0) := HV8.out.cell 1
              have v2 : w8.cell? ⟨g5, 2, none⟩ = some (.int .u64 0) := HV8.out.cell 2
              have v3 : w8.cell? ⟨g5, 3, none⟩ = some (.string L) := HV8.out.cell 3
              have heq := HEQ.out
              by_cases h9 : 39 :: (quoV l ++ [39]) = s.data.toList
              · rw [decide_eq_true h9] at heq
                have HR := Lib.hid (rpR_some (HPR3.out.trans (if_pos h9)))
                rw [show (⟨3, 0, l⟩ : LV).vv = VT L from by rw [← HL8.out]; rfl] at HR
                clear h9
                generalize bS (39 :: (quoV l ++ [39])) = T at *
                go_wp2_with (refine wpList_store_blk rfl 28 (.tmp 2) (.tmp 62) rfl w.heap.size 28 _ _ rfl rfl HR8.out rfl valI (one4 _ _ _ _) ?_; intro wz hZ gz)
                exact bodyPost_ret (res2 Tryd.results17 rfl rfl hZ Tryd.underlying28 rfl valI) rfl ⟨HR.out.symm, bl_gr (Lib.hid (bl_ca (bl_ca HB3.out HB4.out) HB8.out)).out gz (Nat.le_refl _)⟩
              · rw [decide_eq_false h9] at heq
                have HR := Lib.hid (rpR_none (HPR3.out.trans (if_neg h9)))
                clear h9
                generalize bS (39 :: (quoV l ++ [39])) = T at *
                go_wp2_with (refine wpList_store_blk rfl 28 (.tmp 2) (.tmp 63) rfl w.heap.size 28 _ _ rfl rfl HR8.out rfl valI (one4 _ _ _ _) ?_; intro wz hZ gz)
                exact bodyPost_ret (res2 Tryd.results17 rfl rfl hZ Tryd.underlying28 rfl valI) rfl ⟨HR.out.symm, bl_gr (Lib.hid (bl_ca (bl_ca HB3.out HB4.out) HB8.out)).out gz (Nat.le_refl _)⟩
            · rw [decide_eq_false h40]
              have HR := Lib.hid (rpR_none (show parseR s.data.toList = none from by rw [HPR2.out]; simp only [if_neg h40]; split <;> rfl))
              have HR8 := Lib.hid (HR4.out.ca HB7.out)
              clear h40
              go_wp2_with (refine wpList_store_blk rfl 28 (.tmp 2) (.tmp 63) rfl w.heap.size 28 _ _ rfl rfl HR8.out rfl valI (one4 _ _ _ _) ?_; intro wz hZ gz)
              exact bodyPost_ret (res2 Tryd.results17 rfl rfl hZ Tryd.underlying28 rfl valI) rfl ⟨HR.out.symm, bl_gr (Lib.hid (bl_ca (bl_ca HB3.out HB4.out) HB7.out)).out gz (Nat.le_refl _)⟩
end Go.Proofs.YtabbiepafibmmaaDoor
