/- The walk of the law LexBlanks. Conditions: the slice reads so; what the tables hold. -/
import Derived.Test.YtnpicnddcoaboaaDoorLxQ
namespace Go.Proofs.YtnpicnddcoaboaaDoor
open Go.RowKit
theorem lay_snoc (f : Tk → List UInt8) (g : List UInt8) : ∀ (l : List Tk) (t : Tk), layU f g (l ++ [t]) = layU f g l ++ (f t ++ (32 :: g))
  | [], t => by simp [layU]
  | u :: l, t => by rw [List.cons_append, layU, layU, lay_snoc f g l t]; simp
theorem tok_blank {B : List UInt8} (hB : B.all blU = true) {l : List Tk} (h : ∀ t ∈ l, rightU t = true) (h2 : (B ++ layU wrU B l).length ≤ 600) :
    ∃ ts, tokM (B ++ layU wrU B l) = (ts, 0, 0) ∧ sameU l ts = true ∧ riseU 0 (B ++ layU wrU B l).length ts := by
  have hj := lay_lex (f := wrU) (g := B) hB l (fun t ht => says_wr (h t ht)) (0 + B.length)
  have e := lexF_blanks (x := layU wrU B l) hB 0
  have hr := lexF_rise _ (B ++ layU wrU B l) 0 (Nat.le_refl _)
  rw [Nat.zero_add] at hr
  refine ⟨_, tokM_ok h2 (by rw [e]; exact hj.1), decide_eq_true ?_, hr⟩
  rw [e]
  exact hj.2.symm
theorem rise_at : ∀ {l : List Tk} {lo hi : Nat}, riseU lo hi l → ∀ (i : Nat) (t : Tk), l[i]? = some t → (lo : Int) ≤ t.at_ ∧ t.at_ < (hi : Int) ∧ ∀ (j : Nat) (u : Tk), j < i → l[j]? = some u → u.at_ < t.at_
  | [], _, _, _, i, t, h => by simp at h
  | x :: l, lo, hi, ⟨h1, h2, h3⟩, 0, t, h => by
    simp only [List.getElem?_cons_zero, Option.some.injEq] at h
    subst h
    exact ⟨h1, h2, fun j u hj => by omega⟩
  | x :: l, lo, hi, ⟨h1, h2, h3⟩, i + 1, t, h => by
    rw [List.getElem?_cons_succ] at h
    have ih := rise_at h3 i t h
    refine ⟨by omega, ih.2.1, fun j u hj hu => ?_⟩
    cases j with
    | zero =>
      simp only [List.getElem?_cons_zero, Option.some.injEq] at hu
      subst hu
      omega
    | succ j =>
      rw [List.getElem?_cons_succ] at hu
      exact ih.2.2 j u (by omega) hu
set_option maxRecDepth 100000 in
set_option maxHeartbeats 32000000 in
theorem blanks_walk (A : Option Addr) (n c : Nat) (l : List Tk) (s : ByteArray) (w : World) (hl : LT.rd w AllB A n l) (hn : n ≤ 9223372036854775807) (hr : ∀ x ∈ l, x.n < 18446744073709551616) (_hs : s.size ≤ 9223372036854775807) (hT : Tab w) :
    Calls Tryd.prog 4 #[.slice A n c, .string s] w fun e w' => e = .returned (.bool true) ∧ Below w.heap.size w w' := by
  have HT := Lib.hid hT
  have HL := Lib.hid hl
  have HR := Lib.hid hr
  clear hT hl hr
  go_enter Tryd.func4, Tryd.ntmps4
  go_wp2_with fail
  refine (wakes_any _ HT.out).mono ?_
  rintro e w2 ⟨rfl, q2⟩
  have HT2 := Lib.hid (HT.out.below q2)
  have HL2 := Lib.hid (Lay.rd_below HL.out q2)
  have HQ2 := Lib.hid q2
  clear q2 HT HL
  by_cases h300 : 60 < n
  · have h3 : 60 < (n : Int) := by omega
    clear h300
    go_wp2
    go_ret
    exact ⟨rfl, HQ2.out⟩
  have h3 : (n : Int) ≤ 60 := by omega
  by_cases h301 : 1000 < s.size
  · have h4 : 1000 < (s.size : Int) := by omega
    clear h300 h301
    go_wp2
    go_ret
    exact ⟨rfl, HQ2.out⟩
  have h4 : (s.size : Int) ≤ 1000 := by omega
  have HN := Lib.hid (show n ≤ 60 by omega)
  clear h300 h301 hn
  go_wp2_with fail
  go_loopg [5, 30] s.size (fun g a b wr => ∃ (i : Nat) (S : ByteArray), i + g = s.size ∧ a = .string S ∧ b = .int .i64 i ∧ Hid (S.size ≤ 5 ∧ S.data.toList.all blU = true) ∧ Below w2.heap.size w2 wr)
  case atStart => exact ⟨0, ⟨#[]⟩, by omega, rfl, rfl, Lib.hid ⟨by decide, rfl⟩, Below.refl _ _⟩
  case round =>
    obtain ⟨i, S, hig, rfl, rfl, HI, hb⟩ := hrel
    have HB := Lib.hid hb
    clear hb
    by_cases hlt : i < s.size
    · have hi1 : (i : Int) < (s.size : Int) := by omega
      obtain ⟨b, hbt⟩ := byte_at hlt
      have hix := run_bt hbt
      have hS1 : S.size ≤ 5 := HI.out.1
      obtain ⟨cc, hc⟩ : ∃ cc, cc = (b.toNat : Int) := ⟨_, rfl⟩
      rw [← hc] at hix
      have HV := Lib.hid (show Value.int .u8 cc = vb b from by rw [hc]; rfl)
      have hcv := (RdB.one wr b (.int .u8 cc) HV.out 5).str 1
      have hb1 : (⟨[b].toArray⟩ : ByteArray).size ≤ 1 := by rw [← len_data]; exact Nat.le_refl _
      have HBA := Lib.hid (bl_al HB.out (.cells #[.int .u8 cc] 5))
      have HSA := Lib.hid (show S.size < 5 → blU b = true → (S ++ ⟨[b].toArray⟩ : ByteArray).size ≤ 5 ∧ (S ++ ⟨[b].toArray⟩ : ByteArray).data.toList.all blU = true from fun h5 hbl => ⟨by rw [app_size]; omega, by rw [app_data, List.all_append, HI.out.2]; simp [hbl]⟩)
      cases hbl : blU b
      · have hno := bl_not hc hbl
        have e1 : (cc == 32) = false := by simpa using hno.1
        have e2 : (cc == 9) = false := by simpa using hno.2.1
        have e3 : (cc == 10) = false := by simpa using hno.2.2.1
        have e4 : (cc == 13) = false := by simpa using hno.2.2.2
        clear hno hbl hc hbt hcv hb1
        go_wp2
        go_roundg (gk - 1)
        · exact ⟨i + 1, S, by omega, rfl, by go_num, HI, HB.out⟩
        · omega
      · have HBL := Lib.hid hbl
        have hcs : cc = 32 ∨ cc = 9 ∨ cc = 10 ∨ cc = 13 := by
          rcases bl_cases hbl with h | h | h | h
          · exact .inl (by rw [hc, h]; rfl)
          · exact .inr (.inl (by rw [hc, h]; rfl))
          · exact .inr (.inr (.inl (by rw [hc, h]; rfl)))
          · exact .inr (.inr (.inr (by rw [hc, h]; rfl)))
        clear hbl hc hbt
        by_cases h5 : S.size < 5
        · have h5' : (S.size : Int) < 5 := by omega
          have HSB := Lib.hid (HSA.out h5 HBL.out)
          clear h5 HSA
          rcases hcs with rfl | rfl | rfl | rfl
          all_goals
            go_wp2
            go_roundg (gk - 1)
            · exact ⟨i + 1, _, by omega, rfl, by go_num, HSB, HBA.out⟩
            · omega
        · have h5' : 5 ≤ (S.size : Int) := by omega
          clear h5 HSA hcv hb1
          rcases hcs with rfl | rfl | rfl | rfl
          all_goals
            go_wp2
            go_roundg (gk - 1)
            · exact ⟨i + 1, S, by omega, rfl, by go_num, HI, HB.out⟩
            · omega
    · obtain rfl : i = s.size := by omega
      have hi1 : (s.size : Int) ≤ (s.size : Int) := by omega
      have HT3 := Lib.hid (HT2.out.below HB.out)
      have HL3 := Lib.hid (Lay.rd_below HL2.out HB.out)
      have HQ3 := Lib.hid (bl_ca HQ2.out HB.out)
      obtain ⟨w3, rfl⟩ : ∃ x, x = wr := ⟨_, rfl⟩
      clear HB HT2 HL2 HQ2 hlt hig
      go_wp2_with fail
      go_loopg [8, 64] n (fun g a b wr => ∃ (i : Nat) (T : ByteArray), i + g = n ∧ a = .string T ∧ b = .int .i64 i ∧ Hid (T.size ≤ 5 + 2008 * i ∧ T.data.toList = S.data.toList ++ layU wrU S.data.toList (l.take i) ∧ ∀ t ∈ l.take i, rightU t = true) ∧ Below w3.heap.size w3 wr)
      case atStart => exact ⟨0, S, by omega, rfl, rfl, Lib.hid ⟨HI.out.1, by simp [layU], by simp⟩, Below.refl _ _⟩
      case round =>
        obtain ⟨i, T, hig, rfl, rfl, HJ, hb⟩ := hrel
        have HB := Lib.hid hb
        by_cases hlt : i < n
        · have hi2 : (i : Int) < (n : Int) := by omega
          obtain ⟨ad, t, rfl, hx, st⟩ := LT_at (Lay.rd_below HL3.out hb) hlt
          have e0 := st.c0
          have e1 := st.c1
          have e2 := st.c2
          have e3 := st.c3
          have HTK := Lib.hid (take_one hx)
          have HTT := Lib.hid (HR.out t (List.mem_of_getElem? hx))
          have HTW := Lib.hid (HT3.out.below hb)
          have q5 := bl_al (Below.refl wr.heap.size wr) (.cells #[.int .i64 t.kind, .int .i64 t.at_, .string (bS t.text), .int .u64 (t.n : Int)] 26)
          have q55 := bl_al q5 (.cells #[.int .i64 t.kind, .int .i64 t.at_, .string (bS t.text), .int .u64 (t.n : Int)] 26)
          have HQ4 := Lib.hid q5
          have HQ5 := Lib.hid q55
          have hbn := Blk.new (wr.alloc (.cells #[.int .i64 t.kind, .int .i64 t.at_, .string (bS t.text), .int .u64 (t.n : Int)] 26)) 26 t.cells
          rw [World.size_alloc] at hbn
          by_cases h1000 : 100 < t.text.length
          · have z1 : 100 < ((bS t.text).size : Int) := by have := len_data (bS t.text); simp only [bS] at *; omega
            have z2 : 100 < (t.text.length : Int) := by omega
            clear h1000 hx hb st q5 q55 hbn
            go_wp2
            go_ret
            exact ⟨rfl, bl_ca HQ3.out (bl_ca HB.out HQ4.out)⟩
          · have z1 : ((bS t.text).size : Int) ≤ 100 := by have := len_data (bS t.text); simp only [bS] at *; omega
            have z2 : (t.text.length : Int) ≤ 100 := by omega
            have HSM := Lib.hid (show t.text.length ≤ 1000 ∧ t.n < 18446744073709551616 from ⟨by omega, HTT.out⟩)
            have HPR := Lib.hid (lprint_any (some ⟨wr.heap.size + 1, 0, none⟩) 1 1 [t] _ (LT_one hbn) (by decide) (by intro u hu; rw [List.mem_singleton.1 hu]; exact HSM.out) (HTW.out.below q55))
            have HWL := Lib.hid (wr_len HSM.out.1 HSM.out.2)
            have HJ1 := Lib.hid (show joinU [t] = wrU t from rfl)
            have HJ2 := Lib.hid (show [t].all rightU = rightU t from by rw [List.all_cons]; simp)
            clear h1000 hx hb st q5 q55 hbn
            go_wp2_with fail
            refine HPR.out.mono ?_
            rintro e w6 ⟨hp, q6⟩
            unfold PrE at hp
            rw [HJ1.out, HJ2.out] at hp
            have HQ6 := Lib.hid (bl_ca HQ5.out q6)
            clear q6 e0 e1 e2 e3 HPR HQ5 HTW z1 z2
            cases hrt : rightU t
            · rw [hrt] at hp
              have hp2 : e = .returned (.tuple #[.string ⟨#[]⟩, .int .i64 171]) := hp
              subst hp2
              clear hp hrt
              go_wp2
              go_ret
              exact ⟨rfl, bl_ca HQ3.out (bl_ca HB.out HQ6.out)⟩
            · rw [hrt, if_pos rfl] at hp
              obtain ⟨X, hX⟩ : ∃ X, X = bS (wrU t) := ⟨_, rfl⟩
              rw [← hX] at hp
              subst hp
              have HXE := Lib.hid (show X.size = (wrU t).length ∧ X.data.toList = wrU t from ⟨by rw [hX, ← len_data], by rw [hX]⟩)
              clear hX
              have HRT := Lib.hid hrt
              have hS1 : S.size ≤ 5 := HI.out.1
              have hT1 : T.size ≤ 130000 := by have := HJ.out.1; have := HN.out; omega
              have hS2 : X.size ≤ 2002 := by rw [HXE.out.1]; exact HWL.out
              have hS3 : (X ++ ⟨#[32]⟩ : ByteArray).size ≤ 2003 := by rw [app_size]; have h1 : (⟨#[32]⟩ : ByteArray).size = 1 := rfl; omega
              have hS4 : (X ++ ⟨#[32]⟩ ++ S : ByteArray).size ≤ 2008 := by rw [app_size]; omega
              have HSA := Lib.hid (show (T ++ (X ++ ⟨#[32]⟩ ++ S) : ByteArray).size ≤ 5 + 2008 * (i + 1) ∧ (T ++ (X ++ ⟨#[32]⟩ ++ S) : ByteArray).data.toList = S.data.toList ++ layU wrU S.data.toList (l.take (i + 1)) ∧ ∀ t ∈ l.take (i + 1), rightU t = true from
                ⟨by rw [app_size]; have := HJ.out.1; omega, by rw [app_data, app_data, app_data, HXE.out.2, HTK.out, lay_snoc, HJ.out.2.1]; simp, fun u hu => by
                  rw [HTK.out] at hu
                  rcases List.mem_append.1 hu with hu | hu
                  · exact HJ.out.2.2 u hu
                  · rw [List.mem_singleton.1 hu]; exact HRT.out⟩)
              clear hrt
              go_wp2
              go_roundg (gk - 1)
              · exact ⟨i + 1, _, by omega, rfl, by go_num, HSA, bl_ca HB.out HQ6.out⟩
              · omega
        · obtain rfl : i = n := by omega
          have hi2 : (i : Int) ≤ (i : Int) := by omega
          have HLN := Lib.hid (Lay.rd_len HL3.out)
          have HFIN := Lib.hid (show T.data.toList = S.data.toList ++ layU wrU S.data.toList l ∧ ∀ t ∈ l, rightU t = true from by
            have h9 := HJ.out.2
            rw [List.take_of_length_le (by rw [HLN.out]; exact Nat.le_refl _)] at h9
            exact h9)
          have HQW := Lib.hid (bl_ca HQ3.out hb)
          have HTW := Lib.hid (HT3.out.below hb)
          have HOW := Lib.hid (Lay.rd_below HL3.out hb)
          have HSS := Lib.hid (show T.size ≤ 9223372036854775807 from by have := HJ.out.1; have := HN.out; omega)
          clear hb HB hlt hig
          go_wp2_with fail
          refine (ltokens_any T _ HSS.out HTW.out).mono ?_
          rintro e w5 ⟨⟨A5, n5, c5, rfl, ho5⟩, q5⟩
          have HQ5 := Lib.hid (bl_ca HQW.out q5)
          have HO5' := Lib.hid (Lay.rd_below HOW.out q5)
          have HTZ := Lib.hid (len_data T)
          rw [HFIN.out.1] at ho5 ⊢
          clear q5
          by_cases hj : 600 < T.size
          case pos =>
            rw [tokM_long (by rw [← HFIN.out.1, len_data]; exact hj)]
            have z1 : 600 < (T.size : Int) := by omega
            clear hj ho5
            simp only
            go_wp2
            go_ret
            exact ⟨rfl, HQ5.out⟩
          case neg =>
            obtain ⟨us, hu, hsame, hrise⟩ := tok_blank HI.out.2 HFIN.out.2 (by rw [← HFIN.out.1, len_data]; omega)
            rw [← HFIN.out.1, HTZ.out] at hrise
            rw [hu] at ho5 ⊢
            have z1 : (T.size : Int) ≤ 600 := by omega
            have HO5 := Lib.hid (OwnT.rdA ho5)
            have HRS := Lib.hid hrise
            have HSM := Lib.hid hsame
            have hn5 : n5 ≤ 9223372036854775807 := Nat.le_trans (Lay.own_caps ho5).1 (Lay.own_caps ho5).2
            clear hj ho5 hu hsame hrise
            simp only
            go_wp2_with fail
            refine (lsame_any l us A i c A5 n5 c5 _ HO5'.out HO5.out (by have := HN.out; omega)).mono ?_
            rintro e w9 ⟨rfl, q9⟩
            rw [HSM.out]
            have HQ9 := Lib.hid (bl_ca HQ5.out q9)
            have HO9 := Lib.hid (Lay.rd_below HO5.out q9)
            clear q9 HO5 HO5' HQ5
            go_wp2_with fail
            go_loopg [110] n5 (fun g b wr => ∃ (i : Nat), i + g = n5 ∧ b = .int .i64 i ∧ Below w9.heap.size w9 wr)
            case atStart => exact ⟨0, by omega, rfl, Below.refl _ _⟩
            case round =>
              obtain ⟨i, hig, rfl, hb⟩ := hrel
              have HB := Lib.hid hb
              by_cases hlt : i < n5
              · have hi3 : (i : Int) < (n5 : Int) := by omega
                obtain ⟨ad, t, rfl, hx, st⟩ := LT_at (Lay.rd_below HO9.out hb) hlt
                have hra := rise_at HRS.out i t hx
                have e0 := st.c0
                have e1 := st.c1
                have e2 := st.c2
                have e3 := st.c3
                have HBN := Lib.hid (Blk.new wr 26 #[.int .i64 t.kind, .int .i64 t.at_, .string (bS t.text), .int .u64 (t.n : Int)])
                have HBQ := Lib.hid (bl_al (Below.refl wr.heap.size wr) (.cells #[.int .i64 t.kind, .int .i64 t.at_, .string (bS t.text), .int .u64 (t.n : Int)] 26))
                have HP := Lib.hid (show 0 < i → ∃ j u, j + 1 = i ∧ ST (wr.alloc (.cells #[.int .i64 t.kind, .int .i64 t.at_, .string (bS t.text), .int .u64 (t.n : Int)] 26)) (ad.add (j * 4)) u ∧ u.at_ < t.at_ from fun h0 => by
                  obtain ⟨ad2, u, hA, hxu, su⟩ := LT_at (i := i - 1) (Lay.rd_below (Lay.rd_below HO9.out hb) HBQ.out) (by omega)
                  obtain rfl : ad = ad2 := by injection hA
                  exact ⟨i - 1, u, by omega, su, hra.2.2 (i - 1) u (by omega) hxu⟩)
                have e16 : decide (t.at_ < 0) = false := decide_eq_false (by omega)
                have e23 : decide ((T.size : Int) ≤ t.at_) = false := decide_eq_false (by omega)
                clear hx st hb hra
                by_cases h0 : 0 < i
                · obtain ⟨j, u, hji, su, hlt2⟩ := HP.out h0
                  have hj3 : IntKind.i64.wrap ((i : Int) - 1) = (j : Int) := by rw [IntKind.wrap_i64]; omega
                  have HSU := Lib.hid su
                  have e11 : decide (t.at_ ≤ u.at_) = false := decide_eq_false (by omega)
                  have e9 : decide ((0 : Int) < (i : Int)) = true := decide_eq_true (by omega)
                  have hj5 : (j : Int) < (n5 : Int) := by omega
                  have HI1 := Lib.hid (show i + gk = n5 ∧ i < n5 from ⟨hig, hlt⟩)
                  clear su hji hlt2 h0 HP hig hlt
                  go_upto_region 32 with fail
                  generalize wr.alloc (.cells #[.int .i64 t.kind, .int .i64 t.at_, .string (bS t.text), .int .u64 (t.n : Int)] 26) = w1 at *
                  refine wp_region_ps (S := fun _ _ w' => Below w1.heap.size w1 w') (by kernel_rfl) ?spswg1 ?ppswg1
                  case spswg1 =>
                    exact (Below.refl w1.heap.size w1).drew
                  refine Ps.st (i := 0) (d := some 115) (u := (.int .i64 ((i : Int)))) rfl rfl (by exact StepS.pure nP rfl fun _ => rfl) ?_
                  try simp only [Act.put, sA, sZ, sS]
                  refine Ps.st (i := 1) (d := some 116) (u := (.bool (true))) rfl rfl ?ywg1_3 ?rwg1_3
                  case ywg1_3 =>
                    refine StepS.pure nP (by rfl) (fun w9 => ?_)
                    refine Eq.trans ?_ (congrArg (fun b => Result.ok (Next.value (Value.bool b)) w9) e9)
                    first | rfl | (go_simp; done) | (go_simp; rfl)
                  try simp only [Act.put, sA, sZ, sS]
                  refine Ps.st (i := 2) (d := some 117) (u := (.bool (true))) rfl rfl (by exact StepS.pure nP rfl fun _ => rfl) ?_
                  try simp only [Act.put, sA, sZ, sS]
                  refine Ps.st (i := 3) (d := some 118) (u := (.slice (some ad) n5 c5)) rfl rfl (by exact StepS.pure nP rfl fun _ => rfl) ?_
                  try simp only [Act.put, sA, sZ, sS]
                  refine Ps.st (i := 4) (d := some 119) (u := (.int .i64 ((i : Int)))) rfl rfl (by exact StepS.pure nP rfl fun _ => rfl) ?_
                  try simp only [Act.put, sA, sZ, sS]
                  refine Ps.st (i := 5) (d := some 120) (u := (.int .i64 (IntKind.i64.wrap ((i : Int) - 1)))) rfl rfl (by exact StepS.pure nP rfl fun _ => rfl) ?_
                  try simp only [Act.put, sA, sZ, sS]
                  refine Ps.st (i := 6) (d := some 121) (u := (.pointer (some (ad.add (j * 4))))) rfl rfl ?ywg1_8 ?rwg1_8
                  case ywg1_8 =>
                    refine StepS.pure nP (by rfl) (fun w9 => ?_)
                    rw [hj3]
                    go_simp
                  try simp only [Act.put, sA, sZ, sS]
                  refine Ps.st (i := 7) (d := some 122) (u := (.pointer (some ⟨(ad.add (j * 4)).block, (ad.add (j * 4)).off + 1, none⟩))) rfl rfl (by exact StepS.pure nP rfl fun _ => rfl) ?_
                  try simp only [Act.put, sA, sZ, sS]
                  refine Ps.st (i := 8) (d := some 123) (u := (.int .i64 (u.at_))) rfl rfl ?ywg1_10 ?rwg1_10
                  case ywg1_10 =>
                    refine StepS.read [] (by kernel_rfl) nP (by rfl) (fun L9 m9 w9 hSh hAt hDn hS => ?_)
                    have hT : Below _ _ w9 := hS
                    have x0 : w9.cell? ⟨(ad.add (j * 4)).block, (ad.add (j * 4)).off + 1, none⟩ = some (.int .i64 (u.at_)) := ce HSU.out.c1 hT
                    clear hT hS
                    go_simp
                    try rfl
                  try simp only [Act.put, sA, sZ, sS]
                  refine Ps.st (i := 9) (d := some 124) (u := (.pointer (some ⟨wr.heap.size, 1, none⟩))) rfl rfl (by exact StepS.pure nP rfl fun _ => rfl) ?_
                  try simp only [Act.put, sA, sZ, sS]
                  refine Ps.st (i := 10) (d := some 125) (u := (.int .i64 (t.at_))) rfl rfl ?ywg1_12 ?rwg1_12
                  case ywg1_12 =>
                    refine StepS.read [] (by kernel_rfl) nP (by rfl) (fun L9 m9 w9 hSh hAt hDn hS => ?_)
                    have hT : Below _ _ w9 := hS
                    have x0 : w9.cell? ⟨wr.heap.size, 1, none⟩ = some (.int .i64 (t.at_)) := (HBN.out.ca hT).cell 1
                    clear hT hS
                    go_simp
                    try rfl
                  try simp only [Act.put, sA, sZ, sS]
                  refine Ps.st (i := 11) (d := some 126) (u := (.bool (false))) rfl rfl ?ywg1_13 ?rwg1_13
                  case ywg1_13 =>
                    refine StepS.pure nP (by rfl) (fun w9 => ?_)
                    refine Eq.trans ?_ (congrArg (fun b => Result.ok (Next.value (Value.bool b)) w9) e11)
                    first | rfl | (go_simp; done) | (go_simp; rfl)
                  try simp only [Act.put, sA, sZ, sS]
                  refine Ps.st (i := 12) (d := some 127) (u := (.bool (false))) rfl rfl (by exact StepS.pure nP rfl fun _ => rfl) ?_
                  try simp only [Act.put, sA, sZ, sS]
                  refine Ps.st (i := 13) (d := some 128) (u := (.bool (false))) rfl rfl (by exact StepS.pure nP rfl fun _ => rfl) ?_
                  try simp only [Act.put, sA, sZ, sS]
                  refine Ps.st (i := 14) (d := some 129) (u := (.pointer (some ⟨wr.heap.size, 1, none⟩))) rfl rfl (by exact StepS.pure nP rfl fun _ => rfl) ?_
                  try simp only [Act.put, sA, sZ, sS]
                  refine Ps.st (i := 15) (d := some 130) (u := (.int .i64 (t.at_))) rfl rfl ?ywg1_17 ?rwg1_17
                  case ywg1_17 =>
                    refine StepS.read [] (by kernel_rfl) nP (by rfl) (fun L9 m9 w9 hSh hAt hDn hS => ?_)
                    have hT : Below _ _ w9 := hS
                    have x0 : w9.cell? ⟨wr.heap.size, 1, none⟩ = some (.int .i64 (t.at_)) := (HBN.out.ca hT).cell 1
                    clear hT hS
                    go_simp
                    try rfl
                  try simp only [Act.put, sA, sZ, sS]
                  refine Ps.st (i := 16) (d := some 131) (u := (.bool (false))) rfl rfl ?ywg1_18 ?rwg1_18
                  case ywg1_18 =>
                    refine StepS.pure nP (by rfl) (fun w9 => ?_)
                    refine Eq.trans ?_ (congrArg (fun b => Result.ok (Next.value (Value.bool b)) w9) e16)
                    first | rfl | (go_simp; done) | (go_simp; rfl)
                  try simp only [Act.put, sA, sZ, sS]
                  refine Ps.st (i := 17) (d := some 132) (u := (.bool (false))) rfl rfl (by exact StepS.pure nP rfl fun _ => rfl) ?_
                  try simp only [Act.put, sA, sZ, sS]
                  refine Ps.st (i := 18) (d := some 133) (u := (.bool (false))) rfl rfl (by exact StepS.pure nP rfl fun _ => rfl) ?_
                  try simp only [Act.put, sA, sZ, sS]
                  refine Ps.st (i := 19) (d := some 134) (u := (.pointer (some ⟨wr.heap.size, 1, none⟩))) rfl rfl (by exact StepS.pure nP rfl fun _ => rfl) ?_
                  try simp only [Act.put, sA, sZ, sS]
                  refine Ps.st (i := 20) (d := some 135) (u := (.int .i64 (t.at_))) rfl rfl ?ywg1_22 ?rwg1_22
                  case ywg1_22 =>
                    refine StepS.read [] (by kernel_rfl) nP (by rfl) (fun L9 m9 w9 hSh hAt hDn hS => ?_)
                    have hT : Below _ _ w9 := hS
                    have x0 : w9.cell? ⟨wr.heap.size, 1, none⟩ = some (.int .i64 (t.at_)) := (HBN.out.ca hT).cell 1
                    clear hT hS
                    go_simp
                    try rfl
                  try simp only [Act.put, sA, sZ, sS]
                  refine Ps.st (i := 21) (d := some 136) (u := (.string T)) rfl rfl (by exact StepS.pure nP rfl fun _ => rfl) ?_
                  try simp only [Act.put, sA, sZ, sS]
                  refine Ps.st (i := 22) (d := some 137) (u := (.int .i64 ((T.size : Int)))) rfl rfl (by exact StepS.pure nP rfl fun _ => by first | rfl | (go_simp; done) | (go_simp; rfl)) ?_
                  try simp only [Act.put, sA, sZ, sS]
                  refine Ps.st (i := 23) (d := some 138) (u := (.bool (false))) rfl rfl ?ywg1_25 ?rwg1_25
                  case ywg1_25 =>
                    refine StepS.pure nP (by rfl) (fun w9 => ?_)
                    refine Eq.trans ?_ (congrArg (fun b => Result.ok (Next.value (Value.bool b)) w9) e23)
                    first | rfl | (go_simp; done) | (go_simp; rfl)
                  try simp only [Act.put, sA, sZ, sS]
                  refine Ps.st (i := 24) (d := some 139) (u := (.bool (false))) rfl rfl (by exact StepS.pure nP rfl fun _ => rfl) ?_
                  try simp only [Act.put, sA, sZ, sS]
                  refine Ps.done (by kernel_rfl) (fun wg1 hS => ?_) _
                  have HW2 := Lib.hid (show Below w1.heap.size w1 wg1 from hS)
                  clear hS
                  obtain ⟨w7, rfl⟩ : ∃ x, x = wg1 := ⟨_, rfl⟩
                  have HQX := Lib.hid (bl_ca HB.out (bl_ca HBQ.out HW2.out))
                  clear e0 e1 e2 e3 e9 e11 e16 e23 hj3 hj5
                  go_wp2
                  go_roundg (gk - 1)
                  · exact ⟨i + 1, by have := HI1.out; omega, by go_num, HQX.out⟩
                  · have := HI1.out; omega
                · have e9 : decide ((0 : Int) < (i : Int)) = false := decide_eq_false (by omega)
                  have HI1 := Lib.hid (show i + gk = n5 ∧ i < n5 from ⟨hig, hlt⟩)
                  clear h0 HP hig hlt
                  go_upto_region 32 with fail
                  generalize wr.alloc (.cells #[.int .i64 t.kind, .int .i64 t.at_, .string (bS t.text), .int .u64 (t.n : Int)] 26) = w1 at *
                  refine wp_region_ps (S := fun _ _ w' => Below w1.heap.size w1 w') (by kernel_rfl) ?spswg27 ?ppswg27
                  case spswg27 =>
                    exact (Below.refl w1.heap.size w1).drew
                  refine Ps.st (i := 0) (d := some 115) (u := (.int .i64 ((i : Int)))) rfl rfl (by exact StepS.pure nP rfl fun _ => rfl) ?_
                  try simp only [Act.put, sA, sZ, sS]
                  refine Ps.st (i := 1) (d := some 116) (u := (.bool (false))) rfl rfl ?ywg27_29 ?rwg27_29
                  case ywg27_29 =>
                    refine StepS.pure nP (by rfl) (fun w9 => ?_)
                    refine Eq.trans ?_ (congrArg (fun b => Result.ok (Next.value (Value.bool b)) w9) e9)
                    first | rfl | (go_simp; done) | (go_simp; rfl)
                  try simp only [Act.put, sA, sZ, sS]
                  refine Ps.st (i := 2) (d := some 117) (u := (.bool (false))) rfl rfl (by exact StepS.pure nP rfl fun _ => rfl) ?_
                  try simp only [Act.put, sA, sZ, sS]
                  refine Ps.st (i := 3) (d := some 118) (u := undef) rfl rfl (by  exact StepS.skip nP rfl) ?_
                  try simp only [Act.put, sA, sZ, sS]
                  refine Ps.st (i := 4) (d := some 119) (u := undef) rfl rfl (by  exact StepS.skip nP rfl) ?_
                  try simp only [Act.put, sA, sZ, sS]
                  refine Ps.st (i := 5) (d := some 120) (u := undef) rfl rfl (by  exact StepS.skip nP rfl) ?_
                  try simp only [Act.put, sA, sZ, sS]
                  refine Ps.st (i := 6) (d := some 121) (u := undef) rfl rfl (by  exact StepS.skip nP rfl) ?_
                  try simp only [Act.put, sA, sZ, sS]
                  refine Ps.st (i := 7) (d := some 122) (u := undef) rfl rfl (by  exact StepS.skip nP rfl) ?_
                  try simp only [Act.put, sA, sZ, sS]
                  refine Ps.st (i := 8) (d := some 123) (u := undef) rfl rfl (by  exact StepS.skip nP rfl) ?_
                  try simp only [Act.put, sA, sZ, sS]
                  refine Ps.st (i := 9) (d := some 124) (u := undef) rfl rfl (by  exact StepS.skip nP rfl) ?_
                  try simp only [Act.put, sA, sZ, sS]
                  refine Ps.st (i := 10) (d := some 125) (u := undef) rfl rfl (by  exact StepS.skip nP rfl) ?_
                  try simp only [Act.put, sA, sZ, sS]
                  refine Ps.st (i := 11) (d := some 126) (u := undef) rfl rfl (by  exact StepS.skip nP rfl) ?_
                  try simp only [Act.put, sA, sZ, sS]
                  refine Ps.st (i := 12) (d := some 127) (u := (.bool (false))) rfl rfl (by exact StepS.pure nP rfl fun _ => rfl) ?_
                  try simp only [Act.put, sA, sZ, sS]
                  refine Ps.st (i := 13) (d := some 128) (u := (.bool (false))) rfl rfl (by exact StepS.pure nP rfl fun _ => rfl) ?_
                  try simp only [Act.put, sA, sZ, sS]
                  refine Ps.st (i := 14) (d := some 129) (u := (.pointer (some ⟨wr.heap.size, 1, none⟩))) rfl rfl (by exact StepS.pure nP rfl fun _ => rfl) ?_
                  try simp only [Act.put, sA, sZ, sS]
                  refine Ps.st (i := 15) (d := some 130) (u := (.int .i64 (t.at_))) rfl rfl ?ywg27_43 ?rwg27_43
                  case ywg27_43 =>
                    refine StepS.read [] (by kernel_rfl) nP (by rfl) (fun L9 m9 w9 hSh hAt hDn hS => ?_)
                    have hT : Below _ _ w9 := hS
                    have x0 : w9.cell? ⟨wr.heap.size, 1, none⟩ = some (.int .i64 (t.at_)) := (HBN.out.ca hT).cell 1
                    clear hT hS
                    go_simp
                    try rfl
                  try simp only [Act.put, sA, sZ, sS]
                  refine Ps.st (i := 16) (d := some 131) (u := (.bool (false))) rfl rfl ?ywg27_44 ?rwg27_44
                  case ywg27_44 =>
                    refine StepS.pure nP (by rfl) (fun w9 => ?_)
                    refine Eq.trans ?_ (congrArg (fun b => Result.ok (Next.value (Value.bool b)) w9) e16)
                    first | rfl | (go_simp; done) | (go_simp; rfl)
                  try simp only [Act.put, sA, sZ, sS]
                  refine Ps.st (i := 17) (d := some 132) (u := (.bool (false))) rfl rfl (by exact StepS.pure nP rfl fun _ => rfl) ?_
                  try simp only [Act.put, sA, sZ, sS]
                  refine Ps.st (i := 18) (d := some 133) (u := (.bool (false))) rfl rfl (by exact StepS.pure nP rfl fun _ => rfl) ?_
                  try simp only [Act.put, sA, sZ, sS]
                  refine Ps.st (i := 19) (d := some 134) (u := (.pointer (some ⟨wr.heap.size, 1, none⟩))) rfl rfl (by exact StepS.pure nP rfl fun _ => rfl) ?_
                  try simp only [Act.put, sA, sZ, sS]
                  refine Ps.st (i := 20) (d := some 135) (u := (.int .i64 (t.at_))) rfl rfl ?ywg27_48 ?rwg27_48
                  case ywg27_48 =>
                    refine StepS.read [] (by kernel_rfl) nP (by rfl) (fun L9 m9 w9 hSh hAt hDn hS => ?_)
                    have hT : Below _ _ w9 := hS
                    have x0 : w9.cell? ⟨wr.heap.size, 1, none⟩ = some (.int .i64 (t.at_)) := (HBN.out.ca hT).cell 1
                    clear hT hS
                    go_simp
                    try rfl
                  try simp only [Act.put, sA, sZ, sS]
                  refine Ps.st (i := 21) (d := some 136) (u := (.string T)) rfl rfl (by exact StepS.pure nP rfl fun _ => rfl) ?_
                  try simp only [Act.put, sA, sZ, sS]
                  refine Ps.st (i := 22) (d := some 137) (u := (.int .i64 ((T.size : Int)))) rfl rfl (by exact StepS.pure nP rfl fun _ => by first | rfl | (go_simp; done) | (go_simp; rfl)) ?_
                  try simp only [Act.put, sA, sZ, sS]
                  refine Ps.st (i := 23) (d := some 138) (u := (.bool (false))) rfl rfl ?ywg27_51 ?rwg27_51
                  case ywg27_51 =>
                    refine StepS.pure nP (by rfl) (fun w9 => ?_)
                    refine Eq.trans ?_ (congrArg (fun b => Result.ok (Next.value (Value.bool b)) w9) e23)
                    first | rfl | (go_simp; done) | (go_simp; rfl)
                  try simp only [Act.put, sA, sZ, sS]
                  refine Ps.st (i := 24) (d := some 139) (u := (.bool (false))) rfl rfl (by exact StepS.pure nP rfl fun _ => rfl) ?_
                  try simp only [Act.put, sA, sZ, sS]
                  refine Ps.done (by kernel_rfl) (fun wg27 hS => ?_) _
                  have HW2 := Lib.hid (show Below w1.heap.size w1 wg27 from hS)
                  clear hS
                  obtain ⟨w7, rfl⟩ : ∃ x, x = wg27 := ⟨_, rfl⟩
                  have HQX := Lib.hid (bl_ca HB.out (bl_ca HBQ.out HW2.out))
                  clear e0 e1 e2 e3 e9 e16 e23
                  go_wp2
                  go_roundg (gk - 1)
                  · exact ⟨i + 1, by have := HI1.out; omega, by go_num, HQX.out⟩
                  · have := HI1.out; omega
              · obtain rfl : i = n5 := by omega
                have hi3 : (i : Int) ≤ (i : Int) := by omega
                clear hb
                go_wp2
                go_ret
                exact ⟨rfl, bl_ca HQ9.out HB.out⟩
end Go.Proofs.YtnpicnddcoaboaaDoor
