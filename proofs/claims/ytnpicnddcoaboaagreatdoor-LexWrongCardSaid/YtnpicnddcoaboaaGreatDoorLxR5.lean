/- The reference's Tokens. Conditions: none on texts of more than 600 bytes, else none. -/
import Derived.Test.YtnpicnddcoaboaaGreatDoorLxR4
namespace Go.Proofs.YtnpicnddcoaboaaGreatDoor
open Go.RowKit
theorem tokInfo : (Tryz.prog.info? 29).map (fun i => (i.zero, i.size, i.bytes)) = some (some (.agg #[.int .i64 0, .int .i64 0, .string ⟨#[]⟩, .int .u64 0]), 4, 40) := by kernel_rfl
abbrev NoB : Nat → Prop := fun _ => False
/-- a row of tokens that the call owns -/
abbrev OwnT (w : World) (B : Nat) (A : Option Addr) (n c : Nat) (ts : List Tk) : Prop := LT.own 29 w B NoB A n c ts
/-- what Tokens tells: the tokens, the place, the error -/
def tokM (l : List UInt8) : List Tk × Int × Int := if 600 < l.length then ([], 0, 3) else match (lexF l 0).2 with | some q => ([], (q : Int), 170) | none => ((lexF l 0).1, 0, 0)
def TkE (B : Nat) (R : List Tk × Int × Int) (e : Ending) (w' : World) : Prop := ∃ A n c, e = .returned (.tuple #[.slice A n c, .int .i64 R.2.1, .int .i64 R.2.2]) ∧ OwnT w' B A n c R.1
theorem TkE.none {B : Nat} {R : List Tk × Int × Int} {w' : World} {q er : Int} (h : R = ([], q, er)) : TkE B R (.returned (.tuple #[.slice none 0 0, .int .i64 q, .int .i64 er])) w' := ⟨_, 0, 0, by rw [h], by rw [h]; exact Lay.own_nil _ _⟩
theorem TkE.mk {B : Nat} {R : List Tk × Int × Int} {w' : World} {ts : List Tk} {A : Option Addr} {n c : Nat} (h : R = (ts, 0, 0)) (ho : OwnT w' B A n c ts) : TkE B R (.returned (.tuple #[.slice A n c, .int .i64 0, .int .i64 0])) w' := ⟨A, n, c, by rw [h], by rw [h]; exact ho⟩
theorem tokM_long {l : List UInt8} (h : 600 < l.length) : tokM l = ([], 0, 3) := if_pos h
theorem tokM_bad {l : List UInt8} {q : Nat} (h : l.length ≤ 600) (h2 : (lexF l 0).2 = some q) : tokM l = ([], (q : Int), 170) := by unfold tokM; rw [if_neg (by omega), h2]
theorem tokM_ok {l : List UInt8} (h : l.length ≤ 600) (h2 : (lexF l 0).2 = none) : tokM l = ((lexF l 0).1, 0, 0) := by unfold tokM; rw [if_neg (by omega), h2]
theorem LT_rep {w : World} {F : Nat → Prop} (t : Tk) : LT.rep w F t [.int .i64 t.kind, .int .i64 t.at_, .string (bS t.text), .int .u64 (t.n : Int)] := rfl
theorem bl_not {b : UInt8} {c : Int} (hc : c = (b.toNat : Int)) (h : blU b = false) : c ≠ 32 ∧ c ≠ 9 ∧ c ≠ 10 ∧ c ≠ 13 := by
  unfold blU blI at h
  rw [← hc] at h
  simp only [Bool.or_eq_false_iff, decide_eq_false_iff_not] at h
  exact h
theorem bl_yes {b : UInt8} {c : Int} (hc : c = (b.toNat : Int)) (h : blU b = true) : c = 32 ∨ c = 9 ∨ c = 10 ∨ c = 13 := by
  unfold blU blI at h
  rw [← hc] at h
  simp only [Bool.or_eq_true, decide_eq_true_eq] at h
  exact h
set_option maxRecDepth 100000 in
set_option maxHeartbeats 8000000 in
theorem rtokens_any (s : ByteArray) (w : World) (hs : s.size ≤ 9223372036854775807) : Calls Tryz.prog 8 #[.string s] w fun e w' => TkE w.heap.size (tokM s.data.toList) e w' ∧ Below w.heap.size w w' := by
  have hL := len_data s
  by_cases h6 : 600 < s.size
  · have h6' : 600 < (s.size : Int) := by omega
    have HF := Lib.hid (tokM_long (l := s.data.toList) (by omega))
    clear hL
    go_enter Tryz.func8, Tryz.ntmps8
    go_wp2
    go_ret3
    exact ⟨TkE.none HF.out, Below.refl _ _⟩
  have h6' : (s.size : Int) ≤ 600 := by omega
  have hs6 : s.size ≤ 600 := by omega
  have HL := Lib.hid hL
  clear h6 hs hL
  go_enter Tryz.func8, Tryz.ntmps8
  go_wp2_with fail
  clear h6'
  go_loopg [5, 6] s.size (fun g a b wr => ∃ (i : Nat) (A : Option Addr) (n c : Nat) (ts : List Tk), i + g = s.size ∧ a = .slice A n c ∧ b = .int .i64 i ∧ OwnT wr w.heap.size A n c ts ∧ Below w.heap.size w wr ∧ Hid (n ≤ i ∧ lexF s.data.toList 0 = (ts ++ (lexF (s.data.toList.drop i) i).1, (lexF (s.data.toList.drop i) i).2)))
  case atStart => exact ⟨0, none, 0, 0, [], by omega, rfl, rfl, Lay.own_nil _ _, Below.refl _ _, Lib.hid ⟨Nat.le_refl _, rfl⟩⟩
  case round =>
    obtain ⟨i, A, n, c, ts, hig, rfl, rfl, ho, hbw, HI⟩ := hrel
    have HO := Lib.hid ho
    have HBW := Lib.hid hbw
    clear ho hbw
    by_cases hlt : i < s.size
    · have hi1 : (i : Int) < (s.size : Int) := by omega
      obtain ⟨b, hb⟩ := byte_at hlt
      have hix := run_bt hb
      have HD := Lib.hid (drop_at hb)
      clear hb
      cases hbl : blU b
      · have HBL := Lib.hid hbl
        obtain ⟨cc, hc⟩ : ∃ cc, cc = (b.toNat : Int) := ⟨_, rfl⟩
        have hn := bl_not hc hbl
        rw [← hc] at hix
        clear hc hbl
        have e1 : (cc == 32) = false := by simpa using hn.1
        have e2 : (cc == 9) = false := by simpa using hn.2.1
        have e3 : (cc == 10) = false := by simpa using hn.2.2.1
        have e4 : (cc == 13) = false := by simpa using hn.2.2.2
        clear hn
        go_wp2_with fail
        refine (rone_any s i _ hlt (by omega)).mono ?_
        rintro e w2 ⟨⟨t, m, rfl, ht⟩, q2⟩
        clear hix e1 e2 e3 e4
        have HT := Lib.hid ht
        have HQ2 := Lib.hid (bl_ca HBW.out q2)
        have HO2 := Lib.hid (Lay.own_below HO.out q2)
        clear ht q2
        obtain ⟨o, ho⟩ : ∃ o, o = (firstU (s.data.toList.drop i)).2.2 := ⟨_, rfl⟩
        rw [← ho] at HT ⊢
        have HOO := Lib.hid ho
        clear ho
        cases o
        · have HF := Lib.hid (tokM_bad (l := s.data.toList) (q := i) (by rw [HL.out]; exact hs6) (by rw [HI.out.2]; simp only; rw [HD.out]; rw [lexF_bad HBL.out (by rw [← HD.out]; exact HOO.out.symm)]))
          have hfin := Lib.hid (bl_al HQ2.out (.cells #[.int .i64 t.kind, .int .i64 t.at_, .string (bS t.text), .int .u64 (t.n : Int)] 29))
          go_wp2
          go_ret3
          exact ⟨TkE.none HF.out, hfin.out⟩
        · obtain ⟨htt, hmm⟩ := HT.out rfl
          have hfp := first_pos (l := s.data.toList.drop i) HOO.out.symm
          rw [List.length_drop, HL.out] at hfp
          have HST := Lib.hid (show lexF (s.data.toList.drop i) i = (t :: (lexF (s.data.toList.drop (i + (firstU (s.data.toList.drop i)).2.1)) (i + (firstU (s.data.toList.drop i)).2.1)).1, (lexF (s.data.toList.drop (i + (firstU (s.data.toList.drop i)).2.1)) (i + (firstU (s.data.toList.drop i)).2.1)).2) from by
            rw [htt, ← List.drop_drop]
            have h9 := HOO.out
            rw [HD.out] at h9 ⊢
            exact lexF_tok HBL.out (Prod.ext rfl (Prod.ext rfl h9.symm)))
          clear htt
          obtain ⟨k, hk⟩ : ∃ k, k = (firstU (s.data.toList.drop i)).2.1 := ⟨_, rfl⟩
          rw [← hk] at HST hfp hmm
          clear hk
          subst hmm
          have bT := ((Blk.new w2 29 #[.int .i64 t.kind, .int .i64 t.at_, .string (bS t.text), .int .u64 (t.n : Int)]))
          have HQ3 := Lib.hid (bl_al (bl_al HQ2.out (.cells #[.int .i64 t.kind, .int .i64 t.at_, .string (bS t.text), .int .u64 (t.n : Int)] 29)) (.cells #[.int .i64 t.kind, .int .i64 t.at_, .string (bS t.text), .int .u64 (t.n : Int)] 29))
          have HO3 := Lib.hid (Lay.own_alloc (Lay.own_alloc HO2.out (.cells #[.int .i64 t.kind, .int .i64 t.at_, .string (bS t.text), .int .u64 (t.n : Int)] 29)) (.cells #[.int .i64 t.kind, .int .i64 t.at_, .string (bS t.text), .int .u64 (t.n : Int)] 29))
          have HBB := Lib.hid (Blk.new (w2.alloc (.cells #[.int .i64 t.kind, .int .i64 t.at_, .string (bS t.text), .int .u64 (t.n : Int)] 29)) 29 #[.int .i64 t.kind, .int .i64 t.at_, .string (bS t.text), .int .u64 (t.n : Int)])
          rw [World.size_alloc] at HBB
          have hni := HI.out.1
          clear bT
          go_wp2_with (at_builtin; refine wpList_appL (L := LT) rfl (.tmp 51) (.tmp 53) 23 rfl _ 4 40 Tryz.underlying23 tokInfo rfl rfl (by omega) w.heap.size NoB A n c ts (w2.heap.size + 1) 1 29 #[.int .i64 t.kind, .int .i64 t.at_, .string (bS t.text), .int .u64 (t.n : Int)] t rfl rfl HO3.out HBB.out (LT_rep t) (fun b hb => hb.elim) (by omega) (by unfold maxLen; omega) HQ3.out.size ?_; intro A3 c3 w3 ho3 hb3)
          go_roundg (s.size - (i + k))
          · exact ⟨i + k, A3, n + 1, c3, ts ++ [t], by omega, rfl, by go_num, ho3, HQ3.out.trans hb3, Lib.hid ⟨by omega, by rw [HI.out.2, HST.out]; simp⟩⟩
          · omega
      · have HBL := Lib.hid hbl
        obtain ⟨cc, hc⟩ : ∃ cc, cc = (b.toNat : Int) := ⟨_, rfl⟩
        have hy := bl_yes hc hbl
        rw [← hc] at hix
        clear hc hbl
        have HN := Lib.hid (show lexF s.data.toList 0 = (ts ++ (lexF (s.data.toList.drop (i + 1)) (i + 1)).1, (lexF (s.data.toList.drop (i + 1)) (i + 1)).2) from by rw [HI.out.2, HD.out, lexF_blank HBL.out])
        rcases hy with rfl | rfl | rfl | rfl
        all_goals
          go_wp2
          go_roundg (gk - 1)
          · exact ⟨i + 1, A, n, c, ts, by omega, rfl, by go_num, HO.out, HBW.out, Lib.hid ⟨by have := HI.out.1; omega, HN.out⟩⟩
          · omega
    · obtain rfl : i = s.size := by omega
      have hi1 : (s.size : Int) ≤ (s.size : Int) := by omega
      have HE := Lib.hid (show lexF s.data.toList 0 = (ts, none) from by rw [HI.out.2, drop_end (by rw [HL.out]; exact Nat.le_refl _), lexF_nil]; show (ts ++ [], none) = _; rw [List.append_nil])
      have HF := Lib.hid (show tokM s.data.toList = (ts, 0, 0) from by rw [tokM_ok (by rw [HL.out]; exact hs6) (by rw [HE.out]), HE.out])
      clear HI
      go_wp2
      go_ret3
      exact ⟨TkE.mk HF.out HO.out, HBW.out⟩
end Go.Proofs.YtnpicnddcoaboaaGreatDoor
