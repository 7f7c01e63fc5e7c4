/- The layer's Same, Print. Conditions: the slices read so; what the tables hold. -/
import Derived.Test.YtnpicnddcoaboaaGreatDoorLxGA
import Derived.Test.YtnpicnddcoaboaaGreatDoorLxR8
namespace Go.Proofs.YtnpicnddcoaboaaGreatDoor
open Go.RowKit
theorem run_eqTK (x y : Tk) : ∀ W, (Op.equalIn 10000 29 (.agg #[.int .i64 x.kind, .int .i64 0, .string (bS x.text), .int .u64 (x.n : Int)]) (.agg #[.int .i64 y.kind, .int .i64 0, .string (bS y.text), .int .u64 (y.n : Int)])).run Tryz.prog W = .ok (decide (noAt x = noAt y)) W := by
  intro W
  rw [run_equalIn_agg W 9999 _ _ _ (by kernel_rfl) (by kernel_rfl)]
  rw [show decide (noAt x = noAt y) = decide (x.kind = y.kind ∧ x.text = y.text ∧ x.n = y.n) from decide_eq_decide.2 noAt_eq]
  have e : ((bS x.text).toList = (bS y.text).toList) ↔ x.text = y.text := by
    have := seq_text x.text y.text
    rw [Bool.eq_iff_iff, beq_iff_eq, decide_eq_true_eq] at this
    exact this
  have e2 : ((x.n : Int) = (y.n : Int)) ↔ x.n = y.n := by omega
  go_simp
  by_cases h1 : x.kind = y.kind <;> by_cases h2 : x.n = y.n <;> by_cases h4 : (bS x.text).toList = (bS y.text).toList <;> simp_all
set_option maxRecDepth 100000 in
theorem same1_any (x y : Tk) (w : World) : Calls Tryz.prog 26 #[.agg #[.int .i64 x.kind, .int .i64 x.at_, .string (bS x.text), .int .u64 (x.n : Int)], .agg #[.int .i64 y.kind, .int .i64 y.at_, .string (bS y.text), .int .u64 (y.n : Int)]] w fun e w' => e = .returned (.bool (decide (noAt x = noAt y))) ∧ Below w.heap.size w w' := by
  have heq := run_eqTK x y
  obtain ⟨r, hr⟩ : ∃ r, r = decide (noAt x = noAt y) := ⟨_, rfl⟩
  rw [← hr] at heq ⊢
  clear hr
  go_enter Tryz.func26, Tryz.ntmps26
  go_wp2
  go_ret
  exact ⟨rfl, bl_al (bl_al (Below.refl _ _) _) _⟩
theorem at_eq' {α : Type} {l : List α} {i : Nat} {x y : α} (h : l[i]? = some x) (h2 : l[i]? = some y) : x = y := by rw [h] at h2; injection h2
set_option maxRecDepth 100000 in
set_option maxHeartbeats 8000000 in
theorem equalK (xs ys : List Tk) (A : Option Addr) (m c : Nat) (B : Option Addr) (n d : Nat) (w : World) (h : LT.rd w AllB A m xs) (k : LT.rd w AllB B n ys) (hm : m ≤ 9223372036854775807) :
    Calls Tryz.prog 25 #[.slice A m c, .slice B n d, .func (.func 26) #[] #[]] w fun e w' => e = .returned (.bool (sameU xs ys)) ∧ Below w.heap.size w w' := by
  have HL := Lib.hid (And.intro (Lay.rd_len h) (Lay.rd_len k))
  have HR := Lib.hid (show sameU xs ys = true ↔ xs.map noAt = ys.map noAt from decide_eq_true_iff)
  generalize sameU xs ys = r at *
  have HNO := Lib.hid (show ¬ xs.map noAt = ys.map noAt → r = false from fun h => by cases r; rfl; exact absurd (HR.out.1 rfl) h)
  go_enter Tryz.func25, Tryz.ntmps25
  by_cases c4 : m = n
  case neg =>
    have e2 : ((m : Int) == (n : Int)) = false := by simp; omega
    have e3 : (m == n) = false := by simpa using c4
    have HQ := Lib.hid (HNO.out (fun h => c4 (by have := congrArg List.length h; rw [List.length_map, List.length_map] at this; rw [← HL.out.1, ← HL.out.2, this])))
    clear c4
    go_wp2
    go_ret
    exact ⟨ret_bool HQ.out.symm, Below.refl _ _⟩
  subst c4
  go_wp2_with fail
  go_loopg [17] m (fun g a wr => ∃ i : Nat, i + g = m ∧ a = .int .i64 i ∧ Hid (∀ (k : Nat) (x y : Tk), k < i → xs[k]? = some x → ys[k]? = some y → noAt x = noAt y) ∧ Below w.heap.size w wr)
  case atStart => exact ⟨0, by omega, rfl, Lib.hid (fun k x y hk => by omega), Below.refl _ _⟩
  case round =>
    obtain ⟨i, hig, rfl, HEQ, b1⟩ := hrel
    have HB1 := Lib.hid b1
    have h5 := Lay.rd_below h b1
    have h6 := Lay.rd_below k b1
    clear b1
    by_cases hlt : i < m
    · have hi1 : (i : Int) < (m : Int) := by omega
      obtain ⟨p, x, hAe, hx, s1⟩ := LT_at h5 hlt
      obtain ⟨p2, y, hAe2, hy, s2⟩ := LT_at h6 hlt
      obtain rfl : A = some p := hAe
      obtain rfl : B = some p2 := hAe2
      have e0 := s1.c0
      have e1 := s1.c1
      have e2 := s1.c2
      have e3 := s1.c3
      have q7 := bl_al (Below.refl wr.heap.size wr) (.cells #[.int .i64 x.kind, .int .i64 x.at_, .string (bS x.text), .int .u64 (x.n : Int)] 29)
      have f0 := ce s2.c0 q7
      have f1 := ce s2.c1 q7
      have f2 := ce s2.c2 q7
      have f3 := ce s2.c3 q7
      have q8 := bl_al q7 (.cells #[.int .i64 y.kind, .int .i64 y.at_, .string (bS y.text), .int .u64 (y.n : Int)] 29)
      have g0 := ((Blk.new wr 29 #[.int .i64 x.kind, .int .i64 x.at_, .string (bS x.text), .int .u64 (x.n : Int)]).alloc (.cells #[.int .i64 y.kind, .int .i64 y.at_, .string (bS y.text), .int .u64 (y.n : Int)] 29)).cell 0
      have g1 := ((Blk.new wr 29 #[.int .i64 x.kind, .int .i64 x.at_, .string (bS x.text), .int .u64 (x.n : Int)]).alloc (.cells #[.int .i64 y.kind, .int .i64 y.at_, .string (bS y.text), .int .u64 (y.n : Int)] 29)).cell 1
      have g2 := ((Blk.new wr 29 #[.int .i64 x.kind, .int .i64 x.at_, .string (bS x.text), .int .u64 (x.n : Int)]).alloc (.cells #[.int .i64 y.kind, .int .i64 y.at_, .string (bS y.text), .int .u64 (y.n : Int)] 29)).cell 2
      have g3 := ((Blk.new wr 29 #[.int .i64 x.kind, .int .i64 x.at_, .string (bS x.text), .int .u64 (x.n : Int)]).alloc (.cells #[.int .i64 y.kind, .int .i64 y.at_, .string (bS y.text), .int .u64 (y.n : Int)] 29)).cell 3
      have HX := Lib.hid hx
      have HY := Lib.hid hy
      have HQ8 := Lib.hid q8
      clear hx hy s1 s2 q7 q8 h5 h6 h k
      go_wp2_with fail
      refine (same1_any x y _).mono ?_
      rintro e w5 ⟨rfl, q5⟩
      have HQ5 := Lib.hid (bl_ca HQ8.out q5)
      clear q5 HQ8 e0 e1 e2 e3 f0 f1 f2 f3 g0 g1 g2 g3
      by_cases hq : noAt x = noAt y
      · rw [decide_eq_true hq]
        have HN := Lib.hid (show ∀ (k : Nat) (x y : Tk), k < i + 1 → xs[k]? = some x → ys[k]? = some y → noAt x = noAt y from fun k x' y' hk h8 h9 => by
          rcases Nat.lt_or_ge k i with h7 | h7
          · exact HEQ.out k x' y' h7 h8 h9
          · obtain rfl : k = i := by omega
            rw [← at_eq' HX.out h8, ← at_eq' HY.out h9]
            exact hq)
        clear hq
        go_wp2
        go_roundg (gk - 1)
        · exact ⟨i + 1, by omega, by go_num, HN.out, bl_ca HB1.out HQ5.out⟩
        · omega
      · rw [decide_eq_false hq]
        have HQ := Lib.hid (HNO.out (fun h => hq (by
          have h8 := congrArg (fun z => z[i]?) h
          simp only [List.getElem?_map, HX.out, HY.out, Option.map_some, Option.some.injEq] at h8
          exact h8)))
        clear hq
        go_wp2
        go_ret
        exact ⟨ret_bool HQ.out.symm, bl_ca HB1.out HQ5.out⟩
    · obtain rfl : i = m := by omega
      have hi1 : (i : Int) ≤ (i : Int) := by omega
      have HQ := Lib.hid (HR.out.2 (by
        refine List.ext_getElem (by rw [List.length_map, List.length_map, HL.out.1, HL.out.2]) fun j h1 h2 => ?_
        rw [List.length_map] at h1 h2
        rw [List.getElem_map, List.getElem_map]
        exact HEQ.out j _ _ (by rw [← HL.out.1]; exact h1) (List.getElem?_eq_getElem h1) (List.getElem?_eq_getElem h2)))
      clear h5 h6
      go_wp2
      go_ret
      exact ⟨ret_bool HQ.out.symm, HB1.out⟩
set_option maxRecDepth 100000 in
theorem lsame_any (xs ys : List Tk) (A : Option Addr) (m c : Nat) (B : Option Addr) (n d : Nat) (w : World) (h : LT.rd w AllB A m xs) (k : LT.rd w AllB B n ys) (hm : m ≤ 9223372036854775807) :
    Calls Tryz.prog 11 #[.slice A m c, .slice B n d] w fun e w' => e = .returned (.bool (sameU xs ys)) ∧ Below w.heap.size w w' := by
  have H := Lib.hid (equalK xs ys A m c B n d w h k hm)
  clear h k hm
  go_enter Tryz.func11, Tryz.ntmps11
  go_wp2_with fail
  refine H.out.mono ?_
  rintro e w2 ⟨rfl, q2⟩
  go_wp2
  go_ret
  exact ⟨rfl, q2⟩
theorem Tryz.strInfo : (Tryz.prog.info? 9).map (fun i => (i.zero, i.size, i.bytes)) = some (some (.string ByteArray.empty), 1, 16) := by kernel_rfl
theorem join_wr : ∀ l : List Tk, Lib.join (l.map wrU) [32] = joinU l
  | [] => rfl
  | [t] => Lib.join_one _ _
  | t :: u :: l => by
    have ih := join_wr (u :: l)
    rw [List.map_cons] at ih
    rw [List.map_cons, List.map_cons, joinU, Lib.join_cons, ← ih, Lib.join_cons]
    simp [Lib.joinTail]
/-- what Print returns -/
def PrE (l : List Tk) (e : Ending) : Prop := e = .returned (.tuple (if l.all rightU then #[.string (bS (joinU l)), .int .i64 0] else #[.string (bS []), .int .i64 171]))
theorem PrE.no {l : List Tk} (h : l.all rightU = false) : PrE l (.returned (.tuple #[.string ⟨#[]⟩, .int .i64 171])) := by unfold PrE; rw [if_neg (by rw [h]; simp)]
theorem PrE.yes {l : List Tk} {S : ByteArray} (h : l.all rightU = true) (hS : S = bS (joinU l)) : PrE l (.returned (.tuple #[.string S, .int .i64 0])) := by unfold PrE; rw [if_pos h, hS]
set_option maxRecDepth 100000 in
set_option maxHeartbeats 16000000 in
theorem lprint_any (A : Option Addr) (m c : Nat) (l : List Tk) (w : World) (h : LT.rd w AllB A m l) (hm : m ≤ 600) (ht : ∀ t ∈ l, t.text.length ≤ 1000 ∧ t.n < 18446744073709551616) (hT : Tab w) : Calls Tryz.prog 10 #[.slice A m c] w fun e w' => PrE l e ∧ Below w.heap.size w w' := by
  have HL := Lib.hid (Lay.rd_len h)
  have HRD := Lib.hid h
  have HT := Lib.hid ht
  have HTB := Lib.hid hT
  clear h ht hT
  go_enter Tryz.func10, Tryz.ntmps10
  go_wp2_with fail
  go_loopg [4, 10] m (fun g a b wr => ∃ (i : Nat) (A2 : Option Addr) (c2 : Nat), i + g = m ∧ a = .slice A2 i c2 ∧ b = .int .i64 i ∧ LS.own 9 wr w.heap.size NoB A2 i c2 ((l.take i).map fun t => bS (wrU t)) ∧ Below w.heap.size w wr ∧ Hid ((l.take i).all rightU = true))
  case atStart => exact ⟨0, none, 0, by omega, rfl, rfl, Lay.own_nil _ _, Below.refl _ _, Lib.hid rfl⟩
  case round =>
    obtain ⟨i, A2, c2, hig, rfl, rfl, ho, hb, HI⟩ := hrel
    have HB := Lib.hid hb
    have HO := Lib.hid ho
    by_cases hlt : i < m
    · have hi1 : (i : Int) < (m : Int) := by omega
      obtain ⟨ad, t, rfl, hx, st⟩ := LT_at (Lay.rd_below HRD.out hb) hlt
      have e0 := st.c0
      have e1 := st.c1
      have e2 := st.c2
      have e3 := st.c3
      have HX := Lib.hid hx
      have HTT := Lib.hid (HT.out t (List.mem_of_getElem? hx))
      have HTK := Lib.hid (show l.take (i + 1) = l.take i ++ [t] from by rw [List.take_add_one, hx]; rfl)
      have q7 := bl_al (Below.refl wr.heap.size wr) (.cells #[.int .i64 t.kind, .int .i64 t.at_, .string (bS t.text), .int .u64 (t.n : Int)] 29)
      have HQ7 := Lib.hid (bl_ca hb q7)
      have HBT := Lib.hid (Blk.new wr 29 #[.int .i64 t.kind, .int .i64 t.at_, .string (bS t.text), .int .u64 (t.n : Int)])
      have HO7 := Lib.hid (Lay.own_below ho q7)
      have HTB7 := Lib.hid (HTB.out.below HQ7.out)
      clear st hx q7 ho hb
      go_wp2_with fail
      refine (lcheck_any t _ HTT.out.1 HTT.out.2 HTB7.out).mono ?_
      rintro e w5 ⟨rfl, q5⟩
      have HQ5 := Lib.hid (bl_ca HQ7.out q5)
      have HBT5 := Lib.hid (HBT.out.ca q5)
      have HO5 := Lib.hid (Lay.own_below HO7.out q5)
      have HTB5 := Lib.hid (HTB7.out.below q5)
      clear q5 HQ7 HO7 HTB7 HBT e0 e1 e2 e3
      obtain ⟨q, hq⟩ : ∃ q, q = rightU t := ⟨_, rfl⟩
      rw [← hq]
      have HQ := Lib.hid hq
      clear hq
      cases q
      · have HF := Lib.hid (show l.all rightU = false from by
          rw [Bool.eq_false_iff]
          intro h9
          have := List.all_eq_true.1 h9 t (List.mem_of_getElem? HX.out)
          rw [← HQ.out] at this
          cases this)
        rw [show chkE false = 171 from rfl]
        go_wp2
        go_ret2
        exact ⟨PrE.no HF.out, HQ5.out⟩
      · rw [show chkE true = 0 from rfl]
        have x0 := HBT5.out.cell 0
        have x1 := HBT5.out.cell 1
        have x2 := HBT5.out.cell 2
        have x3 := HBT5.out.cell 3
        simp at x0 x1 x2 x3
        go_wp2_with fail
        refine (lwritten_any t.kind t.at_ t.text t.n _ HTT.out.1 HTT.out.2 HTB5.out).mono ?_
        rintro e w6 ⟨rfl, q6⟩
        have HQ6 := Lib.hid (bl_ca HQ5.out q6)
        have HO6 := Lib.hid (Lay.own_alloc (Lay.own_below HO5.out q6) (.cells #[.string (bS (wrU t))] 9))
        have HQ8 := Lib.hid (bl_al HQ6.out (.cells #[.string (bS (wrU t))] 9))
        have HBB := Lib.hid (Blk.new w6 9 #[.string (bS (wrU t))])
        clear q6 x0 x1 x2 x3
        have HALL := Lib.hid (show (l.take (i + 1)).all rightU = true from by rw [HTK.out, List.all_append, HI.out, List.all_cons, ← HQ.out]; rfl)
        go_wp2_with (at_builtin; refine wpList_appL (L := LS) rfl (.tmp 19) (.tmp 22) 44 rfl _ 1 16 Tryz.underlying44 Tryz.strInfo rfl rfl (by omega) w.heap.size NoB A2 i c2 ((l.take i).map fun t => bS (wrU t)) w6.heap.size 1 9 #[.string (bS (wrU t))] (bS (wrU t)) rfl rfl HO6.out HBB.out rfl (fun b hb => hb.elim) (by omega) (by unfold maxLen; omega) HQ8.out.size ?_; intro A3 c3 w3 ho3 hb3)
        go_roundg (gk - 1)
        · exact ⟨i + 1, A3, c3, by omega, rfl, by go_num, by rw [HTK.out, List.map_append]; exact ho3, HQ8.out.trans hb3, HALL⟩
        · omega
    · obtain rfl : i = m := by omega
      have hi1 : (i : Int) ≤ (i : Int) := by omega
      have HALL := Lib.hid (show l.all rightU = true from by have := HI.out; rwa [List.take_of_length_le (by rw [HL.out]; exact Nat.le_refl _)] at this)
      have ho2 := ho
      rw [List.take_of_length_le (by rw [HL.out]; exact Nat.le_refl _)] at ho2
      rcases Nat.eq_zero_or_pos i with h0 | h0
      · have HJ := Lib.hid (show (⟨#[]⟩ : ByteArray) = bS (joinU l) from by rw [show l = [] from List.eq_nil_of_length_eq_zero (by rw [HL.out]; exact h0)]; rfl)
        subst h0
        clear ho ho2 hb
        go_wp2_with fail
        refine (Tryz.strings_Join_none _ _ _ _).mono ?_
        rintro e w6 ⟨rfl, rfl⟩
        go_wp2
        go_ret2
        exact ⟨PrE.yes HALL.out HJ.out, HB.out⟩
      · have hrd := Lay.own_rd (F := AllB) ho2 (fun _ _ _ => trivial) (fun _ h _ => h.elim)
        obtain ⟨hl2, cs, hreps, hcc⟩ := hrd
        obtain ⟨ad, rfl, hbk, _, hcell⟩ := hcc h0
        have hcs : cs = (l.map fun t => Value.string (bS (wrU t))) := by
          have : ∀ (ys : List ByteArray) (cs : List Value), LS.reps wr AllB ys cs → cs = ys.map fun s => Value.string s := by
            intro ys
            induction ys with
            | nil => intro cs h; exact h
            | cons y ys ih =>
              intro cs h
              obtain ⟨x, z, rfl, hx, hz⟩ := h
              obtain rfl : x = [.string y] := hx
              rw [ih z hz]; rfl
          rw [this _ _ hreps, List.map_map]; rfl
        have hown2 := ho2
        obtain ⟨_, _, _, hrow⟩ := hown2
        obtain ⟨g, cap, hv, hcap, hlt2⟩ := World.ownsRow.form hrow h0
        have hA : some ad = some ⟨g, 0, none⟩ := by injection hv
        injection hA with hA
        subst hA
        have hcapc : i ≤ c2 := (Lay.own_caps ho2).1
        have hdat : (l.map fun t => bS (wrU t)).map (·.data.toList) = l.map wrU := by rw [List.map_map]; rfl
        have hjl : (Lib.join ((l.map fun t => bS (wrU t)).map (·.data.toList)) [32]).length ≤ 140737488355328 := by
          rw [hdat, join_wr]
          have key : ∀ (l : List Tk), (∀ t ∈ l, t.text.length ≤ 1000 ∧ t.n < 18446744073709551616) → (joinU l).length ≤ 2003 * l.length := by
            intro l
            induction l with
            | nil => intro _; simp [joinU]
            | cons t l ih =>
              intro ht
              have h1 := wr_len (ht t (by simp)).1 (ht t (by simp)).2
              have h2 := ih (fun u hu => ht u (by simp [hu]))
              cases l with
              | nil => rw [joinU]; simp only [List.length_cons, List.length_nil]; omega
              | cons u l => rw [joinU]; simp only [List.length_cons, List.length_append] at h2 ⊢; omega
          have := key l HT.out
          rw [HL.out] at this
          omega
        have HJO := Lib.hid (Tryz.strings_Join g 0 c2 (l.map fun t => bS (wrU t)) ⟨#[32]⟩ wr (fun j x hx => by
          rw [List.getElem?_map] at hx
          obtain ⟨t, ht, rfl⟩ := Option.map_eq_some_iff.1 hx
          rw [Nat.zero_add]
          have := hcell j (.string (bS (wrU t))) (by rw [hcs, List.getElem?_map, ht]; rfl)
          rwa [show (⟨g, 0, none⟩ : Addr).add j = ⟨g, j, none⟩ from by unfold Addr.add; split <;> simp_all] at this) hbk (by rw [List.length_map, HL.out]; omega) (by rw [List.length_map, HL.out]; exact hcapc) hjl)
        rw [List.length_map, HL.out] at HJO
        have HJ := Lib.hid (show (⟨(Lib.join ((l.map fun t => bS (wrU t)).map (·.data.toList)) (⟨#[32]⟩ : ByteArray).data.toList).toArray⟩ : ByteArray) = bS (joinU l) from by rw [hdat]; exact congrArg bS (join_wr l))
        clear ho ho2 hb hl2 hreps hcc hcell hbk hcs hrow hv hcapc hdat hjl hlt2 hcap
        go_wp2_with fail
        refine HJO.out.mono ?_
        rintro e w6 ⟨rfl, q6⟩
        rw [HJ.out]
        have HQ6 := Lib.hid (bl_ca HB.out q6)
        clear q6
        go_wp2
        go_ret2
        exact ⟨PrE.yes HALL.out rfl, HQ6.out⟩
end Go.Proofs.YtnpicnddcoaboaaGreatDoor
