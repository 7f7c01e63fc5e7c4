/- The layer's Print. Conditions: the slice reads so; what the tables hold; names are not endless. -/
import Derived.Test.YthgcdilkkldgjaaDoorCWs
namespace Go.Proofs.YthgcdilkkldgjaaDoor
open Go.RowKit
theorem strict_keys {n : Int} : ∀ {p : Int} {l : List Int}, strictB n p l = true → (l.length = 0 ∨ (l.length : Int) < n - p) ∧ ∀ (j : Nat) (k : Int), l[j]? = some k → p < k ∧ k < n
  | _, [], _ => ⟨.inl rfl, fun j k h => by simp at h⟩
  | p, x :: l, h => by
    simp only [strictB, Bool.and_eq_true, decide_eq_true_eq] at h
    obtain ⟨h1, h2, h3⟩ := h
    obtain ⟨a, b⟩ := strict_keys h3
    refine ⟨.inr ?_, fun j k hk => ?_⟩
    · rw [List.length_cons]; rcases a with a | a <;> omega
    · cases j with
      | zero => simp at hk; subst hk; exact ⟨h1, h2⟩
      | succ j => have := b j k (by simpa using hk); exact ⟨by omega, this.2⟩
theorem TabP.keys {t : TC} (h : TabP t) : t.keys.length ≤ 4 ∧ ∀ (j : Nat) (k : Int), t.keys[j]? = some k → 0 ≤ k ∧ k < (t.cols.length : Int) := by
  obtain ⟨a, b⟩ := strict_keys h.ks
  have := h.hi
  refine ⟨by rcases a with a | a <;> omega, fun j k hk => ?_⟩
  have := b j k hk
  exact ⟨by omega, this.2⟩
theorem joinTail_len {N : Nat} : ∀ (xs : List (List UInt8)), (∀ x ∈ xs, x.length ≤ N) → (Lib.joinTail [32] xs).length ≤ xs.length * (N + 1)
  | [], _ => by simp [Lib.joinTail]
  | x :: l, h => by
    have h1 := joinTail_len l (fun y hy => h y (List.mem_cons_of_mem _ hy))
    have h2 := h x List.mem_cons_self
    have h3 : Lib.joinTail [32] (x :: l) = ([32] ++ x) ++ Lib.joinTail [32] l := by unfold Lib.joinTail; simp
    rw [h3]
    simp only [List.length_append, List.length_cons, List.length_nil, Nat.add_mul]
    omega
theorem join_len {N : Nat} (xs : List (List UInt8)) (h : ∀ x ∈ xs, x.length ≤ N) : (Lib.join xs [32]).length ≤ xs.length * (N + 1) := by
  cases xs with
  | nil => simp [Lib.join_nil]
  | cons x l =>
    have h1 := joinTail_len l (fun y hy => h y (List.mem_cons_of_mem _ hy))
    have h2 := h x List.mem_cons_self
    rw [Lib.join_cons, List.length_append, List.length_cons, Nat.add_mul]
    omega
theorem wordS_len (k : Int) : (wordS k).size ≤ 4 := by
  unfold wordS
  repeat' split
  all_goals decide
theorem nameAt_len {t : TC} (h : Sz t) (k : Int) : (nameAt t k).size ≤ 100000 := by
  unfold nameAt
  cases hk : t.cols[k.toNat]? with
  | none => exact Nat.zero_le _
  | some c => exact h.2 _ _ hk
theorem lineL_len {t : TC} (h : Sz t) (h1 : t.cols.length ≤ 4) (h2 : t.keys.length ≤ 4) : (lineL t).length ≤ 2000000 := by
  have hm : ∀ x ∈ lineW t, x.size ≤ 100000 := by
    intro x hx
    unfold lineW at hx
    simp only [List.mem_append, List.mem_cons] at hx
    rcases hx with (rfl | rfl | hx) | hx
    · decide
    · exact h.1
    · unfold colsW colW at hx
      simp only [List.mem_flatMap, List.mem_cons, List.not_mem_nil, or_false] at hx
      obtain ⟨c, hc, rfl | rfl⟩ := hx
      · obtain ⟨k, hk, e⟩ := List.getElem_of_mem hc
        exact h.2 k c (by rw [← e]; exact List.getElem?_eq_getElem hk)
      · have := wordS_len c.kind; omega
    · split at hx
      · cases hx
      · simp only [List.mem_cons] at hx
        rcases hx with rfl | hx
        · decide
        · unfold keysW at hx
          simp only [List.mem_map] at hx
          obtain ⟨k, _, rfl⟩ := hx
          exact nameAt_len h k
  have hl : (lineW t).length ≤ 15 := by
    unfold lineW
    rw [List.length_append, List.length_cons, List.length_cons, colsW_len]
    split
    · rw [List.length_nil]; omega
    · rw [List.length_cons]; unfold keysW; rw [List.length_map]; omega
  have hj := join_len (N := 100000) ((lineW t).map (·.data.toList)) (fun x hx => by
    rw [List.mem_map] at hx
    obtain ⟨y, hy, rfl⟩ := hx
    have := hm y hy
    rw [Array.length_toList]
    exact this)
  rw [List.length_map] at hj
  unfold lineL
  rw [List.length_append]
  have : (lineW t).length * (100000 + 1) ≤ 15 * 100001 := Nat.mul_le_mul hl (Nat.le_refl _)
  simp only [List.length_singleton]
  omega
noncomputable def linesL (l : List TC) : List UInt8 := l.flatMap lineL
noncomputable def prS (l : List TC) : ByteArray := if catB l = true then ⟨(linesL l).toArray⟩ else ⟨#[]⟩
theorem linesL_snoc (l : List TC) (t : TC) : linesL (l ++ [t]) = linesL l ++ lineL t := by unfold linesL; rw [List.flatMap_append]; simp
theorem linesL_len {l : List TC} (h : ∀ t ∈ l, (lineL t).length ≤ 2000000) : (linesL l).length ≤ l.length * 2000000 := by
  induction l with
  | nil => simp [linesL]
  | cons t l ih =>
    have h1 := ih (fun x hx => h x (List.mem_cons_of_mem _ hx))
    have h2 := h t List.mem_cons_self
    show (lineL t ++ linesL l).length ≤ _
    rw [List.length_append, List.length_cons, Nat.add_mul]
    omega
theorem cells_append (a : List UInt8) (s : List UInt8) : Lib.byteCells a ++ Lib.strCells ⟨s.toArray⟩ = Lib.byteCells (a ++ s) := by
  unfold Lib.byteCells Lib.strCells
  simp
set_option maxRecDepth 100000 in
set_option maxHeartbeats 16000000 in
theorem print_any (F : Nat → Prop) (l : List TC) (A : Option Addr) (m c : Nat) (w : World) (h : LT3.rd w F A m l) (hm : m ≤ 100000) (hT : Tab w) (hs : ∀ (k : Nat) (t : TC), l[k]? = some t → Sz t) :
    Calls Tryd.prog 28 #[.agg #[.slice A m c]] w fun e w' => e = .returned (.tuple #[.string (prS l), .int .i64 (eC (catB l))]) ∧ Below w.heap.size w w' := by
  have HL := Lib.hid (Lay.rd_len h)
  have HS := Lib.hid hs
  have q1 := bl_al (Below.refl w.heap.size w) (.cells #[.slice A m c] 24)
  have HRD := Lib.hid (Lay.rd_below h q1)
  have HTB := Lib.hid (hT.below q1)
  have HB := Lib.hid (Blk.new w 24 #[.slice A m c])
  have HQ1 := Lib.hid q1
  have hs1 : (w.alloc (.cells #[.slice A m c] 24)).heap.size = w.heap.size + 1 := by simp only [World.size_alloc]
  have y0 := HB.out.cell 0
  clear q1 h hs hT
  have HP := Lib.hid (show prS l = if catB l = true then ⟨(linesL l).toArray⟩ else ⟨#[]⟩ from rfl)
  generalize prS l = PS at *
  obtain ⟨cb, hcb⟩ : ∃ cb, cb = catB l := ⟨_, rfl⟩
  rw [← hcb] at HP ⊢
  have HCB := Lib.hid hcb
  clear hcb
  go_enter Tryd.func28, Tryd.ntmps28
  go_wp2_with fail
  generalize w.alloc (.cells #[.slice A m c] 24) = w1 at *
  refine (check_any F l A m c w1 HRD.out (by omega) HTB.out HS.out).mono ?_
  rintro e w2 ⟨rfl, q2⟩
  clear y0
  have HB2 := Lib.hid (HB.out.ca q2)
  have HRD2 := Lib.hid (Lay.rd_below HRD.out q2)
  have HTB2 := Lib.hid (HTB.out.below q2)
  have HQ2 := Lib.hid (bl_ca HQ1.out q2)
  have hs2 := q2.size
  clear q2 HB HRD HTB HQ1
  rw [← HCB.out]
  cases cb
  · rw [show eC false = 210 from rfl]
    have HF := Lib.hid (show PS = ⟨#[]⟩ from by rw [HP.out, if_neg (by simp)])
    go_wp2
    exact bodyPost_ret (results_tmp2 Tryd.results28 _ _ _) rfl ⟨by rw [HF.out]; rfl, HQ2.out⟩
  rw [show eC true = 0 from rfl]
  have HF := Lib.hid (show PS = ⟨(linesL l).toArray⟩ from by rw [HP.out, if_pos rfl])
  have HCP := Lib.hid ((catB_iff l).1 HCB.out.symm)
  have hm4 : m ≤ 4 := by have := HCP.out.hi; rw [HL.out] at this; exact this
  have q3 := bl_al (Below.refl w2.heap.size w2) (.cells #[.pointer none, .slice none 0 0] 81)
  have HFB := Lib.hid (Lib.fresh_isBuilder 81 5 w2)
  have HB3 := Lib.hid (HB2.out.alloc (.cells #[.pointer none, .slice none 0 0] 81))
  have HRD3 := Lib.hid (Lay.rd_below HRD2.out q3)
  have HTB3 := Lib.hid (HTB2.out.below q3)
  have HQ3 := Lib.hid q3
  have y0 := HB3.out.cell 0
  have hs3 : (w2.alloc (.cells #[.pointer none, .slice none 0 0] 81)).heap.size = w2.heap.size + 1 := by simp only [World.size_alloc]
  clear q3 HB2 HP HCB
  go_wp2_with fail
  generalize w2.alloc (.cells #[.pointer none, .slice none 0 0] 81) = w3 at *
  clear y0
  go_loopg [16] m (fun g b wr => ∃ (i : Nat), i + g = m ∧ b = .int .i64 i ∧ Lib.IsBuilder 81 5 w2.heap.size w2.heap.size (Lib.byteCells (linesL (l.take i))) wr ∧ Below w2.heap.size w2 wr)
  case atStart => exact ⟨0, by omega, rfl, HFB.out, HQ3.out⟩
  case round =>
    obtain ⟨i, hig, rfl, hib, hbel⟩ := hrel
    have HIB := Lib.hid hib
    have HBL := Lib.hid hbel
    have hsz := hbel.size
    clear hib hbel HFB
    have hqc : Below w.heap.size w wr := bl_ca HQ2.out HBL.out
    have HQC := Lib.hid hqc
    clear hqc
    by_cases hlt : i < m
    · have hi1 : (i : Int) < (m : Int) := by omega
      obtain ⟨p, t, A1, n1, c1, B1, m1, d1, hAe, hx, s1⟩ := LT3_at (Lay.rd_below HRD2.out HBL.out) hlt
      obtain rfl : A = some p := hAe
      have HT := Lib.hid (take_next hx)
      have HSZ := Lib.hid (HS.out i t hx)
      have HTP := Lib.hid ((tabB_iff t).1 (HCP.out.ok i t hx))
      have hlc := Lay.rd_len s1.rd
      have hlk := Lay.rd_len s1.rk
      have hn1 : n1 ≤ 4 := by have := HTP.out.hi; omega
      have hm1 : m1 ≤ 4 := by have := HTP.out.keys.1; omega
      have hll := lineL_len HSZ.out HTP.out.hi HTP.out.keys.1
      have HLL := Lib.hid hll
      have e0 := s1.c0
      have e1 := s1.c1
      have e2 := s1.c2
      have q5 := bl_al (Below.refl wr.heap.size wr) (.cells (t.cells A1 n1 c1 B1 m1 d1) 28)
      have HCL := Lib.hid (line_any F F t A1 n1 c1 B1 m1 d1 _ (Lay.rd_below s1.rd q5) (Lay.rd_below s1.rk q5) hn1 hm1 (fun j k hk => by have := HTP.out.keys.2 j k hk; rw [hlc] at this; exact this) ((HTB2.out.below HBL.out).below q5) (by omega))
      have HIB5 := Lib.hid (isb_below HIB.out q5)
      have HB5 := Lib.hid (bl_ca HBL.out q5)
      have HLEN := Lib.hid (show (linesL (l.take i)).length ≤ 10000000 from by
        have h9 := linesL_len (l := l.take i) (fun x hx => by
          obtain ⟨k, hk, e⟩ := List.getElem_of_mem (List.mem_of_mem_take hx)
          have h8 : l[k]? = some x := by rw [← e]; exact List.getElem?_eq_getElem hk
          have h7 := (tabB_iff x).1 (HCP.out.ok k x h8)
          exact lineL_len (HS.out k x h8) h7.hi h7.keys.1)
        rw [List.length_take] at h9
        omega)
      have hs5 : (wr.alloc (.cells (t.cells A1 n1 c1 B1 m1 d1) 28)).heap.size = wr.heap.size + 1 := by simp only [World.size_alloc]
      clear hx s1 q5 hlc hlk hn1 hm1 hll HIB HBL
      go_wp2_with fail
      generalize wr.alloc (.cells (t.cells A1 n1 c1 B1 m1 d1) 28) = w5 at *
      refine HCL.out.mono ?_
      rintro e w6 ⟨rfl, q6⟩
      have HIB6 := Lib.hid (isb_below HIB5.out q6)
      have HB6 := Lib.hid (bl_ca HB5.out q6)
      have hs6 := q6.size
      clear q6 HIB5 HB5 HCL e0 e1 e2
      obtain ⟨LL, hLL⟩ : ∃ LL, LL = lineL t := ⟨_, rfl⟩
      have HLN := Lib.hid (show linesL (l.take (i + 1)) = linesL (l.take i) ++ LL from by rw [HT.out, linesL_snoc, hLL])
      have HLS := Lib.hid (show (Lib.byteCells (linesL (l.take i))).length + (⟨LL.toArray⟩ : ByteArray).size ≤ 140737488355328 from by
        have h8 := HLL.out
        have h9 := HLEN.out
        rw [← hLL] at h8
        rw [Lib.byteCells_length]
        show _ + LL.toArray.size ≤ _
        rw [List.size_toArray]
        omega)
      rw [← hLL]
      clear hLL
      go_wp2_with fail
      refine (writeString_any w2.heap.size w2.heap.size _ ⟨LL.toArray⟩ _ HIB6.out HLS.out (by omega)).mono ?_
      rintro e w7 ⟨rfl, h7, b7⟩
      have HB7 := Lib.hid (HB6.out.trans b7)
      have HI7 : Hid (Lib.IsBuilder 81 5 w2.heap.size w2.heap.size (Lib.byteCells (linesL (l.take (i + 1)))) w7) := Lib.hid (by rw [HLN.out, ← cells_append]; exact .inr h7)
      clear b7 h7 HB6 HIB6
      go_wp2_with fail
      go_roundg (gk - 1)
      · exact ⟨i + 1, by omega, by go_num, HI7.out, HB7.out⟩
      · omega
    · obtain rfl : i = m := by omega
      have hi1 : (i : Int) ≤ (i : Int) := by omega
      have HTK := Lib.hid (show l.take i = l from List.take_of_length_le (by rw [HL.out]; exact Nat.le_refl _))
      go_wp2_with fail
      refine (Tryd.Builder_String_any w2.heap.size w2.heap.size (linesL (l.take i)) _ HIB.out (by omega)).mono ?_
      rintro e w7 ⟨rfl, q7⟩
      have HB7 := Lib.hid (HBL.out.trans q7)
      clear q7
      rw [HTK.out]
      go_wp2
      exact bodyPost_ret (results_tmp2 Tryd.results28 _ _ _) rfl ⟨by rw [HF.out]; rfl, bl_ca HQ2.out HB7.out⟩
end Go.Proofs.YthgcdilkkldgjaaDoor
