/- How long a query is, as it is written, in plain Lean; what each round of Print adds. Conditions: a query that may be. -/
import Derived.Test.YtoaggmldekejoaaGreatDoorPkQ20
namespace Go.Proofs.YtoaggmldekejoaaGreatDoor
theorem addW_le (acc s : List UInt8) : (addW acc s).length ≤ acc.length + (s.length + 1) := by
 unfold addW
 split
 · omega
 · split
   · omega
   · rw [List.length_append, List.length_cons]; omega
def sumL : List (List UInt8) → Nat
 | [] => 0
 | s :: l => (s.length + 1) + sumL l
theorem wordsP_le : ∀ (l : List (List UInt8)) (acc : List UInt8), (wordsP acc l).length ≤ acc.length + sumL l
 | [], _ => Nat.le_refl _
 | s :: l, acc => by
  have h1 := wordsP_le l (addW acc s)
  have h2 := addW_le acc s
  show (wordsP (addW acc s) l).length ≤ acc.length + ((s.length + 1) + sumL l)
  omega
theorem joinC_le {K : Nat} : ∀ (l : List (List UInt8)), (∀ x ∈ l, x.length ≤ K) → (joinC l).length ≤ l.length * (K + 2)
 | [], _ => Nat.zero_le _
 | [x], h => by
  have := h x (by simp)
  show x.length ≤ 1 * (K + 2)
  omega
 | x :: y :: l, h => by
  have h1 := h x (by simp)
  have h2 := joinC_le (y :: l) (fun z hz => h z (by simp [hz]))
  rw [joinC, List.length_append, List.length_append]
  rw [show (x :: y :: l).length * (K + 2) = (y :: l).length * (K + 2) + (K + 2) from by rw [List.length_cons (a := x), Nat.succ_mul]]
  have h3 : ([44, 32] : List UInt8).length = 2 := rfl
  omega
theorem rowP_le {K : Nat} (acc w : List UInt8) (l : List (List UInt8)) (h : ∀ x ∈ l, x.length ≤ K) : (rowP acc w l).length ≤ acc.length + (w.length + 1) + (l.length * (K + 2) + 1) := by
 unfold rowP
 split
 · omega
 · have h1 := wordsP_le [w, joinC l] acc
   have h2 := joinC_le l h
   have h3 : sumL [w, joinC l] = (w.length + 1) + (((joinC l).length + 1) + 0) := rfl
   omega
theorem onP_le (acc w : List UInt8) (t : List Nd) (h : noneB t = true) (hr : RgT t) : (onP acc w t).length ≤ acc.length + (w.length + 1) + 36001 := by
 unfold onP
 split
 · omega
 · next hn =>
   have hk : okF t = true := by unfold noneB at h; rw [Bool.or_eq_true, decide_eq_true_eq] at h; exact h.resolve_left fun e => hn (List.eq_nil_of_length_eq_zero e)
   have h1 := wordsP_le [w, prN t] acc
   have h2 := prN_len hk hr
   have h3 : sumL [w, prN t] = (w.length + 1) + (((prN t).length + 1) + 0) := rfl
   omega
theorem when_le (b : Bool) (s : List UInt8) : (whenP b s).length ≤ s.length := by cases b <;> simp [whenP]
theorem ok_none {t : List Nd} (h : okF t = true) : noneB t = true := by unfold noneB; rw [h, Bool.or_true]
theorem nmP_le {z : QN} (h : nmB z = true) : (nmP z).length ≤ 40 := by
 unfold nmB at h
 rw [Bool.and_eq_true] at h
 have h1 := name_len h.1
 have h2 := may_size h.2
 have e1 : z.nm.data.toList.length = z.nm.size := rfl
 have e2 : z.tb.data.toList.length = z.tb.size := rfl
 unfold nmP namU
 split
 · omega
 · rw [List.length_append, List.length_cons]; omega
theorem itemP_le {z : QI} (h : itemB z = true) (hr : RgT z.t) : (itemP z).length ≤ 36100 := by
 unfold itemB at h
 rw [Bool.and_eq_true] at h
 have h1 := prN_len h.1 hr
 have h2 := may_size h.2
 have e2 : z.as_.data.toList.length = z.as_.size := rfl
 rw [itemP]
 split
 · rw [List.length_append]; simp only [List.length_nil]; omega
 · simp only [List.length_append, List.length_cons, wAS, List.length_nil]; omega
theorem joinP_le (acc : List UInt8) (j : QJ) (h : joinB j = true) (hr : RgT j.on) : (joinP acc j).length ≤ acc.length + 37000 := by
 unfold joinB at h
 simp only [Bool.and_eq_true] at h
 have h1 := name_len h.2.1
 have h2 := may_size h.2.2
 have e1 : j.tb.data.toList.length = j.tb.size := rfl
 have e2 : j.as_.data.toList.length = j.as_.size := rfl
 have h3 := onP_le (wordsP acc [whenP j.left wLEFT, wJOIN, j.tb.data.toList, j.as_.data.toList]) wON j.on (ok_none h.1) hr
 have h4 := wordsP_le [whenP j.left wLEFT, wJOIN, j.tb.data.toList, j.as_.data.toList] acc
 have h5 : sumL [whenP j.left wLEFT, wJOIN, j.tb.data.toList, j.as_.data.toList] = ((whenP j.left wLEFT).length + 1) + ((wJOIN.length + 1) + ((j.tb.data.toList.length + 1) + ((j.as_.data.toList.length + 1) + 0))) := rfl
 have h6 := when_le j.left wLEFT
 have h7 : wLEFT.length = 4 := rfl
 have h8 : wJOIN.length = 4 := rfl
 have h9 : wON.length = 2 := rfl
 unfold joinP
 omega
theorem joinsP_le : ∀ (l : List QJ) (acc : List UInt8), l.all joinB = true → (∀ j ∈ l, RgT j.on) → (l.foldl joinP acc).length ≤ acc.length + l.length * 37000
 | [], _, _, _ => by simp
 | j :: l, acc, h, hr => by
  rw [List.all_cons, Bool.and_eq_true] at h
  have h1 := joinP_le acc j h.1 (hr j (by simp))
  have h2 := joinsP_le l (joinP acc j) h.2 (fun k hk => hr k (by simp [hk]))
  rw [List.foldl_cons, List.length_cons, Nat.succ_mul]
  omega
theorem selP_le (acc : List UInt8) (s : QS) (h : selB s = true) (hg : RgS s) : (selP acc s).length ≤ acc.length + 1000000 := by
 unfold selB selShape at h
 simp only [Bool.and_eq_true, decide_eq_true_eq] at h
 obtain ⟨⟨_, hi, hj, hp⟩, ⟨hf, hfa⟩, hit, hjo, hgr, hwh, hhv⟩ := h
 obtain ⟨gi, gj, gw, gh⟩ := hg
 have z1 := name_len hf
 have z2 := may_size hfa
 have e1 : s.ftb.data.toList.length = s.ftb.size := rfl
 have e2 : s.fas.data.toList.length = s.fas.size := rfl
 obtain ⟨A0, hA0⟩ : ∃ a, a = wordsP acc [wSELECT, whenP s.dis wDISTINCT, whenP s.star [42]] := ⟨_, rfl⟩
 obtain ⟨A1, hA1⟩ : ∃ a, a = rowP A0 [] (s.items.map itemP) := ⟨_, rfl⟩
 obtain ⟨A2, hA2⟩ : ∃ a, a = wordsP A1 [wFROM, s.ftb.data.toList, s.fas.data.toList] := ⟨_, rfl⟩
 obtain ⟨A3, hA3⟩ : ∃ a, a = s.joins.foldl joinP A2 := ⟨_, rfl⟩
 obtain ⟨A4, hA4⟩ : ∃ a, a = onP A3 wWHERE s.wh := ⟨_, rfl⟩
 obtain ⟨A5, hA5⟩ : ∃ a, a = rowP A4 wGROUPBY (s.grp.map nmP) := ⟨_, rfl⟩
 have hS : selP acc s = onP A5 wHAVING s.hv := by rw [hA5, hA4, hA3, hA2, hA1, hA0]; rfl
 have q0 := wordsP_le [wSELECT, whenP s.dis wDISTINCT, whenP s.star [42]] acc
 have q0' : sumL [wSELECT, whenP s.dis wDISTINCT, whenP s.star [42]] = (wSELECT.length + 1) + (((whenP s.dis wDISTINCT).length + 1) + (((whenP s.star [42]).length + 1) + 0)) := rfl
 have d1 := when_le s.dis wDISTINCT
 have d2 := when_le s.star [42]
 have q1 := rowP_le (K := 36100) A0 [] (s.items.map itemP) (fun x hx => by
  obtain ⟨y, hy, rfl⟩ := List.mem_map.1 hx
  exact itemP_le (List.all_eq_true.1 hit y hy) (gi y hy))
 have q2 := wordsP_le [wFROM, s.ftb.data.toList, s.fas.data.toList] A1
 have q2' : sumL [wFROM, s.ftb.data.toList, s.fas.data.toList] = (wFROM.length + 1) + ((s.ftb.data.toList.length + 1) + ((s.fas.data.toList.length + 1) + 0)) := rfl
 have q3 := joinsP_le s.joins A2 hjo gj
 have q4 := onP_le A3 wWHERE s.wh hwh gw
 have q5 := rowP_le (K := 40) A4 wGROUPBY (s.grp.map nmP) (fun x hx => by
  obtain ⟨y, hy, rfl⟩ := List.mem_map.1 hx
  exact nmP_le (List.all_eq_true.1 hgr y hy))
 have q6 := onP_le A5 wHAVING s.hv hhv gh
 rw [← hA0] at q0
 rw [← hA1] at q1
 rw [← hA2] at q2
 rw [← hA3] at q3
 rw [← hA4] at q4
 rw [← hA5] at q5
 rw [List.length_map] at q1 q5
 have l1 : wSELECT.length = 6 := rfl
 have l2 : wDISTINCT.length = 8 := rfl
 have l3 : ([42] : List UInt8).length = 1 := rfl
 have l4 : ([] : List UInt8).length = 0 := rfl
 have l5 : wFROM.length = 4 := rfl
 have l6 : wWHERE.length = 5 := rfl
 have l7 : wGROUPBY.length = 8 := rfl
 have l8 : wHAVING.length = 6 := rfl
 rw [hS]
 clear hA0 hA1 hA2 hA3 hA4 hA5 hS
 omega
theorem selsP_le : ∀ (l : List QS) (k : Nat) (acc : List UInt8), l.all selB = true → (∀ s ∈ l, RgS s) → (selsP k acc l).length ≤ acc.length + l.length * 1000100
 | [], _, _, _, _ => by simp [selsP]
 | s :: l, k, acc, h, hg => by
  rw [List.all_cons, Bool.and_eq_true] at h
  have h1 := wordsP_le [whenP (decide (0 < k)) wUNIONALL] acc
  have h1' : sumL [whenP (decide (0 < k)) wUNIONALL] = ((whenP (decide (0 < k)) wUNIONALL).length + 1) + 0 := rfl
  have h2 := when_le (decide (0 < k)) wUNIONALL
  have h3 := selP_le (wordsP acc [whenP (decide (0 < k)) wUNIONALL]) s h.1 (hg s (by simp))
  have h4 := selsP_le l (k + 1) (selP (wordsP acc [whenP (decide (0 < k)) wUNIONALL]) s) h.2 (fun x hx => hg x (by simp [hx]))
  have h5 : wUNIONALL.length = 9 := rfl
  rw [selsP, List.length_cons, Nat.succ_mul]
  omega
theorem dec_len (n : Nat) (hn : n ≤ 2147483647) : (Lib.decDigits n).length ≤ 100 := by
 rw [Lib.decDigits_length]
 rcases Nat.eq_zero_or_pos n with h0 | h0
 · subst h0; rw [Lib.nDigits]; simp
 · have := Lib.numDigits_eq n h0 (by omega); split at this <;> omega
def RgQ (q : QC) : Prop := ∀ s ∈ q.sels, RgS s
theorem key_num {k : QK} (h : keyB k = true) : 0 ≤ k.num ∧ k.num ≤ 2147483647 := by
 unfold keyB at h
 simp only [Bool.or_eq_true, Bool.and_eq_true, decide_eq_true_eq] at h
 rcases h with h | h
 · exact h.2
 · omega
theorem key_size {k : QK} (h : keyB k = true) : k.nm.size ≤ 16 := by
 unfold keyB at h
 simp only [Bool.or_eq_true, Bool.and_eq_true, decide_eq_true_eq] at h
 rcases h with h | h
 · rw [ba_e h.1]; decide
 · exact name_len h.1
theorem keyP_le {k : QK} (h : keyB k = true) : (keyP k).length ≤ 120 := by
 have h1 := key_num h
 have h2 := key_size h
 have h3 := dec_len k.num.toNat (by omega)
 have e2 : k.nm.data.toList.length = k.nm.size := rfl
 have h5 : wDESC.length = 5 := rfl
 unfold keyP
 rw [List.length_append]
 split <;> split <;> (try rw [List.length_nil]) <;> omega
theorem qryP_le {q : QC} (h : qryB q = true) (hg : RgQ q) : (qryP q).length ≤ 10000000 := by
 unfold qryB at h
 simp only [Bool.and_eq_true, Bool.or_eq_true, decide_eq_true_eq] at h
 obtain ⟨⟨_, h3, hk3, hl⟩, hk, hs⟩ := h
 have h1 := selsP_le q.sels 0 [] hs hg
 have h2 := rowP_le (K := 120) (selsP 0 [] q.sels) wORDERBY (q.keys.map keyP) (fun x hx => by
  obtain ⟨y, hy, rfl⟩ := List.mem_map.1 hx
  exact keyP_le (List.all_eq_true.1 hk y hy))
 rw [List.length_map] at h2
 have h4 := wordsP_le [wLIMIT, Lib.decDigits q.lim.toNat] (rowP (selsP 0 [] q.sels) wORDERBY (q.keys.map keyP))
 have h4' : sumL [wLIMIT, Lib.decDigits q.lim.toNat] = (wLIMIT.length + 1) + (((Lib.decDigits q.lim.toNat).length + 1) + 0) := rfl
 have h5 := dec_len q.lim.toNat (by omega)
 have l1 : wORDERBY.length = 8 := rfl
 have l2 : wLIMIT.length = 5 := rfl
 have l3 : ([] : List UInt8).length = 0 := rfl
 unfold qryP
 simp only
 split <;> omega
/-! ### rounds of Print -/
theorem selsP_snoc : ∀ (l : List QS) (k : Nat) (acc : List UInt8) (s : QS), selsP k acc (l ++ [s]) = selP (wordsP (selsP k acc l) [whenP (decide (0 < k + l.length)) wUNIONALL]) s
 | [], k, acc, s => by simp [selsP]
 | x :: l, k, acc, s => by
  rw [List.cons_append, selsP, selsP, selsP_snoc l (k + 1)]
  rw [show k + 1 + l.length = k + (x :: l).length from by simp only [List.length_cons]; omega]
theorem selsP_take {l : List QS} {i : Nat} {s : QS} (h : l[i]? = some s) : selsP 0 [] (l.take (i + 1)) = selP (wordsP (selsP 0 [] (l.take i)) [whenP (decide (0 < i)) wUNIONALL]) s := by
 have hi : i < l.length := by
  rcases Nat.lt_or_ge i l.length with h' | h'
  · exact h'
  · rw [List.getElem?_eq_none h'] at h; cases h
 rw [List.take_add_one, h]
 show selsP 0 [] (l.take i ++ [s]) = _
 rw [selsP_snoc, List.length_take, Nat.min_eq_left (Nat.le_of_lt hi), Nat.zero_add]
theorem selP_mono (acc : List UInt8) (s : QS) : acc.length ≤ (selP acc s).length :=
 Nat.le_trans (wordsP_len _ _) (Nat.le_trans (rowP_len _ _ _) (Nat.le_trans (wordsP_len _ _) (Nat.le_trans (joinsP_len _ _) (Nat.le_trans (onP_len _ _ _) (Nat.le_trans (rowP_len _ _ _) (onP_len _ _ _))))))
theorem selsP_mono : ∀ (l : List QS) (k : Nat) (acc : List UInt8), acc.length ≤ (selsP k acc l).length
 | [], _, _ => Nat.le_refl _
 | s :: l, k, acc => Nat.le_trans (wordsP_len [whenP (decide (0 < k)) wUNIONALL] acc) (Nat.le_trans (selP_mono _ s) (selsP_mono l (k + 1) _))
theorem selsP_app : ∀ (l m : List QS) (k : Nat) (acc : List UInt8), selsP k acc (l ++ m) = selsP (k + l.length) (selsP k acc l) m
 | [], m, k, acc => by simp [selsP]
 | x :: l, m, k, acc => by
  rw [List.cons_append, selsP, selsP, selsP_app l m (k + 1)]
  rw [show k + 1 + l.length = k + (x :: l).length from by simp only [List.length_cons]; omega]
theorem selsP_takeLen (l : List QS) (i : Nat) : (selsP 0 [] (l.take i)).length ≤ (selsP 0 [] l).length := by
 have h : selsP 0 [] l = selsP (0 + (l.take i).length) (selsP 0 [] (l.take i)) (l.drop i) := by rw [← selsP_app, List.take_append_drop]
 rw [h]; exact selsP_mono _ _ _
def kyS (z : QK) : ByteArray := bS (keyP z)
theorem kyS_map (l : List QK) : (l.map kyS).map (·.data.toList) = l.map keyP := by rw [List.map_map]; rfl
end Go.Proofs.YtoaggmldekejoaaGreatDoor
/- The reference's writing: digits, values, names, signs. Conditions: none. -/
namespace Go.Proofs.YtoaggmldekejoaaGreatDoor
open Go.RowKit
def DigI (N i m : Nat) (l : List UInt8) : Prop := (i = 0 → m = N ∧ l = []) ∧ (0 < i → Lib.decDigits N = (if m = 0 then [] else Lib.decDigits m) ++ l)
theorem dig_step {N i m : Nat} {l : List UInt8} (h : DigI N i m l) (hc : i = 0 ∨ 0 < m) : DigI N (i + 1) (m / 10) (UInt8.ofNat (48 + m % 10) :: l) := by
 refine ⟨fun h => by omega, fun _ => ?_⟩
 have e : Lib.decDigits m = (if m / 10 = 0 then [] else Lib.decDigits (m / 10)) ++ [UInt8.ofNat (48 + m % 10)] := by
  rw [Lib.decDigits]
  by_cases h1 : m < 10
  · rw [dif_pos h1, if_pos (by omega), Nat.mod_eq_of_lt h1]; rfl
  · rw [dif_neg h1, if_neg (by omega)]
 rcases Nat.eq_zero_or_pos i with h0 | h0
 · obtain ⟨rfl, rfl⟩ := h.1 h0
   exact e
 · rw [h.2 h0]
   rw [if_neg (by omega), e, List.append_assoc]; rfl
theorem run_conv_dig (z : Int) (b : UInt8) (h0 : 48 ≤ z) (h1 : z ≤ 57) (hb : b = UInt8.ofNat z.toNat) (w : World) : (convert 21 9 (.int .i32 z)).run Tryz.prog w = .ok (.string ⟨#[b]⟩) w := by
 have e : Utf8.encode z = ⟨#[b]⟩ := by
  subst hb
  obtain ⟨k, rfl⟩ : ∃ k : Nat, z = (k : Int) := ⟨z.toNat, by omega⟩
  have : k = 48 ∨ k = 49 ∨ k = 50 ∨ k = 51 ∨ k = 52 ∨ k = 53 ∨ k = 54 ∨ k = 55 ∨ k = 56 ∨ k = 57 := by omega
  rcases this with rfl | rfl | rfl | rfl | rfl | rfl | rfl | rfl | rfl | rfl <;> rfl
 simp [convert, run_underlying Tryz.underlying21, run_underlying Tryz.underlying9, Conv.intToString, e]
set_option maxRecDepth 100000 in
set_option maxHeartbeats 8000000 in
theorem digits_any (N : Nat) (w : World) (hN : N ≤ 9223372036854775807) : Calls Tryz.prog 60 #[.int .i64 (N : Int)] w fun e w' => e = .returned (.string (bS (Lib.decDigits N))) ∧ Below w.heap.size w w' := by
 have HN := Lib.hid hN
 obtain ⟨z0, hz0⟩ : ∃ z0, z0 = (N : Int) := ⟨_, rfl⟩
 rw [← hz0]
 have HZ0 := Lib.hid hz0
 have hp0 : 0 ≤ z0 := by omega
 have hp1 : z0 ≤ 9223372036854775807 := by omega
 have hp2 : (z0 == -9223372036854775808) = false := by simp; omega
 clear hz0 hN
 go_enter Tryz.func60, Tryz.ntmps60
 go_wp2_with fail
 clear hp2
 go_loopg [0, 3] 19 (fun g a b wr => ∃ (i m : Nat) (S : ByteArray) (z : Int), i + g = 19 ∧ a = .int .i64 z ∧ b = .string S ∧ Hid (z = (m : Int) ∧ S.size ≤ i ∧ i ≤ 18 ∧ m < 10 ^ (19 - i) ∧ m ≤ 9223372036854775807 ∧ DigI N i m S.data.toList ∧ (i = 0 ∨ 0 < m)) ∧ Below w.heap.size w wr)
 case atStart => exact ⟨0, N, ⟨#[]⟩, z0, by omega, rfl, rfl, Lib.hid ⟨HZ0.out, Nat.le_refl _, by omega, Nat.lt_of_le_of_lt HN.out (by decide), HN.out, ⟨fun _ => ⟨rfl, rfl⟩, fun h => absurd h (by omega)⟩, .inl rfl⟩, Below.refl _ _⟩
 case round =>
  obtain ⟨i, m, S, z, hig, rfl, rfl, HI, hb⟩ := hrel
  have HB := Lib.hid hb
  clear hb
  have hz0 : 0 ≤ z := by rw [HI.out.1]; omega
  have hz1 : z ≤ 9223372036854775807 := by have := HI.out.2.2.2.2.1; rw [HI.out.1]; omega
  have hm0 : 0 ≤ z % 10 := by omega
  have hm1 : z % 10 ≤ 9 := by omega
  have hcv := run_conv_dig (48 + z % 10) (UInt8.ofNat (48 + m % 10)) (by omega) (by omega) (by rw [HI.out.1]; congr 1) wr
  have hS1 : S.size ≤ 100 := by have := HI.out.2.1; have := HI.out.2.2.1; omega
  have HS := Lib.hid (show (⟨#[UInt8.ofNat (48 + m % 10)]⟩ ++ S : ByteArray).data.toList = UInt8.ofNat (48 + m % 10) :: S.data.toList from by rw [ByteArray.data_append]; simp)
  have HS2 := Lib.hid (show (⟨#[UInt8.ofNat (48 + m % 10)]⟩ ++ S : ByteArray).size ≤ i + 1 from by rw [← len_data, HS.out, List.length_cons, len_data]; have := HI.out.2.1; omega)
  have hb1 : (⟨#[UInt8.ofNat (48 + m % 10)]⟩ : ByteArray).size ≤ 1 := by rw [← len_data]; exact Nat.le_refl _
  have HDI := Lib.hid (dig_step HI.out.2.2.2.2.2.1 HI.out.2.2.2.2.2.2)
  have HP := Lib.hid (show m / 10 < 10 ^ (19 - (i + 1)) from by
   have h3 := HI.out.2.2.2.1
   have h4 := HI.out.2.2.1
   rw [show 19 - i = (19 - (i + 1)) + 1 from by omega, Nat.pow_succ] at h3
   omega)
  generalize UInt8.ofNat (48 + m % 10) = b at *
  obtain ⟨zq, hzq⟩ : ∃ q, q = z / 10 := ⟨_, rfl⟩
  have HE := Lib.hid (show zq = ((m / 10 : Nat) : Int) from by rw [hzq, HI.out.1]; omega)
  have HM := HI.out.2.2.2.2.1
  by_cases h0 : zq = 0
  · have HF := Lib.hid (show ((⟨#[b]⟩ : ByteArray) ++ S) = bS (Lib.decDigits N) from bS_of (by
     have := HDI.out.2 (by omega)
     rw [if_pos (by have := HE.out; omega)] at this
     rw [HS.out, this]; rfl))
    have h0a : z / 10 = 0 := by omega
    clear hzq h0
    go_wp2
    go_ret
    exact ⟨by rw [HF.out]; rfl, HB.out⟩
  · have h0a : ¬ z / 10 = 0 := by omega
    have h0b : (z / 10 == 0) = false := by simp; omega
    have HPQ := Lib.hid (show 0 < m / 10 from by have := HE.out; omega)
    have HI18 := Lib.hid (show i + 1 ≤ 18 from by
     rcases Nat.lt_or_ge i 18 with h1 | h1
     · omega
     · have h2 := HP.out
       rw [show 19 - (i + 1) = 0 from by have := HI.out.2.2.1; omega] at h2
       have := HPQ.out
       simp at h2
       omega)
    have HZQ := Lib.hid hzq
    clear h0 hzq
    go_wp2
    go_roundg (gk - 1)
    · exact ⟨i + 1, m / 10, _, zq, by have := HI18.out; omega, by rw [HZQ.out], rfl, Lib.hid ⟨HE.out, HS2.out, HI18.out, HP.out, by omega, by rw [HS.out]; exact HDI.out, .inr HPQ.out⟩, HB.out⟩
    · have := HI18.out; omega
theorem quo_snoc (l : List UInt8) (b : UInt8) : quoU (l ++ [b]) = quoU l ++ (if b = 39 then [39, 39] else [b]) := by unfold quoU; rw [List.flatMap_append]; simp
theorem OwnB.one_ (W : World) (x : UInt8) (v : Value) (hv : v = vb x) : OwnB (W.alloc (.cells #[v] 5)) W.heap.size (some ⟨W.heap.size, 0, none⟩) 1 1 [x] := by
 subst hv
 exact ⟨by simp, .inr ⟨W.heap.size, 1, #[vb x], rfl, Nat.le_refl _, heap_alloc_new W _, Nat.le_refl _, by unfold maxLen; omega, by simp, by simp⟩⟩
set_option maxRecDepth 100000 in
set_option maxHeartbeats 8000000 in
theorem rprint_any (k n u : Int) (s : ByteArray) (w : World) (hn : k = 2 → 0 ≤ n ∧ n ≤ 9223372036854775807) (hs : s.size ≤ 100000) : Calls Tryz.prog 71 #[.agg #[.int .i64 k, .int .i64 n, .int .u64 u, .string s]] w fun e w' => e = .returned (.string (bS (litU k n s.data.toList))) ∧ Below w.heap.size w w' := by
 have HQ := Lib.hid (bl_al (Below.refl w.heap.size w) (.cells #[.int .i64 k, .int .i64 n, .int .u64 u, .string s] 55))
 have HBV := Lib.hid (Blk.new w 55 #[.int .i64 k, .int .i64 n, .int .u64 u, .string s])
 have HR := Lib.hid (show litU k n s.data.toList = if k = 0 then [78, 85, 76, 76] else if k = 1 then (if n = 1 then [84, 82, 85, 69] else [70, 65, 76, 83, 69]) else if k = 2 then Lib.decDigits n.toNat else 39 :: (quoU s.data.toList ++ [39]) from rfl)
 generalize litU k n s.data.toList = r at *
 by_cases h0 : k = 0
 · subst h0
   have HF := Lib.hid (show r = [78, 85, 76, 76] from by rw [HR.out]; rfl)
   clear HR hn
   go_enter Tryz.func71, Tryz.ntmps71
   go_wp2
   go_ret
   exact ⟨by rw [HF.out]; rfl, HQ.out⟩
 have k0 : (k == 0) = false := by simpa using h0
 by_cases h1 : k = 1
 · subst h1
   have HR2 := Lib.hid (show r = if n = 1 then [84, 82, 85, 69] else [70, 65, 76, 83, 69] from by rw [HR.out]; rfl)
   clear HR hn h0
   by_cases hn1 : n = 1
   · subst hn1
     have HF := Lib.hid (show r = [84, 82, 85, 69] from by rw [HR2.out]; rfl)
     clear HR2
     go_enter Tryz.func71, Tryz.ntmps71
     go_wp2
     go_ret
     exact ⟨by rw [HF.out]; rfl, HQ.out⟩
   · have n1 : (n == 1) = false := by simpa using hn1
     have HF := Lib.hid (show r = [70, 65, 76, 83, 69] from by rw [HR2.out, if_neg hn1])
     clear HR2
     go_enter Tryz.func71, Tryz.ntmps71
     go_wp2
     go_ret
     exact ⟨by rw [HF.out]; rfl, HQ.out⟩
 have k1 : (k == 1) = false := by simpa using h1
 by_cases h2 : k = 2
 · subst h2
   obtain ⟨hn0, hn1⟩ := hn rfl
   obtain ⟨N, rfl⟩ : ∃ N : Nat, n = (N : Int) := ⟨n.toNat, by omega⟩
   have HF := Lib.hid (show r = Lib.decDigits N from by rw [HR.out]; rfl)
   have H := Lib.hid (fun w => digits_any N w (by omega))
   clear HR h0 h1 hn
   go_enter Tryz.func71, Tryz.ntmps71
   go_wp2_with fail
   refine (H.out _).mono ?_
   rintro e w2 ⟨rfl, q2⟩
   go_wp2
   go_ret
   exact ⟨by rw [HF.out]; rfl, bl_ca HQ.out q2⟩
 have k2 : (k == 2) = false := by simpa using h2
 have HF := Lib.hid (show r = 39 :: (quoU s.data.toList ++ [39]) from by rw [HR.out, if_neg h0, if_neg h1, if_neg h2])
 clear HR h0 h1 h2 hn
 have HL := Lib.hid (len_data s)
 go_enter Tryz.func71, Tryz.ntmps71
 have HS1 := Lib.hid (show (w.alloc (.cells #[.int .i64 k, .int .i64 n, .int .u64 u, .string s] 55)).heap.size = w.heap.size + 1 from World.size_alloc _ _)
 go_upto_region 11 with fail
 generalize w.alloc (.cells #[.int .i64 k, .int .i64 n, .int .u64 u, .string s] 55) = w1 at *
 have HOW := Lib.hid (OwnB.one_ w1 39 (.int .u8 39) rfl)
 have HQ1 := Lib.hid (bl_al (Below.refl w1.heap.size w1) (.cells #[.int .u8 39] 5))
 have x3 := (HBV.out.ca HQ1.out).cell 3
 simp at x3
 go_wp2_with fail
 go_loopg [3, 23] s.size (fun g a b wr => ∃ (i m c : Nat) (A : Option Addr) (l : List UInt8), i + g = s.size ∧ a = .slice A m c ∧ b = .int .i64 i ∧ OwnB wr w1.heap.size A m c l ∧ Hid (m ≤ 2 * i + 1 ∧ l = 39 :: quoU (s.data.toList.take i)) ∧ Below w1.heap.size w1 wr)
 case atStart => exact ⟨0, 1, 1, _, [39], by omega, rfl, rfl, by rw [← HS1.out]; exact HOW.out, Lib.hid ⟨Nat.le_refl _, rfl⟩, HQ1.out⟩
 case round =>
  obtain ⟨i, m, c, A, l, hig, rfl, rfl, ho, HI, bb⟩ := hrel
  have HO := Lib.hid ho
  have HBB := Lib.hid bb
  clear ho bb x3
  by_cases hlt : i < s.size
  · have hi1 : (i : Int) < (s.size : Int) := by omega
    obtain ⟨b, hb⟩ := byte_at hlt
    have hix := run_bt hb
    have HTK := Lib.hid (show quoU (s.data.toList.take (i + 1)) = quoU (s.data.toList.take i) ++ (if b = 39 then [39, 39] else [b]) from by rw [show s.data.toList.take (i + 1) = s.data.toList.take i ++ [b] from by rw [List.take_add_one, hb]; rfl, quo_snoc])
    clear hb
    have HBC := Lib.hid (show ((b.toNat : Int) = 39 → b = 39) ∧ (¬ (b.toNat : Int) = 39 → b ≠ 39) from ⟨fun h => UInt8.toNat_inj.1 (by show b.toNat = 39; omega), fun h e => h (by rw [e]; rfl)⟩)
    obtain ⟨d, hd⟩ : ∃ d, d = (b.toNat : Int) := ⟨_, rfl⟩
    have HV := Lib.hid (show Value.int .u8 d = vb b from by rw [hd]; rfl)
    rw [← hd] at hix HBC
    clear hd
    have hms : m ≤ 200001 := by have := HI.out.1; omega
    have hsz := HBB.out.size
    have y3 := (HBV.out.ca HBB.out).cell 3
    simp at y3
    go_upto_region 15 with (at_builtin; refine wpList_appB rfl (.tmp 26) (.tmp 31) rfl w1.heap.size A m c _ (some ⟨wr.heap.size, 0, none⟩) 1 1 [b] rfl rfl (HO.out.alloc _) (RdB.one wr b _ HV.out _) (by omega) (by simp only [World.size_alloc]; omega) ?_; intro A1 c1 w2 ho2 hb2)
    have HO2 := Lib.hid ho2
    have HB2 := Lib.hid (HBB.out.trans (((Below.refl _ _).alloc hsz _).trans hb2))
    have hsz2 := HB2.out.size
    have z3 := (HBV.out.ca HB2.out).cell 3
    simp at z3
    clear ho2 hb2 y3
    by_cases h39 : d = 39
    · have e1 : (d == 39) = true := by simpa using h39
      have HE := Lib.hid (HBC.out.1 h39)
      clear h39 HBC
      go_wp2_with (at_builtin; refine wpList_appB rfl (.tmp 38) (.tmp 39) rfl w1.heap.size A1 (m + 1) c1 _ (some ⟨w2.heap.size, 0, none⟩) 1 1 [39] rfl rfl (HO2.out.alloc _) (RdB.one w2 39 _ rfl _) (by omega) (by simp only [World.size_alloc]; omega) ?_; intro A2 c2 w3 ho3 hb3)
      go_roundg (gk - 1)
      · exact ⟨i + 1, m + 1 + 1, c2, A2, _, by omega, rfl, by go_num, ho3, Lib.hid ⟨by have := HI.out.1; omega, by rw [HTK.out, if_pos HE.out, HE.out, HI.out.2]; simp⟩, HB2.out.trans (((Below.refl _ _).alloc hsz2 _).trans hb3)⟩
      · omega
    · have e1 : (d == 39) = false := by simpa using h39
      have HE := Lib.hid (HBC.out.2 h39)
      clear h39 HBC
      go_wp2
      go_roundg (gk - 1)
      · exact ⟨i + 1, m + 1, c1, A1, _, by omega, rfl, by go_num, HO2.out, Lib.hid ⟨by have := HI.out.1; omega, by rw [HTK.out, if_neg HE.out, HI.out.2]; rfl⟩, HB2.out⟩
      · omega
  · obtain rfl : i = s.size := by omega
    have hi1 : (s.size : Int) ≤ (s.size : Int) := by omega
    have hms : m ≤ 200001 := by have := HI.out.1; omega
    have hsz := HBB.out.size
    have HFF := Lib.hid (show l ++ [39] = r from by rw [HI.out.2, HF.out, List.take_of_length_le (by rw [HL.out]; exact Nat.le_refl _)]; rfl)
    go_wp2_with (at_builtin; refine wpList_appB rfl (.tmp 42) (.tmp 43) rfl w1.heap.size A m c _ (some ⟨wr.heap.size, 0, none⟩) 1 1 [39] rfl rfl (HO.out.alloc _) (RdB.one wr 39 _ rfl _) (by omega) (by simp only [World.size_alloc]; omega) ?_; intro A1 c1 w2 ho2 hb2; have hcv := ho2.rd.str c1)
    go_ret
    exact ⟨by rw [← HFF.out]; rfl, bl_ca HQ.out (HBB.out.trans (((Below.refl _ _).alloc hsz _).trans hb2))⟩
end Go.Proofs.YtoaggmldekejoaaGreatDoor
