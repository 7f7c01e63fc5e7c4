/- How long a query is, as it is written, in plain Lean; what each round of Print adds. Conditions: a query that may be. -/
import Derived.Test.YtoaggmldekejoaaGreatDoorPkU16
namespace Go.Proofs.YtoaggmldekejoaaGreatDoor
theorem addW_le (acc s : List UInt8) : (addW acc s).length ≤ acc.length + (s.length + 1) := by
 unfold addW
 split
 · omega
 · split
   · omega
   · rw [List.length_append, List.length_cons]; omega
def sumL : List (List UInt8) → Nat
 | [] => 0
 | s :: l => (s.length + 1) + sumL l
theorem wordsP_le : ∀ (l : List (List UInt8)) (acc : List UInt8), (wordsP acc l).length ≤ acc.length + sumL l
 | [], _ => Nat.le_refl _
 | s :: l, acc => by
  have h1 := wordsP_le l (addW acc s)
  have h2 := addW_le acc s
  show (wordsP (addW acc s) l).length ≤ acc.length + ((s.length + 1) + sumL l)
  omega
theorem joinC_le {K : Nat} : ∀ (l : List (List UInt8)), (∀ x ∈ l, x.length ≤ K) → (joinC l).length ≤ l.length * (K + 2)
 | [], _ => Nat.zero_le _
 | [x], h => by
  have := h x (by simp)
  show x.length ≤ 1 * (K + 2)
  omega
 | x :: y :: l, h => by
  have h1 := h x (by simp)
  have h2 := joinC_le (y :: l) (fun z hz => h z (by simp [hz]))
  rw [joinC, List.length_append, List.length_append]
  rw [show (x :: y :: l).length * (K + 2) = (y :: l).length * (K + 2) + (K + 2) from by rw [List.length_cons (a := x), Nat.succ_mul]]
  have h3 : ([44, 32] : List UInt8).length = 2 := rfl
  omega
theorem rowP_le {K : Nat} (acc w : List UInt8) (l : List (List UInt8)) (h : ∀ x ∈ l, x.length ≤ K) : (rowP acc w l).length ≤ acc.length + (w.length + 1) + (l.length * (K + 2) + 1) := by
 unfold rowP
 split
 · omega
 · have h1 := wordsP_le [w, joinC l] acc
   have h2 := joinC_le l h
   have h3 : sumL [w, joinC l] = (w.length + 1) + (((joinC l).length + 1) + 0) := rfl
   omega
theorem onP_le (acc w : List UInt8) (t : List Nd) (h : noneB t = true) (hr : RgT t) : (onP acc w t).length ≤ acc.length + (w.length + 1) + 36001 := by
 unfold onP
 split
 · omega
 · next hn =>
   have hk : okF t = true := by unfold noneB at h; rw [Bool.or_eq_true, decide_eq_true_eq] at h; exact h.resolve_left fun e => hn (List.eq_nil_of_length_eq_zero e)
   have h1 := wordsP_le [w, prN t] acc
   have h2 := prN_len hk hr
   have h3 : sumL [w, prN t] = (w.length + 1) + (((prN t).length + 1) + 0) := rfl
   omega
theorem when_le (b : Bool) (s : List UInt8) : (whenP b s).length ≤ s.length := by cases b <;> simp [whenP]
theorem ok_none {t : List Nd} (h : okF t = true) : noneB t = true := by unfold noneB; rw [h, Bool.or_true]
theorem nmP_le {z : QN} (h : nmB z = true) : (nmP z).length ≤ 40 := by
 unfold nmB at h
 rw [Bool.and_eq_true] at h
 have h1 := name_len h.1
 have h2 := may_size h.2
 have e1 : z.nm.data.toList.length = z.nm.size := rfl
 have e2 : z.tb.data.toList.length = z.tb.size := rfl
 unfold nmP namU
 split
 · omega
 · rw [List.length_append, List.length_cons]; omega
theorem itemP_le {z : QI} (h : itemB z = true) (hr : RgT z.t) : (itemP z).length ≤ 36100 := by
 unfold itemB at h
 rw [Bool.and_eq_true] at h
 have h1 := prN_len h.1 hr
 have h2 := may_size h.2
 have e2 : z.as_.data.toList.length = z.as_.size := rfl
 rw [itemP]
 split
 · rw [List.length_append]; simp only [List.length_nil]; omega
 · simp only [List.length_append, List.length_cons, wAS, List.length_nil]; omega
theorem joinP_le (acc : List UInt8) (j : QJ) (h : joinB j = true) (hr : RgT j.on) : (joinP acc j).length ≤ acc.length + 37000 := by
 unfold joinB at h
 simp only [Bool.and_eq_true] at h
 have h1 := name_len h.2.1
 have h2 := may_size h.2.2
 have e1 : j.tb.data.toList.length = j.tb.size := rfl
 have e2 : j.as_.data.toList.length = j.as_.size := rfl
 have h3 := onP_le (wordsP acc [whenP j.left wLEFT, wJOIN, j.tb.data.toList, j.as_.data.toList]) wON j.on (ok_none h.1) hr
 have h4 := wordsP_le [whenP j.left wLEFT, wJOIN, j.tb.data.toList, j.as_.data.toList] acc
 have h5 : sumL [whenP j.left wLEFT, wJOIN, j.tb.data.toList, j.as_.data.toList] = ((whenP j.left wLEFT).length + 1) + ((wJOIN.length + 1) + ((j.tb.data.toList.length + 1) + ((j.as_.data.toList.length + 1) + 0))) := rfl
 have h6 := when_le j.left wLEFT
 have h7 : wLEFT.length = 4 := rfl
 have h8 : wJOIN.length = 4 := rfl
 have h9 : wON.length = 2 := rfl
 unfold joinP
 omega
theorem joinsP_le : ∀ (l : List QJ) (acc : List UInt8), l.all joinB = true → (∀ j ∈ l, RgT j.on) → (l.foldl joinP acc).length ≤ acc.length + l.length * 37000
 | [], _, _, _ => by simp
 | j :: l, acc, h, hr => by
  rw [List.all_cons, Bool.and_eq_true] at h
  have h1 := joinP_le acc j h.1 (hr j (by simp))
  have h2 := joinsP_le l (joinP acc j) h.2 (fun k hk => hr k (by simp [hk]))
  rw [List.foldl_cons, List.length_cons, Nat.succ_mul]
  omega
theorem selP_le (acc : List UInt8) (s : QS) (h : selB s = true) (hg : RgS s) : (selP acc s).length ≤ acc.length + 1000000 := by
 unfold selB selShape at h
 simp only [Bool.and_eq_true, decide_eq_true_eq] at h
 obtain ⟨⟨_, hi, hj, hp⟩, ⟨hf, hfa⟩, hit, hjo, hgr, hwh, hhv⟩ := h
 obtain ⟨gi, gj, gw, gh⟩ := hg
 have z1 := name_len hf
 have z2 := may_size hfa
 have e1 : s.ftb.data.toList.length = s.ftb.size := rfl
 have e2 : s.fas.data.toList.length = s.fas.size := rfl
 obtain ⟨A0, hA0⟩ : ∃ a, a = wordsP acc [wSELECT, whenP s.dis wDISTINCT, whenP s.star [42]] := ⟨_, rfl⟩
 obtain ⟨A1, hA1⟩ : ∃ a, a = rowP A0 [] (s.items.map itemP) := ⟨_, rfl⟩
 obtain ⟨A2, hA2⟩ : ∃ a, a = wordsP A1 [wFROM, s.ftb.data.toList, s.fas.data.toList] := ⟨_, rfl⟩
 obtain ⟨A3, hA3⟩ : ∃ a, a = s.joins.foldl joinP A2 := ⟨_, rfl⟩
 obtain ⟨A4, hA4⟩ : ∃ a, a = onP A3 wWHERE s.wh := ⟨_, rfl⟩
 obtain ⟨A5, hA5⟩ : ∃ a, a = rowP A4 wGROUPBY (s.grp.map nmP) := ⟨_, rfl⟩
 have hS : selP acc s = onP A5 wHAVING s.hv := by rw [hA5, hA4, hA3, hA2, hA1, hA0]; rfl
 have q0 := wordsP_le [wSELECT, whenP s.dis wDISTINCT, whenP s.star [42]] acc
 have q0' : sumL [wSELECT, whenP s.dis wDISTINCT, whenP s.star [42]] = (wSELECT.length + 1) + (((whenP s.dis wDISTINCT).length + 1) + (((whenP s.star [42]).length + 1) + 0)) := rfl
 have d1 := when_le s.dis wDISTINCT
 have d2 := when_le s.star [42]
 have q1 := rowP_le (K := 36100) A0 [] (s.items.map itemP) (fun x hx => by
  obtain ⟨y, hy, rfl⟩ := List.mem_map.1 hx
  exact itemP_le (List.all_eq_true.1 hit y hy) (gi y hy))
 have q2 := wordsP_le [wFROM, s.ftb.data.toList, s.fas.data.toList] A1
 have q2' : sumL [wFROM, s.ftb.data.toList, s.fas.data.toList] = (wFROM.length + 1) + ((s.ftb.data.toList.length + 1) + ((s.fas.data.toList.length + 1) + 0)) := rfl
 have q3 := joinsP_le s.joins A2 hjo gj
 have q4 := onP_le A3 wWHERE s.wh hwh gw
 have q5 := rowP_le (K := 40) A4 wGROUPBY (s.grp.map nmP) (fun x hx => by
  obtain ⟨y, hy, rfl⟩ := List.mem_map.1 hx
  exact nmP_le (List.all_eq_true.1 hgr y hy))
 have q6 := onP_le A5 wHAVING s.hv hhv gh
 rw [← hA0] at q0
 rw [← hA1] at q1
 rw [← hA2] at q2
 rw [← hA3] at q3
 rw [← hA4] at q4
 rw [← hA5] at q5
 rw [List.length_map] at q1 q5
 have l1 : wSELECT.length = 6 := rfl
 have l2 : wDISTINCT.length = 8 := rfl
 have l3 : ([42] : List UInt8).length = 1 := rfl
 have l4 : ([] : List UInt8).length = 0 := rfl
 have l5 : wFROM.length = 4 := rfl
 have l6 : wWHERE.length = 5 := rfl
 have l7 : wGROUPBY.length = 8 := rfl
 have l8 : wHAVING.length = 6 := rfl
 rw [hS]
 clear hA0 hA1 hA2 hA3 hA4 hA5 hS
 omega
theorem selsP_le : ∀ (l : List QS) (k : Nat) (acc : List UInt8), l.all selB = true → (∀ s ∈ l, RgS s) → (selsP k acc l).length ≤ acc.length + l.length * 1000100
 | [], _, _, _, _ => by simp [selsP]
 | s :: l, k, acc, h, hg => by
  rw [List.all_cons, Bool.and_eq_true] at h
  have h1 := wordsP_le [whenP (decide (0 < k)) wUNIONALL] acc
  have h1' : sumL [whenP (decide (0 < k)) wUNIONALL] = ((whenP (decide (0 < k)) wUNIONALL).length + 1) + 0 := rfl
  have h2 := when_le (decide (0 < k)) wUNIONALL
  have h3 := selP_le (wordsP acc [whenP (decide (0 < k)) wUNIONALL]) s h.1 (hg s (by simp))
  have h4 := selsP_le l (k + 1) (selP (wordsP acc [whenP (decide (0 < k)) wUNIONALL]) s) h.2 (fun x hx => hg x (by simp [hx]))
  have h5 : wUNIONALL.length = 9 := rfl
  rw [selsP, List.length_cons, Nat.succ_mul]
  omega
theorem dec_len (n : Nat) (hn : n ≤ 2147483647) : (Lib.decDigits n).length ≤ 100 := by
 rw [Lib.decDigits_length]
 rcases Nat.eq_zero_or_pos n with h0 | h0
 · subst h0; rw [Lib.nDigits]; simp
 · have := Lib.numDigits_eq n h0 (by omega); split at this <;> omega
def RgQ (q : QC) : Prop := ∀ s ∈ q.sels, RgS s
theorem key_num {k : QK} (h : keyB k = true) : 0 ≤ k.num ∧ k.num ≤ 2147483647 := by
 unfold keyB at h
 simp only [Bool.or_eq_true, Bool.and_eq_true, decide_eq_true_eq] at h
 rcases h with h | h
 · exact h.2
 · omega
theorem key_size {k : QK} (h : keyB k = true) : k.nm.size ≤ 16 := by
 unfold keyB at h
 simp only [Bool.or_eq_true, Bool.and_eq_true, decide_eq_true_eq] at h
 rcases h with h | h
 · rw [ba_e h.1]; decide
 · exact name_len h.1
theorem keyP_le {k : QK} (h : keyB k = true) : (keyP k).length ≤ 120 := by
 have h1 := key_num h
 have h2 := key_size h
 have h3 := dec_len k.num.toNat (by omega)
 have e2 : k.nm.data.toList.length = k.nm.size := rfl
 have h5 : wDESC.length = 5 := rfl
 unfold keyP
 rw [List.length_append]
 split <;> split <;> (try rw [List.length_nil]) <;> omega
theorem qryP_le {q : QC} (h : qryB q = true) (hg : RgQ q) : (qryP q).length ≤ 10000000 := by
 unfold qryB at h
 simp only [Bool.and_eq_true, Bool.or_eq_true, decide_eq_true_eq] at h
 obtain ⟨⟨_, h3, hk3, hl⟩, hk, hs⟩ := h
 have h1 := selsP_le q.sels 0 [] hs hg
 have h2 := rowP_le (K := 120) (selsP 0 [] q.sels) wORDERBY (q.keys.map keyP) (fun x hx => by
  obtain ⟨y, hy, rfl⟩ := List.mem_map.1 hx
  exact keyP_le (List.all_eq_true.1 hk y hy))
 rw [List.length_map] at h2
 have h4 := wordsP_le [wLIMIT, Lib.decDigits q.lim.toNat] (rowP (selsP 0 [] q.sels) wORDERBY (q.keys.map keyP))
 have h4' : sumL [wLIMIT, Lib.decDigits q.lim.toNat] = (wLIMIT.length + 1) + (((Lib.decDigits q.lim.toNat).length + 1) + 0) := rfl
 have h5 := dec_len q.lim.toNat (by omega)
 have l1 : wORDERBY.length = 8 := rfl
 have l2 : wLIMIT.length = 5 := rfl
 have l3 : ([] : List UInt8).length = 0 := rfl
 unfold qryP
 simp only
 split <;> omega
/-! ### rounds of Print -/
theorem selsP_snoc : ∀ (l : List QS) (k : Nat) (acc : List UInt8) (s : QS), selsP k acc (l ++ [s]) = selP (wordsP (selsP k acc l) [whenP (decide (0 < k + l.length)) wUNIONALL]) s
 | [], k, acc, s => by simp [selsP]
 | x :: l, k, acc, s => by
  rw [List.cons_append, selsP, selsP, selsP_snoc l (k + 1)]
  rw [show k + 1 + l.length = k + (x :: l).length from by simp only [List.length_cons]; omega]
theorem selsP_take {l : List QS} {i : Nat} {s : QS} (h : l[i]? = some s) : selsP 0 [] (l.take (i + 1)) = selP (wordsP (selsP 0 [] (l.take i)) [whenP (decide (0 < i)) wUNIONALL]) s := by
 have hi : i < l.length := by
  rcases Nat.lt_or_ge i l.length with h' | h'
  · exact h'
  · rw [List.getElem?_eq_none h'] at h; cases h
 rw [List.take_add_one, h]
 show selsP 0 [] (l.take i ++ [s]) = _
 rw [selsP_snoc, List.length_take, Nat.min_eq_left (Nat.le_of_lt hi), Nat.zero_add]
theorem selP_mono (acc : List UInt8) (s : QS) : acc.length ≤ (selP acc s).length :=
 Nat.le_trans (wordsP_len _ _) (Nat.le_trans (rowP_len _ _ _) (Nat.le_trans (wordsP_len _ _) (Nat.le_trans (joinsP_len _ _) (Nat.le_trans (onP_len _ _ _) (Nat.le_trans (rowP_len _ _ _) (onP_len _ _ _))))))
theorem selsP_mono : ∀ (l : List QS) (k : Nat) (acc : List UInt8), acc.length ≤ (selsP k acc l).length
 | [], _, _ => Nat.le_refl _
 | s :: l, k, acc => Nat.le_trans (wordsP_len [whenP (decide (0 < k)) wUNIONALL] acc) (Nat.le_trans (selP_mono _ s) (selsP_mono l (k + 1) _))
theorem selsP_app : ∀ (l m : List QS) (k : Nat) (acc : List UInt8), selsP k acc (l ++ m) = selsP (k + l.length) (selsP k acc l) m
 | [], m, k, acc => by simp [selsP]
 | x :: l, m, k, acc => by
  rw [List.cons_append, selsP, selsP, selsP_app l m (k + 1)]
  rw [show k + 1 + l.length = k + (x :: l).length from by simp only [List.length_cons]; omega]
theorem selsP_takeLen (l : List QS) (i : Nat) : (selsP 0 [] (l.take i)).length ≤ (selsP 0 [] l).length := by
 have h : selsP 0 [] l = selsP (0 + (l.take i).length) (selsP 0 [] (l.take i)) (l.drop i) := by rw [← selsP_app, List.take_append_drop]
 rw [h]; exact selsP_mono _ _ _
def kyS (z : QK) : ByteArray := bS (keyP z)
theorem kyS_map (l : List QK) : (l.map kyS).map (·.data.toList) = l.map keyP := by rw [List.map_map]; rfl
end Go.Proofs.YtoaggmldekejoaaGreatDoor
/- The reference's writing: digits, values, names, signs. Conditions: none. -/
namespace Go.Proofs.YtoaggmldekejoaaGreatDoor
open Go.RowKit
end Go.Proofs.YtoaggmldekejoaaGreatDoor
/- The reference's writing of trees. Conditions: the nodes read so. -/
namespace Go.Proofs.YtoaggmldekejoaaGreatDoor
open Go.RowKit
end Go.Proofs.YtoaggmldekejoaaGreatDoor
/- Unlike queries are written unlike. Plain Lean. Conditions: none. -/
namespace Go.Proofs.YtoaggmldekejoaaGreatDoor
/-! ### how a tree begins -/
theorem leaf_noD {p : Py} (h : cntB p = true) (h0 : partsI p.tag = 0) : ∃ b r, leafU p = b :: r ∧ b ≠ 68 := by
 rcases leaf_cases h h0 with rfl | rfl | rfl | ⟨n, rfl⟩ | ⟨s, rfl⟩ | ⟨tb, nm, rfl, hn, ht⟩ | rfl
 · exact ⟨_, _, rfl, by decide⟩
 · exact ⟨_, _, rfl, by decide⟩
 · exact ⟨_, _, rfl, by decide⟩
 · obtain ⟨b, r, hbr⟩ := List.exists_cons_of_ne_nil (dec_ne n)
   have hb : dgU b = true := List.all_eq_true.1 (dec_all n) b (by rw [hbr]; simp)
   exact ⟨b, r, hbr, by rintro rfl; revert hb; decide⟩
 · exact ⟨_, _, rfl, by decide⟩
 · obtain ⟨_, _, b, r, n3, n4⟩ := name_small hn
   rcases ht with rfl | ht
   · exact ⟨b, r, n3, by rintro rfl; revert n4; decide⟩
   · obtain ⟨_, _, b2, r2, t3, t4⟩ := name_small ht
     refine ⟨b2, r2 ++ (46 :: nm.data.toList), ?_, by rintro rfl; revert t4; decide⟩
     show namU tb.data.toList nm.data.toList = _
     unfold namU
     rw [if_neg (by rw [t3]; simp), t3]
     rfl
 · exact ⟨_, _, rfl, by decide⟩
theorem agg_noD {p : Py} {a : Tr} (h : (Tr.one p a).ok cntB = true) (h8 : 8 ≤ p.tag) : ∃ b r, prT (.one p a) = b :: r ∧ b ≠ 68 := by
 rw [pr_agg h8]
 have ht := tag_one (ok_one h).1
 rcases agg_cases h8 ht.2 with e | e | e | e <;> rw [e] <;> exact ⟨_, _, rfl, by decide⟩
theorem par_noD {t : Tr} (h : t.ok cntB = true) : ∃ b r, parT t = b :: r ∧ b ≠ 68 := by
 cases hb : bareT t
 · rw [par_not hb]; exact ⟨_, _, rfl, by decide⟩
 · rw [par_bare hb]
   cases t with
   | leaf p => rw [pr_leaf]; exact leaf_noD (ok_leaf h).2 (ok_leaf h).1
   | one p a => exact agg_noD h (of_decide_eq_true hb)
   | two p a b => cases hb
theorem pr_noD {t : Tr} (h : t.ok cntB = true) : ∃ b r, prT t = b :: r ∧ b ≠ 68 := by
 have hp : ∀ {a : Tr} {T : List UInt8}, a.ok cntB = true → ∃ b r, parT a ++ T = b :: r ∧ b ≠ 68 := fun {a T} ha => by
  obtain ⟨b, r, e, h1⟩ := par_noD ha
  exact ⟨b, r ++ T, by rw [e]; rfl, h1⟩
 cases t with
 | leaf p =>
  obtain ⟨b, r, e, h1⟩ := leaf_noD (ok_leaf h).2 (ok_leaf h).1
  exact ⟨b, r, by rw [pr_leaf, e], h1⟩
 | one p a =>
  have ho := ok_one h
  have ht := tag_one ho.1
  by_cases h5 : p.tag ≤ 5
  · rw [pr_pre h5]
    rcases (show p.tag = 4 ∨ p.tag = 5 by omega) with e | e <;> rw [e] <;> exact ⟨_, _, rfl, by decide⟩
  · by_cases h7 : p.tag ≤ 7
    · rw [pr_post (by omega) h7]; exact hp ho.2.2
    · exact agg_noD h (by omega)
 | two p a b => rw [pr_two]; exact hp (ok_two h).2.2.1
theorem prN_tree {t : List Nd} (h : okF t = true) : ∃ u : Tr, prN t = prT u ∧ u.ok cntB = true ∧ t = u.flat 0 := by
 unfold okF at h
 unfold prN
 cases e : treeF cntB t with
 | none => rw [e] at h; cases h
 | some u => exact ⟨u, rfl, (treeF_some.1 e).2.1, (treeF_some.1 e).1⟩
theorem prN_head {t : List Nd} (h : okF t = true) : ∃ b r, prN t = b :: r ∧ b ≠ 42 ∧ b ≠ 68 := by
 obtain ⟨u, e, ho, _⟩ := prN_tree h
 obtain ⟨b, r, hb, h1⟩ := pr_head ho
 obtain ⟨b2, r2, hb2, h2⟩ := pr_noD ho
 rw [hb] at hb2
 injection hb2 with e1 e2
 exact ⟨b, r, e.trans hb, h1, by rw [e1]; exact h2⟩
/-! ### parts that are told apart, whatever stands behind -/
theorem tree_cut {t u : List Nd} {x y : List UInt8} (ht : okF t = true) (hu : okF u = true) (hx : endP x) (hy : endP y) (e : prN t ++ x = prN u ++ y) : t = u ∧ x = y := by
 obtain ⟨a, ea, oa, fa⟩ := prN_tree ht
 obtain ⟨b, eb, ob, fb⟩ := prN_tree hu
 rw [ea, eb] at e
 obtain ⟨rfl, exy⟩ := NP_all a.size a (Nat.le_refl _) oa b x y ob hx hy e
 exact ⟨fa.trans fb.symm, exy⟩
/-- no part of a name stands first -/
def nopa (x : List UInt8) : Prop := ∀ b r, x = b :: r → paU b = false
theorem nopa_nil : nopa [] := by intro b r e; cases e
theorem nopa_cons {b : UInt8} {r : List UInt8} (h : paU b = false) : nopa (b :: r) := by intro c s e; injection e with e; rw [← e]; exact h
theorem row_cut {v w x y : List UInt8} (hv : v.all paU = true) (hw : w.all paU = true) (hx : nopa x) (hy : nopa y) (e : v ++ x = w ++ y) : v = w ∧ x = y := by
 have h := congrArg (List.takeWhile paU) e
 rw [takeWhile_all hv hx, takeWhile_all hw hy] at h
 subst h
 exact ⟨rfl, List.append_cancel_left e⟩
theorem ba_ext {s t : ByteArray} (h : s.data.toList = t.data.toList) : s = t := by
 rw [ba_of h]
theorem name_all {s : ByteArray} (h : nameB s = true) : s.data.toList.all paU = true := (name_small h).1
/-- a word behind a blank, or nothing -/
def KW (W : List (List UInt8)) (x : List UInt8) : Prop := x = [] ∨ ∃ w ∈ W, ∃ r, x = 32 :: (w ++ 32 :: r)
theorem KW.mono {W V : List (List UInt8)} {x : List UInt8} (h : KW W x) (hs : ∀ w ∈ W, w ∈ V) : KW V x := by
 rcases h with h | ⟨w, hw, r, e⟩
 · exact .inl h
 · exact .inr ⟨w, hs w hw, r, e⟩
theorem KW.end_ {W : List (List UInt8)} {x : List UInt8} (h : KW W x) (hs : ∀ w ∈ W, w ∈ kws) : endP x := by
 rcases h with h | ⟨w, hw, r, e⟩
 · exact .inl h
 · exact .inr ⟨r, .inr (.inr ⟨w, hs w hw, e⟩)⟩
theorem KW.nopa {W : List (List UInt8)} {x : List UInt8} (h : KW W x) : nopa x := by
 rcases h with rfl | ⟨w, hw, r, rfl⟩
 · exact nopa_nil
 · exact nopa_cons (by decide)
theorem nb_cut {v w x y : List UInt8} (hv : v.all (fun b => decide (b ≠ 32)) = true) (hw : w.all (fun b => decide (b ≠ 32)) = true) (e : v ++ 32 :: x = w ++ 32 :: y) : v = w ∧ x = y := by
 have h := congrArg (List.takeWhile fun b => decide (b ≠ 32)) e
 rw [tw32 hv, tw32 hw] at h
 subst h
 have := List.append_cancel_left e
 injection this with _ h
 exact ⟨rfl, h⟩
/-- a clause that is there begins otherwise than what stands behind it -/
theorem KW.no {W : List (List UInt8)} {w r x : List UInt8} (h : KW W x) (hW : ∀ v ∈ W, v ∈ kws) (hw : w ∈ kws) (hn : w ∉ W) (e : x = 32 :: (w ++ 32 :: r)) : False := by
 rcases h with h | ⟨v, hv, r2, h⟩
 · rw [h] at e; cases e
 · rw [h] at e
   injection e with _ e
   have := (nb_cut (kws32 v (hW v hv)) (kws32 w hw) e).1
   exact hn (this ▸ hv)
theorem clause_cut {W : List (List UInt8)} {w : List UInt8} {α : Type} [DecidableEq α] {a b n : α} {f : α → List UInt8} {x y : List UInt8} (hW : ∀ v ∈ W, v ∈ kws) (hw : w ∈ kws) (hn : w ∉ W) (hx : KW W x) (hy : KW W y)
 (hf : a ≠ n → b ≠ n → f a ++ x = f b ++ y → a = b ∧ x = y)
 (e : (if a = n then [] else (32 :: w) ++ (32 :: f a)) ++ x = (if b = n then [] else (32 :: w) ++ (32 :: f b)) ++ y) : a = b ∧ x = y := by
 by_cases ha : a = n
 · rw [if_pos ha] at e
   by_cases hb : b = n
   · rw [if_pos hb] at e
     exact ⟨ha.trans hb.symm, e⟩
   · rw [if_neg hb] at e
     exact (hx.no hW hw hn (r := f b ++ y) (by rw [show x = _ from e, List.append_assoc]; rfl)).elim
 · rw [if_neg ha] at e
   by_cases hb : b = n
   · rw [if_pos hb] at e
     exact (hy.no hW hw hn (r := f a ++ x) (by rw [show y = _ from e.symm, List.append_assoc]; rfl)).elim
   · rw [if_neg hb] at e
     rw [List.append_assoc, List.append_assoc] at e
     have e2 := List.append_cancel_left e
     injection e2 with _ e2
     exact hf ha hb e2
theorem clause_kw {W V : List (List UInt8)} {w : List UInt8} {α : Type} [DecidableEq α] {a n : α} {f : α → List UInt8} {x : List UInt8} (hx : KW W x) (hs : ∀ v ∈ W, v ∈ V) (hw : w ∈ V) : KW V ((if a = n then [] else (32 :: w) ++ (32 :: f a)) ++ x) := by
 by_cases ha : a = n
 · rw [if_pos ha]; exact hx.mono hs
 · rw [if_neg ha, List.append_assoc]; exact .inr ⟨w, hw, f a ++ x, rfl⟩
/-! ### rows, parted by commas -/
def nc (x : List UInt8) : Prop := ∀ r, x ≠ 44 :: r
theorem KW.nc {W : List (List UInt8)} {x : List UInt8} (h : KW W x) : nc x := by
 intro r e
 rcases h with rfl | ⟨w, _, r2, rfl⟩
 · cases e
 · injection e with e; exact absurd e (by decide)
theorem joinC_one (x : List UInt8) : joinC [x] = x := rfl
theorem joinC_cons (x : List UInt8) {l : List (List UInt8)} (h : l ≠ []) : joinC (x :: l) = x ++ (44 :: 32 :: joinC l) := by
 cases l with
 | nil => exact absurd rfl h
 | cons y l => rfl
theorem joinC_cut {α : Type} {f : α → List UInt8} {P : α → Prop} {E : List UInt8 → Prop} (hE : ∀ r, E (44 :: r)) (hp : ∀ a b x y, P a → P b → E x → E y → f a ++ x = f b ++ y → a = b ∧ x = y) :
 ∀ (l k : List α), l ≠ [] → k ≠ [] → (∀ a ∈ l, P a) → (∀ b ∈ k, P b) → ∀ x y, E x → E y → nc x → nc y → joinC (l.map f) ++ x = joinC (k.map f) ++ y → l = k ∧ x = y
 | [], _, h, _, _, _, _, _, _, _, _, _, _ => absurd rfl h
 | _ :: _, [], _, h, _, _, _, _, _, _, _, _, _ => absurd rfl h
 | a :: l, b :: k, _, _, hl, hk, x, y, hx, hy, cx, cy, e => by
  have pa := hl a (by simp)
  have pb := hk b (by simp)
  rw [List.map_cons, List.map_cons] at e
  by_cases h1 : l = []
  · subst h1
    rw [List.map_nil, joinC_one] at e
    by_cases h2 : k = []
    · subst h2
      rw [List.map_nil, joinC_one] at e
      obtain ⟨rfl, exy⟩ := hp a b x y pa pb hx hy e
      exact ⟨rfl, exy⟩
    · rw [joinC_cons _ (by simpa using h2), List.append_assoc] at e
      obtain ⟨_, exy⟩ := hp a b x _ pa pb hx (hE _) e
      exact (cx _ exy).elim
  · rw [joinC_cons _ (by simpa using h1), List.append_assoc] at e
    by_cases h2 : k = []
    · subst h2
      rw [List.map_nil, joinC_one] at e
      obtain ⟨_, exy⟩ := hp a b _ y pa pb (hE _) hy e
      exact (cy _ exy.symm).elim
    · rw [joinC_cons _ (by simpa using h2), List.append_assoc] at e
      obtain ⟨rfl, exy⟩ := hp a b _ _ pa pb (hE _) (hE _) e
      injection exy with _ exy
      injection exy with _ exy
      obtain ⟨rfl, h⟩ := joinC_cut hE hp l k h1 h2 (fun c hc => hl c (by simp [hc])) (fun c hc => hk c (by simp [hc])) x y hx hy cx cy exy
      exact ⟨rfl, h⟩
/-! ### items, sources, joins, names, keys -/
/-- a name, or nothing, behind a blank -/
theorem may_cut {s t : ByteArray} {w x y : List UInt8} (hs : mayB s = true) (ht : mayB t = true) (hx : nopa x) (hy : nopa y)
 (nx : ∀ (b : UInt8) (r : List UInt8), smI (b.toNat : Int) = true → x ≠ 32 :: (w ++ (b :: r))) (ny : ∀ (b : UInt8) (r : List UInt8), smI (b.toNat : Int) = true → y ≠ 32 :: (w ++ (b :: r)))
 (e : (if s.data.toList = [] then [] else 32 :: (w ++ s.data.toList)) ++ x = (if t.data.toList = [] then [] else 32 :: (w ++ t.data.toList)) ++ y) : s = t ∧ x = y := by
 have hm : ∀ {u : ByteArray}, mayB u = true → u.data.toList ≠ [] → nameB u = true := fun {u} h hn => by
  unfold mayB at h
  rw [Bool.or_eq_true, decide_eq_true_eq] at h
  exact h.resolve_left hn
 by_cases h1 : s.data.toList = []
 · rw [if_pos h1] at e
   by_cases h2 : t.data.toList = []
   · rw [if_pos h2] at e
     exact ⟨ba_ext (h1.trans h2.symm), e⟩
   · obtain ⟨_, _, b, r, eb, hb⟩ := name_small (hm ht h2)
     rw [if_neg h2, eb] at e
     exact (nx b (r ++ y) hb (by rw [show x = _ from e]; simp)).elim
 · by_cases h2 : t.data.toList = []
   · obtain ⟨_, _, b, r, eb, hb⟩ := name_small (hm hs h1)
     rw [if_neg h1, if_pos h2, eb] at e
     exact (ny b (r ++ x) hb (by rw [show y = _ from e.symm]; simp)).elim
   · rw [if_neg h1, if_neg h2] at e
     rw [List.cons_append, List.cons_append] at e
     injection e with _ e
     rw [List.append_assoc, List.append_assoc] at e
     have e2 := List.append_cancel_left e
     obtain ⟨h, exy⟩ := row_cut (name_all (hm hs h1)) (name_all (hm ht h2)) hx hy e2
     exact ⟨ba_ext h, exy⟩
/-- what may stand behind an item -/
def EI (x : List UInt8) : Prop := ∃ r, x = 44 :: r ∨ x = 32 :: (wFROM ++ 32 :: r)
theorem EI.end_ {x : List UInt8} (h : EI x) : endP x := by
 obtain ⟨r, h | h⟩ := h
 · exact .inr ⟨r, .inr (.inl h)⟩
 · exact .inr ⟨r, .inr (.inr ⟨wFROM, by decide, h⟩)⟩
theorem EI.nopa {x : List UInt8} (h : EI x) : nopa x := by
 obtain ⟨r, rfl | rfl⟩ := h <;> exact nopa_cons (by decide)
theorem EI.no {x : List UInt8} (h : EI x) (b : UInt8) (r : List UInt8) : x ≠ 32 :: ((wAS ++ [32]) ++ (b :: r)) := by
 obtain ⟨s, rfl | rfl⟩ := h
 · intro e; injection e with e; exact absurd e (by decide)
 · intro e
   injection e with _ e
   have e2 : (70 : UInt8) :: (82 :: 79 :: 77 :: 32 :: s) = 65 :: (83 :: 32 :: b :: r) := e
   injection e2 with e2
   exact absurd e2 (by decide)
theorem itemP_as (x : QI) : itemP x = prN x.t ++ (if x.as_.data.toList = [] then [] else 32 :: ((wAS ++ [32]) ++ x.as_.data.toList)) := by
 unfold itemP
 by_cases h : x.as_.data.toList = []
 · rw [if_pos h, if_pos h]
 · rw [if_neg h, if_neg h]; rfl
theorem as_end {s : ByteArray} {x : List UInt8} (h : EI x) : endP ((if s.data.toList = [] then [] else 32 :: ((wAS ++ [32]) ++ s.data.toList)) ++ x) := by
 by_cases hs : s.data.toList = []
 · rw [if_pos hs]; exact h.end_
 · rw [if_neg hs]
   exact .inr ⟨s.data.toList ++ x, .inr (.inr ⟨wAS, by decide, by rw [List.cons_append, List.append_assoc]; rfl⟩)⟩
theorem item_cut {a b : QI} {x y : List UInt8} (ha : itemB a = true) (hb : itemB b = true) (hx : EI x) (hy : EI y) (e : itemP a ++ x = itemP b ++ y) : a = b ∧ x = y := by
 unfold itemB at ha hb
 rw [Bool.and_eq_true] at ha hb
 rw [itemP_as a, itemP_as b, List.append_assoc (prN a.t), List.append_assoc (prN b.t)] at e
 obtain ⟨h1, e2⟩ := tree_cut ha.1 hb.1 (as_end hx) (as_end hy) e
 obtain ⟨h2, exy⟩ := may_cut ha.2 hb.2 hx.nopa hy.nopa (fun b r _ => hx.no b r) (fun b r _ => hy.no b r) e2
 refine ⟨?_, exy⟩
 cases a; cases b
 simp only at h1 h2
 rw [h1, h2]
theorem KW.no_small {W : List (List UInt8)} {x : List UInt8} (h : KW W x) (hW : ∀ w ∈ W, w ∈ kws) (b : UInt8) (r : List UInt8) (hb : smI (b.toNat : Int) = true) : x ≠ 32 :: ([] ++ (b :: r)) := by
 intro e
 rcases h with rfl | ⟨w, hw, s, rfl⟩
 · cases e
 · injection e with _ e
   have hk : ∀ w ∈ kws, ∃ c v, w = c :: v ∧ smI (c.toNat : Int) = false := by
    intro w hw
    have hd : kws.all (fun w => match w with | [] => false | c :: _ => !smI (c.toNat : Int)) = true := by decide
    have := List.all_eq_true.1 hd w hw
    cases w with
    | nil => cases this
    | cons c v => exact ⟨c, v, rfl, by simpa using this⟩
   obtain ⟨c, v, rfl, hc⟩ := hk w (hW w hw)
   have e2 : c :: (v ++ 32 :: s) = b :: r := e
   injection e2 with e2
   rw [e2, hb] at hc
   cases hc
theorem srcR_as (t s : List UInt8) : srcR t s = t ++ (if s = [] then [] else 32 :: ([] ++ s)) := by
 unfold srcR
 by_cases h : s = []
 · rw [if_pos h, if_pos h, List.append_nil]
 · rw [if_neg h, if_neg h]; rfl
theorem src_cut {W : List (List UInt8)} {t s u v : ByteArray} {x y : List UInt8} (hW : ∀ w ∈ W, w ∈ kws) (ht : nameB t = true) (hu : nameB u = true) (hs : mayB s = true) (hv : mayB v = true) (hx : KW W x) (hy : KW W y)
 (e : srcR t.data.toList s.data.toList ++ x = srcR u.data.toList v.data.toList ++ y) : t = u ∧ s = v ∧ x = y := by
 rw [srcR_as, srcR_as, List.append_assoc, List.append_assoc] at e
 have hn : ∀ {s : ByteArray} {x : List UInt8}, KW W x → nopa ((if s.data.toList = [] then [] else 32 :: ([] ++ s.data.toList)) ++ x) := fun {s x} h => by
  by_cases hs : s.data.toList = []
  · rw [if_pos hs]; exact h.nopa
  · rw [if_neg hs]; exact nopa_cons (by decide)
 obtain ⟨h1, e2⟩ := row_cut (name_all ht) (name_all hu) (hn hx) (hn hy) e
 obtain ⟨h2, exy⟩ := may_cut hs hv hx.nopa hy.nopa (fun b r hb => hx.no_small hW b r hb) (fun b r hb => hy.no_small hW b r hb) e2
 exact ⟨ba_ext h1, h2, exy⟩
def W1 : List (List UInt8) := [[87, 72, 69, 82, 69], [71, 82, 79, 85, 80], [72, 65, 86, 73, 78, 71], [85, 78, 73, 79, 78], [79, 82, 68, 69, 82], [76, 73, 77, 73, 84]]
def W0 : List (List UInt8) := [76, 69, 70, 84] :: [74, 79, 73, 78] :: W1
def W2 : List (List UInt8) := [[71, 82, 79, 85, 80], [72, 65, 86, 73, 78, 71], [85, 78, 73, 79, 78], [79, 82, 68, 69, 82], [76, 73, 77, 73, 84]]
def W3 : List (List UInt8) := [[72, 65, 86, 73, 78, 71], [85, 78, 73, 79, 78], [79, 82, 68, 69, 82], [76, 73, 77, 73, 84]]
def W4 : List (List UInt8) := [[85, 78, 73, 79, 78], [79, 82, 68, 69, 82], [76, 73, 77, 73, 84]]
def W5 : List (List UInt8) := [[79, 82, 68, 69, 82], [76, 73, 77, 73, 84]]
def W6 : List (List UInt8) := [[76, 73, 77, 73, 84]]
theorem W0s : ∀ w ∈ W0, w ∈ kws := by decide
theorem W1s : ∀ w ∈ W1, w ∈ kws := by decide
theorem W2s : ∀ w ∈ W2, w ∈ kws := by decide
theorem W3s : ∀ w ∈ W3, w ∈ kws := by decide
theorem W4s : ∀ w ∈ W4, w ∈ kws := by decide
theorem W5s : ∀ w ∈ W5, w ∈ kws := by decide
theorem W6s : ∀ w ∈ W6, w ∈ kws := by decide
/-- what stands behind LEFT, if there is any -/
def jR (j : QJ) : List UInt8 := srcR j.tb.data.toList j.as_.data.toList ++ ((32 :: wON) ++ (32 :: prN j.on))
theorem joinR_j (j : QJ) (x : List UInt8) : joinR j ++ x = 32 :: ((if j.left then wLEFT else wJOIN) ++ (32 :: ((if j.left then wJOIN ++ [32] else []) ++ (jR j ++ x)))) := by
 unfold joinR jR
 cases j.left <;> simp [wLEFT, wJOIN]
/-- ON ahead of a condition: no name, no word of the others -/
theorem on_cut {t s u v : ByteArray} {x y : List UInt8} (ht : nameB t = true) (hu : nameB u = true) (hs : mayB s = true) (hv : mayB v = true)
 (e : srcR t.data.toList s.data.toList ++ ((32 :: wON) ++ (32 :: x)) = srcR u.data.toList v.data.toList ++ ((32 :: wON) ++ (32 :: y))) : t = u ∧ s = v ∧ x = y := by
 rw [srcR_as, srcR_as, List.append_assoc, List.append_assoc] at e
 have hn : ∀ {s : ByteArray} {x : List UInt8}, nopa ((if s.data.toList = [] then [] else 32 :: ([] ++ s.data.toList)) ++ ((32 :: wON) ++ (32 :: x))) := fun {s x} => by
  by_cases hs : s.data.toList = []
  · rw [if_pos hs]; exact nopa_cons (by decide)
  · rw [if_neg hs]; exact nopa_cons (by decide)
 have no : ∀ (x : List UInt8) (b : UInt8) (r : List UInt8), smI (b.toNat : Int) = true → (32 :: wON) ++ (32 :: x) ≠ 32 :: ([] ++ (b :: r)) := fun x b r hb e => by
  injection e with _ e
  have e2 : (79 : UInt8) :: (78 :: 32 :: x) = b :: r := e
  injection e2 with e2
  rw [← e2] at hb
  exact absurd hb (by decide)
 obtain ⟨h1, e2⟩ := row_cut (name_all ht) (name_all hu) hn hn e
 obtain ⟨h2, exy⟩ := may_cut hs hv (nopa_cons (by decide)) (nopa_cons (by decide)) (no x) (no y) e2
 have e2 : (32 :: wON) ++ (32 :: x) = (32 :: wON) ++ (32 :: y) := exy
 have e3 := List.append_cancel_left e2
 injection e3 with _ e3
 exact ⟨ba_ext h1, h2, e3⟩
theorem join_cut {a b : QJ} {x y : List UInt8} (ha : joinB a = true) (hb : joinB b = true) (hx : KW W0 x) (hy : KW W0 y) (e : joinR a ++ x = joinR b ++ y) : a = b ∧ x = y := by
 unfold joinB at ha hb
 simp only [Bool.and_eq_true] at ha hb
 rw [joinR_j, joinR_j] at e
 injection e with _ e
 have h32 : ∀ c : Bool, (if c then wLEFT else wJOIN).all (fun b => decide (b ≠ 32)) = true := by intro c; cases c <;> decide
 obtain ⟨h1, e2⟩ := nb_cut (h32 _) (h32 _) e
 have hl : a.left = b.left := by
  revert h1
  cases a.left <;> cases b.left <;> intro h1 <;> first | rfl | exact absurd h1 (by decide)
 rw [hl] at e2
 have e3 := List.append_cancel_left e2
 unfold jR at e3
 simp only [List.append_assoc] at e3
 obtain ⟨h2, h3, e4⟩ := on_cut (x := prN a.on ++ x) (y := prN b.on ++ y) ha.2.1 hb.2.1 ha.2.2 hb.2.2 (by simpa only [List.cons_append, List.append_assoc] using e3)
 obtain ⟨h4, exy⟩ := tree_cut ha.1 hb.1 (hx.end_ W0s) (hy.end_ W0s) e4
 refine ⟨?_, exy⟩
 cases a; cases b
 simp only at hl h2 h3 h4
 rw [hl, h2, h3, h4]
theorem joins_kw {l : List QJ} {x : List UInt8} (hx : KW W1 x) : KW W0 ((l.map joinR).flatten ++ x) := by
 cases l with
 | nil => exact hx.mono (by decide)
 | cons j l =>
  rw [List.map_cons, List.flatten_cons, List.append_assoc, joinR_j]
  refine .inr ⟨_, ?_, _, rfl⟩
  cases j.left <;> decide
theorem joins_no {j : QJ} {l : List QJ} {x y : List UInt8} (hx : KW W1 x) (e : x = ((j :: l).map joinR).flatten ++ y) : False := by
 rw [List.map_cons, List.flatten_cons, List.append_assoc, joinR_j] at e
 refine hx.no W1s ?_ ?_ e
 · cases j.left <;> decide
 · cases j.left <;> decide
theorem joins_cut : ∀ (l k : List QJ) {x y : List UInt8}, l.all joinB = true → k.all joinB = true → KW W1 x → KW W1 y → (l.map joinR).flatten ++ x = (k.map joinR).flatten ++ y → l = k ∧ x = y
 | [], [], x, y, _, _, _, _, e => ⟨rfl, e⟩
 | [], j :: k, x, y, _, _, hx, _, e => (joins_no hx e).elim
 | j :: l, [], x, y, _, _, _, hy, e => (joins_no hy e.symm).elim
 | i :: l, j :: k, x, y, hl, hk, hx, hy, e => by
  rw [List.all_cons, Bool.and_eq_true] at hl hk
  rw [List.map_cons, List.flatten_cons, List.append_assoc, List.map_cons, List.flatten_cons, List.append_assoc] at e
  obtain ⟨rfl, e2⟩ := join_cut hl.1 hk.1 (joins_kw hx) (joins_kw hy) e
  obtain ⟨rfl, exy⟩ := joins_cut l k hl.2 hk.2 hx hy e2
  exact ⟨rfl, exy⟩
/-- what may stand behind a name of a row -/
def EN (x : List UInt8) : Prop := x = [] ∨ ∃ r, x = 44 :: r ∨ x = 32 :: r
theorem EN.nopa {x : List UInt8} (h : EN x) : nopa x := by
 obtain rfl | ⟨r, rfl | rfl⟩ := h
 · exact nopa_nil
 · exact nopa_cons (by decide)
 · exact nopa_cons (by decide)
theorem KW.en {W : List (List UInt8)} {x : List UInt8} (h : KW W x) : EN x := by
 rcases h with rfl | ⟨w, _, r, rfl⟩
 · exact .inl rfl
 · exact .inr ⟨_, .inr rfl⟩
theorem EN.no {x : List UInt8} (h : EN x) (r : List UInt8) : x ≠ 46 :: r := by
 obtain rfl | ⟨s, rfl | rfl⟩ := h
 · intro e; cases e
 · intro e; injection e with e; exact absurd e (by decide)
 · intro e; injection e with e; exact absurd e (by decide)
theorem nm_cut {a b : QN} {x y : List UInt8} (ha : nmB a = true) (hb : nmB b = true) (hx : EN x) (hy : EN y) (e : nmP a ++ x = nmP b ++ y) : a = b ∧ x = y := by
 unfold nmB at ha hb
 rw [Bool.and_eq_true] at ha hb
 have hm : ∀ {u : ByteArray}, mayB u = true → u.data.toList ≠ [] → nameB u = true := fun {u} h hn => by
  unfold mayB at h
  rw [Bool.or_eq_true, decide_eq_true_eq] at h
  exact h.resolve_left hn
 have fin : a.tb = b.tb → a.nm = b.nm → a = b := fun h1 h2 => by
  cases a; cases b
  simp only at h1 h2
  rw [h1, h2]
 have n46 : ∀ r : List UInt8, nopa (46 :: r) := fun r => nopa_cons (by decide)
 unfold nmP namU at e
 by_cases h1 : a.tb.data.toList = []
 · rw [if_pos h1] at e
   by_cases h2 : b.tb.data.toList = []
   · rw [if_pos h2] at e
     obtain ⟨h, exy⟩ := row_cut (name_all ha.1) (name_all hb.1) hx.nopa hy.nopa e
     exact ⟨fin (ba_ext (h1.trans h2.symm)) (ba_ext h), exy⟩
   · rw [if_neg h2, List.append_assoc] at e
     obtain ⟨_, e2⟩ := row_cut (name_all ha.1) (name_all (hm hb.2 h2)) hx.nopa (n46 _) e
     exact (hx.no _ e2).elim
 · rw [if_neg h1, List.append_assoc] at e
   by_cases h2 : b.tb.data.toList = []
   · rw [if_pos h2] at e
     obtain ⟨_, e2⟩ := row_cut (name_all (hm ha.2 h1)) (name_all hb.1) (n46 _) hy.nopa e
     exact (hy.no _ e2.symm).elim
   · rw [if_neg h2, List.append_assoc] at e
     obtain ⟨h, e2⟩ := row_cut (name_all (hm ha.2 h1)) (name_all (hm hb.2 h2)) (n46 _) (n46 _) e
     injection e2 with _ e2
     obtain ⟨h3, exy⟩ := row_cut (name_all ha.1) (name_all hb.1) hx.nopa hy.nopa e2
     exact ⟨fin (ba_ext h) (ba_ext h3), exy⟩
/-- what may stand behind a key -/
def EK (x : List UInt8) : Prop := x = [] ∨ ∃ r, x = 44 :: r ∨ x = 32 :: (wLIMIT ++ 32 :: r)
theorem EK.nopa {x : List UInt8} (h : EK x) : nopa x := by
 obtain rfl | ⟨r, rfl | rfl⟩ := h
 · exact nopa_nil
 · exact nopa_cons (by decide)
 · exact nopa_cons (by decide)
theorem EK.no {x : List UInt8} (h : EK x) (r : List UInt8) : x ≠ wDESC ++ r := by
 obtain rfl | ⟨s, rfl | rfl⟩ := h
 · intro e; cases e
 · intro e; injection e with e; exact absurd e (by decide)
 · intro e
   injection e with _ e
   have e2 : (76 : UInt8) :: (73 :: 77 :: 73 :: 84 :: 32 :: s) = 68 :: (69 :: 83 :: 67 :: r) := e
   injection e2 with e2
   exact absurd e2 (by decide)
theorem pa_dec (n : Nat) : (Lib.decDigits n).all paU = true := List.all_eq_true.2 fun b hb => dg_pa (List.all_eq_true.1 (dec_all n) b hb)
theorem dec_inj {n m : Nat} (h : Lib.decDigits n = Lib.decDigits m) : n = m := by rw [← dec_val n, ← dec_val m, h]
theorem key_cut {a b : QK} {x y : List UInt8} (ha : keyB a = true) (hb : keyB b = true) (hx : EK x) (hy : EK y) (e : keyP a ++ x = keyP b ++ y) : a = b ∧ x = y := by
 have hw : ∀ {k : QK}, keyB k = true → (if k.nm.data.toList = [] then Lib.decDigits k.num.toNat else k.nm.data.toList).all paU = true := fun {k} h => by
  unfold keyB at h
  simp only [Bool.or_eq_true, Bool.and_eq_true, decide_eq_true_eq] at h
  by_cases hn : k.nm.data.toList = []
  · rw [if_pos hn]; exact pa_dec _
  · rw [if_neg hn]
    rcases h with h | h
    · exact absurd h.1 hn
    · exact name_all h.1
 have hd : ∀ (c : Bool) {x : List UInt8}, EK x → nopa ((if c then wDESC else []) ++ x) := fun c {x} h => by
  cases c
  · exact h.nopa
  · exact nopa_cons (by decide)
 unfold keyP at e
 rw [List.append_assoc, List.append_assoc] at e
 obtain ⟨h1, e2⟩ := row_cut (hw ha) (hw hb) (hd a.desc hx) (hd b.desc hy) e
 have h2 : a.desc = b.desc ∧ x = y := by
  revert e2
  cases a.desc <;> cases b.desc <;> intro e2
  · exact ⟨rfl, e2⟩
  · exact (hx.no _ e2).elim
  · exact (hy.no _ e2.symm).elim
  · exact ⟨rfl, List.append_cancel_left e2⟩
 refine ⟨?_, h2.2⟩
 unfold keyB at ha hb
 simp only [Bool.or_eq_true, Bool.and_eq_true, decide_eq_true_eq] at ha hb
 have h3 : a.nm = b.nm ∧ a.num = b.num := by
  have nd : ∀ {n : Nat} {s : ByteArray}, nameB s = true → Lib.decDigits n = s.data.toList → False := fun {n s} hs e => by
   obtain ⟨_, _, c, r, ec, hc⟩ := name_small hs
   have := List.all_eq_true.1 (dec_all n) c (by rw [e, ec]; simp)
   unfold dgU dgI at this
   unfold smI at hc
   simp only [Bool.and_eq_true, decide_eq_true_eq] at this hc
   omega
  by_cases ea : a.nm.data.toList = []
  · rw [if_pos ea] at h1
    have ra := (ha.resolve_right fun h => name_ne h.1 ea).2
    by_cases eb : b.nm.data.toList = []
    · rw [if_pos eb] at h1
      have rb := (hb.resolve_right fun h => name_ne h.1 eb).2
      have := dec_inj h1
      exact ⟨ba_ext (ea.trans eb.symm), by omega⟩
    · rw [if_neg eb] at h1
      exact (nd (hb.resolve_left fun h => eb h.1).1 h1).elim
  · rw [if_neg ea] at h1
    by_cases eb : b.nm.data.toList = []
    · rw [if_pos eb] at h1
      exact (nd (ha.resolve_left fun h => ea h.1).1 h1.symm).elim
    · rw [if_neg eb] at h1
      exact ⟨ba_ext h1, by rw [(ha.resolve_left fun h => ea h.1).2, (hb.resolve_left fun h => eb h.1).2]⟩
 cases a; cases b
 simp only at h2 h3
 rw [h2.1, h3.1, h3.2]
/-! ### selects and queries -/
def tailR (s : QS) : List UInt8 := (s.joins.map joinR).flatten ++ (onR wWHERE s.wh ++ (rowR wGROUPBY (s.grp.map nmP) ++ onR wHAVING s.hv))
theorem none_ok {t : List Nd} (h : noneB t = true) (hn : t ≠ []) : okF t = true := by
 unfold noneB at h
 rw [Bool.or_eq_true, decide_eq_true_eq] at h
 exact h.resolve_left fun h => hn (List.eq_nil_of_length_eq_zero h)
theorem group_if (l : List QN) : rowR wGROUPBY (l.map nmP) = if l = [] then [] else (32 :: [71, 82, 79, 85, 80]) ++ (32 :: ([66, 89, 32] ++ joinC (l.map nmP))) := by
 unfold rowR
 by_cases h : l = []
 · rw [if_pos h, h]; rfl
 · rw [if_neg h, if_neg (by simpa using h)]; rfl
theorem order_if (l : List QK) : rowR wORDERBY (l.map keyP) = if l = [] then [] else (32 :: [79, 82, 68, 69, 82]) ++ (32 :: ([66, 89, 32] ++ joinC (l.map keyP))) := by
 unfold rowR
 by_cases h : l = []
 · rw [if_pos h, h]; rfl
 · rw [if_neg h, if_neg (by simpa using h)]; rfl
theorem tail_cut {s t : QS} {x y : List UInt8} (hs : selB s = true) (ht : selB t = true) (hx : KW W4 x) (hy : KW W4 y) (e : tailR s ++ x = tailR t ++ y) :
 s.joins = t.joins ∧ s.wh = t.wh ∧ s.grp = t.grp ∧ s.hv = t.hv ∧ x = y := by
 unfold selB at hs ht
 simp only [Bool.and_eq_true] at hs ht
 obtain ⟨_, _, _, hjs, hgs, hws, hhs⟩ := hs
 obtain ⟨_, _, _, hjt, hgt, hwt, hht⟩ := ht
 unfold tailR at e
 simp only [List.append_assoc] at e
 have k3 : ∀ (t : List Nd) {x : List UInt8}, KW W4 x → KW W3 (onR wHAVING t ++ x) := fun t {x} h => clause_kw (w := wHAVING) (n := ([] : List Nd)) (f := prN) h (by decide) (by decide)
 have k2 : ∀ (l : List QN) {x : List UInt8}, KW W3 x → KW W2 (rowR wGROUPBY (l.map nmP) ++ x) := fun l {x} h => by
  rw [group_if]
  exact clause_kw (w := [71, 82, 79, 85, 80]) (n := ([] : List QN)) (f := fun l => [66, 89, 32] ++ joinC (l.map nmP)) h (by decide) (by decide)
 have k1 : ∀ (t : List Nd) {x : List UInt8}, KW W2 x → KW W1 (onR wWHERE t ++ x) := fun t {x} h => clause_kw (w := wWHERE) (n := ([] : List Nd)) (f := prN) h (by decide) (by decide)
 obtain ⟨h1, e1⟩ := joins_cut _ _ hjs hjt (k1 _ (k2 _ (k3 _ hx))) (k1 _ (k2 _ (k3 _ hy))) e
 obtain ⟨h2, e2⟩ := clause_cut (w := wWHERE) (n := ([] : List Nd)) (f := prN) W2s (by decide) (by decide) (k2 _ (k3 _ hx)) (k2 _ (k3 _ hy)) (fun ha hb e => tree_cut (none_ok hws ha) (none_ok hwt hb) ((k2 _ (k3 _ hx)).end_ W2s) ((k2 _ (k3 _ hy)).end_ W2s) e) e1
 rw [group_if, group_if] at e2
 obtain ⟨h3, e3⟩ := clause_cut (w := [71, 82, 79, 85, 80]) (n := ([] : List QN)) (f := fun l => [66, 89, 32] ++ joinC (l.map nmP)) W3s (by decide) (by decide) (k3 _ hx) (k3 _ hy) (fun ha hb e => by
  simp only [List.append_assoc] at e
  exact joinC_cut (P := fun a => nmB a = true) (E := EN) (fun r => .inr ⟨r, .inl rfl⟩) (fun a b x y pa pb hx hy e => nm_cut pa pb hx hy e) _ _ ha hb (List.all_eq_true.1 hgs) (List.all_eq_true.1 hgt) _ _ (k3 _ hx).en (k3 _ hy).en (k3 _ hx).nc (k3 _ hy).nc (List.append_cancel_left e)) e2
 obtain ⟨h4, e4⟩ := clause_cut (w := wHAVING) (n := ([] : List Nd)) (f := prN) W4s (by decide) (by decide) hx hy (fun ha hb e => tree_cut (none_ok hhs ha) (none_ok hht hb) (hx.end_ W4s) (hy.end_ W4s) e) e3
 exact ⟨h1, h2, h3, h4, e4⟩
theorem tail_kw {s : QS} {x : List UInt8} (hx : KW W4 x) : KW W0 (tailR s ++ x) := by
 unfold tailR
 simp only [List.append_assoc]
 refine joins_kw ?_
 refine clause_kw (W := W2) (w := wWHERE) (n := ([] : List Nd)) (f := prN) ?_ (by decide) (by decide)
 rw [group_if]
 refine clause_kw (W := W3) (w := [71, 82, 79, 85, 80]) (n := ([] : List QN)) (f := fun l => [66, 89, 32] ++ joinC (l.map nmP)) ?_ (by decide) (by decide)
 exact clause_kw (W := W4) (w := wHAVING) (n := ([] : List Nd)) (f := prN) hx (by decide) (by decide)
theorem selR_t (s : QS) (x : List UInt8) : selR s ++ x = wSELECT ++ (32 :: ((if s.dis then wDISTINCT ++ [32] else []) ++ ((if s.star then [42] else []) ++ (joinC (s.items.map itemP) ++ (32 :: (wFROM ++ 32 :: (srcR s.ftb.data.toList s.fas.data.toList ++ (tailR s ++ x)))))))) := by
 unfold selR tailR
 simp only [List.append_assoc, List.cons_append]
theorem items_head {s : QS} (hs : selB s = true) (h : s.star = false) (x : List UInt8) : ∃ b r, joinC (s.items.map itemP) ++ x = b :: r ∧ b ≠ 42 ∧ b ≠ 68 := by
 unfold selB selShape at hs
 simp only [Bool.and_eq_true, decide_eq_true_eq] at hs
 obtain ⟨⟨hst, _⟩, _, hit, _⟩ := hs
 rw [h] at hst
 cases hi : s.items with
 | nil => rw [hi] at hst; exact absurd hst (by decide)
 | cons a l =>
  rw [hi, List.all_cons, Bool.and_eq_true] at hit
  have h1 := hit.1
  unfold itemB at h1
  rw [Bool.and_eq_true] at h1
  obtain ⟨b, r, e, hb⟩ := prN_head h1.1
  have hr : ∃ r, joinC ((a :: l).map itemP) ++ x = b :: r := by
   rw [List.map_cons]
   by_cases hl : l.map itemP = []
   · rw [hl, joinC_one, itemP_as, e]; exact ⟨_, rfl⟩
   · rw [joinC_cons _ hl, itemP_as, e]
     simp only [List.append_assoc, List.cons_append]
     exact ⟨_, rfl⟩
  obtain ⟨r2, hr⟩ := hr
  exact ⟨b, r2, hr, hb⟩
theorem sel_cut {s t : QS} {x y : List UInt8} (hs : selB s = true) (ht : selB t = true) (hx : KW W4 x) (hy : KW W4 y) (e : selR s ++ x = selR t ++ y) : s = t ∧ x = y := by
 rw [selR_t, selR_t] at e
 have e1 := List.append_cancel_left e
 injection e1 with _ e1
 have star_head : ∀ {s : QS} (X : List UInt8), selB s = true → ∃ b r, (if s.star then [42] else []) ++ (joinC (s.items.map itemP) ++ X) = b :: r ∧ b ≠ 68 := fun {s} X h => by
  cases hst : s.star
  · obtain ⟨b, r, e, hb⟩ := items_head h hst X
    exact ⟨b, r, e, hb.2⟩
  · exact ⟨_, _, rfl, by decide⟩
 have hd : s.dis = t.dis := by
  cases h1 : s.dis <;> cases h2 : t.dis
  · rfl
  · rw [h1, h2] at e1
    obtain ⟨b, r, eb, hb⟩ := star_head (s := s) _ hs
    rw [show ∀ L : List UInt8, (if false = true then wDISTINCT ++ [32] else []) ++ L = L from fun L => rfl, eb] at e1
    injection e1 with e1
    exact absurd e1 hb
  · rw [h1, h2] at e1
    obtain ⟨b, r, eb, hb⟩ := star_head (s := t) _ ht
    rw [show ∀ L : List UInt8, (if false = true then wDISTINCT ++ [32] else []) ++ L = L from fun L => rfl, eb] at e1
    injection e1 with e1
    exact absurd e1.symm hb
  · rfl
 rw [hd] at e1
 have e2 := List.append_cancel_left e1
 have hst : s.star = t.star := by
  cases h1 : s.star <;> cases h2 : t.star
  · rfl
  · rw [h1, h2] at e2
    obtain ⟨b, r, eb, hb⟩ := items_head hs h1 (32 :: (wFROM ++ 32 :: (srcR s.ftb.data.toList s.fas.data.toList ++ (tailR s ++ x))))
    rw [show ∀ L : List UInt8, (if false = true then [42] else []) ++ L = L from fun L => rfl, eb] at e2
    injection e2 with e2
    exact absurd e2 hb.1
  · rw [h1, h2] at e2
    obtain ⟨b, r, eb, hb⟩ := items_head ht h2 (32 :: (wFROM ++ 32 :: (srcR t.ftb.data.toList t.fas.data.toList ++ (tailR t ++ y))))
    rw [show ∀ L : List UInt8, (if false = true then [42] else []) ++ L = L from fun L => rfl, eb] at e2
    injection e2 with e2
    exact absurd e2.symm hb.1
  · rfl
 rw [hst] at e2
 have e3 := List.append_cancel_left e2
 have hs' := hs
 have ht' := ht
 unfold selB selShape at hs' ht'
 simp only [Bool.and_eq_true, decide_eq_true_eq] at hs' ht'
 obtain ⟨⟨hst1, _⟩, ⟨hf1, ha1⟩, hit1, _⟩ := hs'
 obtain ⟨⟨hst2, _⟩, ⟨hf2, ha2⟩, hit2, _⟩ := ht'
 have hEI : ∀ r : List UInt8, EI (32 :: (wFROM ++ 32 :: r)) := fun r => ⟨r, .inr rfl⟩
 have hnc : ∀ r : List UInt8, nc (32 :: r) := fun r s e => by injection e with e; exact absurd e (by decide)
 have h4 : s.items = t.items ∧ (32 :: (wFROM ++ 32 :: (srcR s.ftb.data.toList s.fas.data.toList ++ (tailR s ++ x)))) = (32 :: (wFROM ++ 32 :: (srcR t.ftb.data.toList t.fas.data.toList ++ (tailR t ++ y)))) := by
  by_cases hi : s.items = []
  · have hj : t.items = [] := by
     rw [hi] at hst1
     have h1 : decide (t.items.length = 0) = true := by rw [← hst2, ← hst, hst1]; rfl
     exact List.eq_nil_of_length_eq_zero (of_decide_eq_true h1)
    rw [hi, hj] at e3 ⊢
    exact ⟨rfl, e3⟩
  · have hj : t.items ≠ [] := fun hj => by
     rw [hj] at hst2
     rw [hst, hst2] at hst1
     exact hi (List.eq_nil_of_length_eq_zero (of_decide_eq_true hst1.symm))
    exact joinC_cut (P := fun a => itemB a = true) (E := EI) (fun r => ⟨r, .inl rfl⟩) (fun a b x y pa pb hx hy e => item_cut pa pb hx hy e) _ _ hi hj (List.all_eq_true.1 hit1) (List.all_eq_true.1 hit2) _ _ (hEI _) (hEI _) (hnc _) (hnc _) e3
 obtain ⟨h4, e4⟩ := h4
 injection e4 with _ e4
 have e5 := List.append_cancel_left e4
 injection e5 with _ e5
 obtain ⟨h5, h6, e6⟩ := src_cut W0s hf1 hf2 ha1 ha2 (tail_kw hx) (tail_kw hy) e5
 obtain ⟨h7, h8, h9, h10, exy⟩ := tail_cut hs ht hx hy e6
 refine ⟨?_, exy⟩
 cases s; cases t
 simp only at hd hst h4 h5 h6 h7 h8 h9 h10
 rw [hd, hst, h4, h5, h6, h7, h8, h9, h10]
theorem sels_one (s : QS) (l : List QS) (x : List UInt8) : selsR (s :: l) ++ x = 32 :: ([85, 78, 73, 79, 78] ++ 32 :: ([65, 76, 76, 32] ++ (selR s ++ (selsR l ++ x)))) := by
 rw [selsR]
 simp [wUNIONALL]
theorem sels_kw {l : List QS} {x : List UInt8} (hx : KW W5 x) : KW W4 (selsR l ++ x) := by
 cases l with
 | nil => exact hx.mono (by decide)
 | cons s l => rw [sels_one]; exact .inr ⟨_, by decide, _, rfl⟩
theorem sels_cut : ∀ (l k : List QS) {x y : List UInt8}, l.all selB = true → k.all selB = true → KW W5 x → KW W5 y → selsR l ++ x = selsR k ++ y → l = k ∧ x = y
 | [], [], x, y, _, _, _, _, e => ⟨rfl, e⟩
 | [], s :: k, x, y, _, _, hx, _, e => (hx.no W5s (by decide) (by decide) (show x = _ from e.trans (sels_one s k y))).elim
 | s :: l, [], x, y, _, _, _, hy, e => (hy.no W5s (by decide) (by decide) (show y = _ from e.symm.trans (sels_one s l x))).elim
 | s :: l, t :: k, x, y, hl, hk, hx, hy, e => by
  rw [List.all_cons, Bool.and_eq_true] at hl hk
  rw [sels_one, sels_one] at e
  injection e with _ e
  have e1 := List.append_cancel_left e
  injection e1 with _ e1
  obtain ⟨rfl, e2⟩ := sel_cut hl.1 hk.1 (sels_kw hx) (sels_kw hy) (List.append_cancel_left e1)
  obtain ⟨rfl, exy⟩ := sels_cut l k hl.2 hk.2 hx hy e2
  exact ⟨rfl, exy⟩
def limR (n : Int) : List UInt8 := if 0 ≤ n then (32 :: wLIMIT) ++ (32 :: Lib.decDigits n.toNat) else []
theorem lim_kw (n : Int) : KW W6 (limR n) := by
 unfold limR
 by_cases h : 0 ≤ n
 · rw [if_pos h]; exact .inr ⟨wLIMIT, by decide, _, rfl⟩
 · rw [if_neg h]; exact .inl rfl
theorem lim_ek (n : Int) : EK (limR n) := by
 unfold limR
 by_cases h : 0 ≤ n
 · rw [if_pos h]; exact .inr ⟨_, .inr rfl⟩
 · rw [if_neg h]; exact .inl rfl
theorem order_kw (l : List QK) {x : List UInt8} (hx : KW W6 x) : KW W5 (rowR wORDERBY (l.map keyP) ++ x) := by
 rw [order_if]
 exact clause_kw (w := [79, 82, 68, 69, 82]) (n := ([] : List QK)) (f := fun l => [66, 89, 32] ++ joinC (l.map keyP)) hx (by decide) (by decide)
/-- THE LAW: unlike queries are written unlike. -/
theorem prQ_inj {p q : QC} (hp : qryB p = true) (hq : qryB q = true) (h : prQ p = prQ q) : p = q := by
 unfold qryB at hp hq
 simp only [Bool.and_eq_true, Bool.or_eq_true, decide_eq_true_eq] at hp hq
 obtain ⟨⟨hp0, _, _, hpl⟩, hpk, hps⟩ := hp
 obtain ⟨⟨hq0, _, _, hql⟩, hqk, hqs⟩ := hq
 obtain ⟨ps, pk, pl⟩ := p
 obtain ⟨qs, qk, ql⟩ := q
 simp only at hp0 hq0 hpk hqk hps hqs hpl hql
 match ps, qs, hp0, hq0 with
 | s :: l, t :: k, _, _ =>
  rw [List.all_cons, Bool.and_eq_true] at hps hqs
  have e : selR s ++ (selsR l ++ (rowR wORDERBY (pk.map keyP) ++ limR pl)) = selR t ++ (selsR k ++ (rowR wORDERBY (qk.map keyP) ++ limR ql)) := by
   have h2 : (selR s ++ selsR l) ++ (rowR wORDERBY (pk.map keyP) ++ limR pl) = (selR t ++ selsR k) ++ (rowR wORDERBY (qk.map keyP) ++ limR ql) := h
   rwa [List.append_assoc, List.append_assoc] at h2
  obtain ⟨h1, e1⟩ := sel_cut hps.1 hqs.1 (sels_kw (order_kw _ (lim_kw _))) (sels_kw (order_kw _ (lim_kw _))) e
  obtain ⟨h2, e2⟩ := sels_cut l k hps.2 hqs.2 (order_kw _ (lim_kw _)) (order_kw _ (lim_kw _)) e1
  rw [order_if, order_if] at e2
  obtain ⟨h3, e3⟩ := clause_cut (w := [79, 82, 68, 69, 82]) (n := ([] : List QK)) (f := fun l => [66, 89, 32] ++ joinC (l.map keyP)) W6s (by decide) (by decide) (lim_kw pl) (lim_kw ql) (fun ha hb e => by
   simp only [List.append_assoc] at e
   exact joinC_cut (P := fun a => keyB a = true) (E := EK) (fun r => .inr ⟨r, .inl rfl⟩) (fun a b x y pa pb hx hy e => key_cut pa pb hx hy e) _ _ ha hb (List.all_eq_true.1 hpk) (List.all_eq_true.1 hqk) _ _ (lim_ek _) (lim_ek _) (lim_kw _).nc (lim_kw _).nc (List.append_cancel_left e)) e2
  have h4 : pl = ql := by
   unfold limR at e3
   by_cases g1 : 0 ≤ pl <;> by_cases g2 : 0 ≤ ql
   · rw [if_pos g1, if_pos g2] at e3
     have e4 := List.append_cancel_left e3
     injection e4 with _ e4
     have := dec_inj e4
     omega
   · rw [if_pos g1, if_neg g2] at e3; cases e3
   · rw [if_neg g1, if_pos g2] at e3; cases e3
   · omega
  rw [h1, h2, h3, h4]
end Go.Proofs.YtoaggmldekejoaaGreatDoor
/- The reference's sources and selects, as they are written. Conditions: a select that may be. -/
namespace Go.Proofs.YtoaggmldekejoaaGreatDoor
open Go.RowKit
end Go.Proofs.YtoaggmldekejoaaGreatDoor
/- The reference's Print. Conditions: a query that may be. -/
namespace Go.Proofs.YtoaggmldekejoaaGreatDoor
open Go.RowKit
end Go.Proofs.YtoaggmldekejoaaGreatDoor
/- What the law's wakes comes to, in plain Lean. Conditions: none. -/
namespace Go.Proofs.YtoaggmldekejoaaGreatDoor
def p1 : Py := ⟨1, 2, 1, 0, eB, eB, eB⟩
def pA (b : UInt8) : Py := ⟨2, 0, 0, 0, eB, eB, bS [b]⟩
def N1 : List Nd := [⟨p1, -1, -1⟩]
def NA (b : UInt8) : List Nd := [⟨pA b, -1, -1⟩]
def N2 : List Nd := [⟨pA 97, -1, -1⟩, ⟨p1, -1, -1⟩, ⟨zP 12, 0, 1⟩]
def N3 : List Nd := [⟨pA 97, -1, -1⟩, ⟨p1, -1, -1⟩, ⟨zP 12, 0, 1⟩, ⟨pA 98, -1, -1⟩, ⟨zP 16, 2, 3⟩]
def T3 : Tr := .two (zP 16) (.two (zP 12) (.leaf (pA 97)) (.leaf p1)) (.leaf (pA 98))
theorem w1E : madeE p1 [] = 0 := by decide +kernel
theorem w1R : madeR p1 [] = N1 := by decide +kernel
theorem w2E : madeE (zP 12) [NA 97, N1] = 0 := by decide +kernel
theorem w2R : madeR (zP 12) [NA 97, N1] = N2 := by decide +kernel
theorem w3E : madeE (zP 16) [N2, NA 98] = 0 := by decide +kernel
theorem w3R : madeR (zP 16) [N2, NA 98] = N3 := by decide +kernel
theorem w3T : treeF cntB N3 = some T3 := rfl
theorem w3O : okF N3 = true := okF_of w3T
theorem w3D : depF N3 = 3 := by rw [depF_of w3T]; rfl
theorem w3P : prT T3 = [40, 97, 32, 43, 32, 49, 41, 32, 61, 32, 98] := by
 have h1 : Lib.decDigits 1 = [49] := by rw [Lib.decDigits]; rfl
 have h2 : leafU p1 = [49] := by
  show Lib.decDigits (1 : Int).toNat = [49]
  exact h1
 unfold T3
 rw [pr_two, par_bare (show bareT (.leaf (pA 98)) = true from rfl), par_not (show bareT (.two (zP 12) (.leaf (pA 97)) (.leaf p1)) = false from rfl), pr_two, par_bare (show bareT (.leaf (pA 97)) = true from rfl), par_bare (show bareT (.leaf p1) = true from rfl), pr_leaf, pr_leaf, pr_leaf, h2]
 rfl
end Go.Proofs.YtoaggmldekejoaaGreatDoor
