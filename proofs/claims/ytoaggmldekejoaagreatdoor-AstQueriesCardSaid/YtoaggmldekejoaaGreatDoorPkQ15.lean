/- How queries are written, in plain Lean: the program's way (words, with blanks between them) and the reference's are one. Conditions: none. -/
import Derived.Test.YtoaggmldekejoaaGreatDoorPkQ14
namespace Go.Proofs.YtoaggmldekejoaaGreatDoor
/-- a tree that may be, as it is written -/
def prN (x : List Nd) : List UInt8 := match treeF cntB x with | some t => prT t | none => []
def joinC : List (List UInt8) → List UInt8
 | [] => []
 | [x] => x
 | x :: y :: l => x ++ ([44, 32] ++ joinC (y :: l))
def wSELECT : List UInt8 := [83, 69, 76, 69, 67, 84]
def wDISTINCT : List UInt8 := [68, 73, 83, 84, 73, 78, 67, 84]
def wFROM : List UInt8 := [70, 82, 79, 77]
def wLEFT : List UInt8 := [76, 69, 70, 84]
def wJOIN : List UInt8 := [74, 79, 73, 78]
def wON : List UInt8 := [79, 78]
def wAS : List UInt8 := [65, 83]
def wWHERE : List UInt8 := [87, 72, 69, 82, 69]
def wGROUPBY : List UInt8 := [71, 82, 79, 85, 80, 32, 66, 89]
def wHAVING : List UInt8 := [72, 65, 86, 73, 78, 71]
def wUNIONALL : List UInt8 := [85, 78, 73, 79, 78, 32, 65, 76, 76]
def wORDERBY : List UInt8 := [79, 82, 68, 69, 82, 32, 66, 89]
def wLIMIT : List UInt8 := [76, 73, 77, 73, 84]
def wDESC : List UInt8 := [32, 68, 69, 83, 67]
/-! ### the program's way -/
def addW (acc s : List UInt8) : List UInt8 := if s = [] then acc else if acc = [] then s else acc ++ (32 :: s)
def wordsP (acc : List UInt8) (l : List (List UInt8)) : List UInt8 := l.foldl addW acc
def whenP (b : Bool) (s : List UInt8) : List UInt8 := if b then s else []
def rowP (acc w : List UInt8) (l : List (List UInt8)) : List UInt8 := if l = [] then acc else wordsP acc [w, joinC l]
def onP (acc w : List UInt8) (t : List Nd) : List UInt8 := if t = [] then acc else wordsP acc [w, prN t]
def itemP (x : QI) : List UInt8 := prN x.t ++ (if x.as_.data.toList = [] then [] else (32 :: wAS) ++ (32 :: x.as_.data.toList))
def nmP (x : QN) : List UInt8 := namU x.tb.data.toList x.nm.data.toList
def joinP (acc : List UInt8) (j : QJ) : List UInt8 := onP (wordsP acc [whenP j.left wLEFT, wJOIN, j.tb.data.toList, j.as_.data.toList]) wON j.on
def selP (acc : List UInt8) (s : QS) : List UInt8 :=
 onP (rowP (onP (s.joins.foldl joinP (wordsP (rowP (wordsP acc [wSELECT, whenP s.dis wDISTINCT, whenP s.star [42]]) [] (s.items.map itemP)) [wFROM, s.ftb.data.toList, s.fas.data.toList])) wWHERE s.wh) wGROUPBY (s.grp.map nmP)) wHAVING s.hv
def selsP : Nat → List UInt8 → List QS → List UInt8
 | _, acc, [] => acc
 | i, acc, s :: l => selsP (i + 1) (selP (wordsP acc [whenP (decide (0 < i)) wUNIONALL]) s) l
def keyP (k : QK) : List UInt8 := (if k.nm.data.toList = [] then Lib.decDigits k.num.toNat else k.nm.data.toList) ++ (if k.desc then wDESC else [])
def qryP (q : QC) : List UInt8 :=
 let a := rowP (selsP 0 [] q.sels) wORDERBY (q.keys.map keyP)
 if 0 ≤ q.lim then wordsP a [wLIMIT, Lib.decDigits q.lim.toNat] else a
/-! ### the reference's way -/
def srcR (tb as_ : List UInt8) : List UInt8 := if as_ = [] then tb else tb ++ (32 :: as_)
def joinR (j : QJ) : List UInt8 := (if j.left then 32 :: wLEFT else []) ++ ((32 :: wJOIN) ++ (32 :: (srcR j.tb.data.toList j.as_.data.toList ++ ((32 :: wON) ++ (32 :: prN j.on)))))
def onR (w : List UInt8) (t : List Nd) : List UInt8 := if t = [] then [] else (32 :: w) ++ (32 :: prN t)
def rowR (w : List UInt8) (l : List (List UInt8)) : List UInt8 := if l = [] then [] else (32 :: w) ++ (32 :: joinC l)
def selR (s : QS) : List UInt8 :=
 wSELECT ++ (32 :: ((if s.dis then wDISTINCT ++ [32] else []) ++ ((if s.star then [42] else []) ++ (joinC (s.items.map itemP) ++ ((32 :: wFROM) ++ (32 :: (srcR s.ftb.data.toList s.fas.data.toList ++ ((s.joins.map joinR).flatten ++ (onR wWHERE s.wh ++ (rowR wGROUPBY (s.grp.map nmP) ++ onR wHAVING s.hv))))))))))
def selsR : List QS → List UInt8
 | [] => []
 | s :: l => (32 :: wUNIONALL) ++ (32 :: (selR s ++ selsR l))
def prQ (q : QC) : List UInt8 :=
 (match q.sels with | [] => [] | s :: l => selR s ++ selsR l) ++ (rowR wORDERBY (q.keys.map keyP) ++ (if 0 ≤ q.lim then (32 :: wLIMIT) ++ (32 :: Lib.decDigits q.lim.toNat) else []))
/-! ### they are one -/
theorem addW_ne {acc s : List UInt8} (h : acc ≠ []) (hs : s ≠ []) : addW acc s = acc ++ (32 :: s) := by unfold addW; rw [if_neg hs, if_neg h]
theorem addW_nil {acc : List UInt8} : addW acc [] = acc := by unfold addW; rw [if_pos rfl]
theorem addW_acc {acc s : List UInt8} (h : acc ≠ []) : addW acc s ≠ [] := by
 unfold addW
 split
 · exact h
 · simp
theorem wordsP_ne {acc : List UInt8} (h : acc ≠ []) : ∀ l : List (List UInt8), wordsP acc l ≠ []
 | [] => h
 | s :: l => by show wordsP (addW acc s) l ≠ []; exact wordsP_ne (addW_acc h) l
def spL : List (List UInt8) → List UInt8
 | [] => []
 | s :: l => (if s = [] then [] else 32 :: s) ++ spL l
theorem wordsP_sp {acc : List UInt8} (h : acc ≠ []) : ∀ l : List (List UInt8), wordsP acc l = acc ++ spL l
 | [] => by unfold spL; rw [List.append_nil]; rfl
 | s :: l => by
  show wordsP (addW acc s) l = _
  rw [wordsP_sp (addW_acc h) l, show spL (s :: l) = (if s = [] then [] else 32 :: s) ++ spL l from rfl]
  unfold addW
  split
  · rw [List.nil_append]
  · rw [List.append_assoc]
theorem onP_sp {acc w : List UInt8} {t : List Nd} (h : acc ≠ []) (hw : w ≠ []) (ht : t ≠ [] → prN t ≠ []) : onP acc w t = acc ++ onR w t := by
 unfold onP onR
 split
 · rw [List.append_nil]
 · next hn =>
   rw [wordsP_sp h]
   rw [show spL [w, prN t] = (if w = [] then [] else 32 :: w) ++ ((if prN t = [] then [] else 32 :: prN t) ++ []) from rfl, if_neg hw, if_neg (ht hn), List.append_nil]
theorem onP_ne {acc w : List UInt8} {t : List Nd} (h : acc ≠ []) : onP acc w t ≠ [] := by
 unfold onP
 split
 · exact h
 · exact wordsP_ne h _
theorem rowP_ne {acc w : List UInt8} {l : List (List UInt8)} (h : acc ≠ []) : rowP acc w l ≠ [] := by
 unfold rowP
 split
 · exact h
 · exact wordsP_ne h _
theorem joinC_ne {l : List (List UInt8)} (h : l ≠ []) (hx : ∀ x ∈ l, x ≠ []) : joinC l ≠ [] := by
 match l, h with
 | [x], _ => exact hx x (by simp)
 | x :: y :: r, _ => unfold joinC; simp
theorem rowP_sp {acc w : List UInt8} {l : List (List UInt8)} (h : acc ≠ []) (hw : w ≠ []) (hx : ∀ x ∈ l, x ≠ []) : rowP acc w l = acc ++ rowR w l := by
 unfold rowP rowR
 split
 · rw [List.append_nil]
 · next hn =>
   rw [wordsP_sp h]
   rw [show spL [w, joinC l] = (if w = [] then [] else 32 :: w) ++ ((if joinC l = [] then [] else 32 :: joinC l) ++ []) from rfl, if_neg hw, if_neg (joinC_ne hn hx), List.append_nil]
theorem prN_ne {t : List Nd} (h : okF t = true) : prN t ≠ [] := by
 unfold prN
 unfold okF at h
 cases e : treeF cntB t with
 | none => rw [e] at h; cases h
 | some u =>
  obtain ⟨b, r, hb, _⟩ := pr_head (treeF_some.1 e).2.1
  show prT u ≠ []
  rw [hb]; simp
theorem name_ne {s : ByteArray} (h : nameB s = true) : s.data.toList ≠ [] := by
 obtain ⟨_, _, b, r, e, _⟩ := name_small h
 rw [e]; simp
theorem nmP_ne {x : QN} (h : nmB x = true) : nmP x ≠ [] := by
 unfold nmB at h
 rw [Bool.and_eq_true] at h
 unfold nmP namU
 split
 · exact name_ne h.1
 · simp
theorem itemP_ne {x : QI} (h : itemB x = true) : itemP x ≠ [] := by
 unfold itemB at h
 rw [Bool.and_eq_true] at h
 unfold itemP
 intro e
 exact prN_ne h.1 (List.append_eq_nil_iff.1 e).1
theorem keyP_ne {k : QK} : keyP k ≠ [] := by
 unfold keyP
 intro e
 have := (List.append_eq_nil_iff.1 e).1
 split at this
 · exact dec_ne _ this
 · exact absurd this ‹_›
theorem src_sp {tb as_ : List UInt8} (h : tb ≠ []) : spL [tb, as_] = 32 :: srcR tb as_ := by
 rw [show spL [tb, as_] = (if tb = [] then [] else 32 :: tb) ++ ((if as_ = [] then [] else 32 :: as_) ++ []) from rfl, if_neg h, List.append_nil]
 unfold srcR
 split
 · rw [List.append_nil]
 · rfl
theorem joinP_sp {acc : List UInt8} {j : QJ} (h : acc ≠ []) (hj : joinB j = true) : joinP acc j = acc ++ joinR j := by
 unfold joinB at hj
 simp only [Bool.and_eq_true] at hj
 have hn := name_ne hj.2.1
 have hp := prN_ne hj.1
 have ho : j.on ≠ [] := fun e => by rw [e] at hj; exact absurd hj.1 (by decide)
 unfold joinP
 rw [onP_sp (wordsP_ne h _) (by decide) (fun _ => hp), wordsP_sp h]
 unfold onR joinR
 rw [if_neg ho]
 have e : spL [whenP j.left wLEFT, wJOIN, j.tb.data.toList, j.as_.data.toList] = (if j.left then 32 :: wLEFT else []) ++ ((32 :: wJOIN) ++ (32 :: srcR j.tb.data.toList j.as_.data.toList)) := by
  rw [show spL [whenP j.left wLEFT, wJOIN, j.tb.data.toList, j.as_.data.toList] = (if whenP j.left wLEFT = [] then [] else 32 :: whenP j.left wLEFT) ++ ((if wJOIN = [] then [] else 32 :: wJOIN) ++ spL [j.tb.data.toList, j.as_.data.toList]) from rfl, src_sp hn]
  cases j.left <;> rfl
 rw [e]
 simp only [List.append_assoc, List.cons_append]
theorem joins_sp : ∀ (l : List QJ) {acc : List UInt8}, acc ≠ [] → l.all joinB = true → l.foldl joinP acc = acc ++ (l.map joinR).flatten ∧ l.foldl joinP acc ≠ []
 | [], acc, h, _ => ⟨by simp, h⟩
 | j :: l, acc, h, hl => by
  rw [List.all_cons, Bool.and_eq_true] at hl
  have e := joinP_sp h hl.1
  have hne : joinP acc j ≠ [] := by rw [e]; intro e2; exact h (List.append_eq_nil_iff.1 e2).1
  obtain ⟨a, b⟩ := joins_sp l hne hl.2
  rw [List.foldl_cons]
  refine ⟨?_, b⟩
  rw [a, e, List.map_cons, List.flatten_cons, List.append_assoc]
theorem none_pr {t : List Nd} (h : noneB t = true) (hn : t ≠ []) : prN t ≠ [] := by
 unfold noneB at h
 rw [Bool.or_eq_true, decide_eq_true_eq] at h
 rcases h with h | h
 · exact absurd (List.eq_nil_of_length_eq_zero h) hn
 · exact prN_ne h
theorem selP_sp {acc : List UInt8} {s : QS} (h : selB s = true) : selP acc s = (if acc = [] then [] else acc ++ [32]) ++ selR s ∧ selP acc s ≠ [] := by
 unfold selB selShape at h
 simp only [Bool.and_eq_true, decide_eq_true_eq] at h
 obtain ⟨⟨hst, _⟩, ⟨hf, hfa⟩, hit, hjo, hgr, hwh, hhv⟩ := h
 have hfn := name_ne hf
 obtain ⟨a0, ha0⟩ : ∃ a0, a0 = wordsP acc [wSELECT, whenP s.dis wDISTINCT, whenP s.star [42]] := ⟨_, rfl⟩
 have e0 : a0 = (if acc = [] then [] else acc ++ [32]) ++ (wSELECT ++ ((if s.dis then 32 :: wDISTINCT else []) ++ (if s.star then [32, 42] else []))) := by
  rw [ha0, show wordsP acc [wSELECT, whenP s.dis wDISTINCT, whenP s.star [42]] = wordsP (addW acc wSELECT) [whenP s.dis wDISTINCT, whenP s.star [42]] from rfl]
  have hne : addW acc wSELECT ≠ [] := by unfold addW; rw [if_neg (by decide)]; split <;> simp [wSELECT]
  rw [wordsP_sp hne]
  have e1 : addW acc wSELECT = (if acc = [] then [] else acc ++ [32]) ++ wSELECT := by
   unfold addW
   rw [if_neg (by decide)]
   split
   · rfl
   · rw [List.append_assoc]; rfl
  rw [e1, List.append_assoc]
  cases s.dis <;> cases s.star <;> rfl
 have n0 : a0 ≠ [] := by
  rw [e0]; intro e
  have := (List.append_eq_nil_iff.1 (List.append_eq_nil_iff.1 e).2).1
  exact absurd this (by decide)
 obtain ⟨a1, ha1⟩ : ∃ a1, a1 = rowP a0 [] (s.items.map itemP) := ⟨_, rfl⟩
 have e1 : a1 = a0 ++ (if s.items = [] then [] else 32 :: joinC (s.items.map itemP)) := by
  rw [ha1]
  unfold rowP
  by_cases hi : s.items = []
  · rw [hi, List.map_nil, if_pos rfl, if_pos rfl, List.append_nil]
  · have hm : s.items.map itemP ≠ [] := by simpa using hi
    rw [if_neg hm, if_neg hi, wordsP_sp n0]
    have hj : joinC (s.items.map itemP) ≠ [] := joinC_ne hm (fun x hx => by
     obtain ⟨y, hy, rfl⟩ := List.mem_map.1 hx
     exact itemP_ne (List.all_eq_true.1 hit y hy))
    rw [show spL [[], joinC (s.items.map itemP)] = [] ++ ((if joinC (s.items.map itemP) = [] then [] else 32 :: joinC (s.items.map itemP)) ++ []) from rfl, if_neg hj, List.append_nil, List.nil_append]
 have n1 : a1 ≠ [] := by rw [ha1]; exact rowP_ne n0
 obtain ⟨a2, ha2⟩ : ∃ a2, a2 = wordsP a1 [wFROM, s.ftb.data.toList, s.fas.data.toList] := ⟨_, rfl⟩
 have e2 : a2 = a1 ++ ((32 :: wFROM) ++ (32 :: srcR s.ftb.data.toList s.fas.data.toList)) := by
  rw [ha2, wordsP_sp n1, show spL [wFROM, s.ftb.data.toList, s.fas.data.toList] = (if wFROM = [] then [] else 32 :: wFROM) ++ spL [s.ftb.data.toList, s.fas.data.toList] from rfl, src_sp hfn]
  rfl
 have n2 : a2 ≠ [] := by rw [ha2]; exact wordsP_ne n1 _
 obtain ⟨e3, n3⟩ := joins_sp s.joins n2 hjo
 have e4 := onP_sp (w := wWHERE) (t := s.wh) n3 (by decide) (none_pr hwh)
 have n4 := onP_ne (w := wWHERE) (t := s.wh) n3
 have hg : ∀ x ∈ s.grp.map nmP, x ≠ [] := fun x hx => by
  obtain ⟨y, hy, rfl⟩ := List.mem_map.1 hx
  exact nmP_ne (List.all_eq_true.1 hgr y hy)
 have e5 := rowP_sp (w := wGROUPBY) (l := s.grp.map nmP) n4 (by decide) hg
 have n5 := rowP_ne (w := wGROUPBY) (l := s.grp.map nmP) n4
 have e6 := onP_sp (w := wHAVING) (t := s.hv) n5 (by decide) (none_pr hhv)
 have hS : selP acc s = onP (rowP (onP (s.joins.foldl joinP a2) wWHERE s.wh) wGROUPBY (s.grp.map nmP)) wHAVING s.hv := by rw [ha2, ha1, ha0]; rfl
 refine ⟨?_, by rw [hS]; exact onP_ne n5⟩
 rw [hS, e6, e5, e4, e3, e2, e1, e0]
 unfold selR
 have hmid : ((if s.dis then 32 :: wDISTINCT else []) ++ (if s.star then [32, 42] else [])) ++ (if s.items = [] then [] else 32 :: joinC (s.items.map itemP)) = 32 :: ((if s.dis then wDISTINCT ++ [32] else []) ++ ((if s.star then [42] else []) ++ joinC (s.items.map itemP))) := by
  by_cases hi : s.items = []
  · rw [hi, List.length_nil] at hst
    have : s.star = true := by rw [hst]; rfl
    rw [this, hi]
    cases s.dis <;> rfl
  · have : s.star = false := by
     rw [hst]; simp only [decide_eq_false_iff_not]
     exact fun e => hi (List.eq_nil_of_length_eq_zero e)
    rw [this, if_neg hi]
    cases s.dis
    · rfl
    · show (32 :: wDISTINCT ++ []) ++ 32 :: joinC (s.items.map itemP) = 32 :: ((wDISTINCT ++ [32]) ++ ([] ++ joinC (s.items.map itemP)))
      rw [List.append_nil, List.nil_append, List.append_assoc]; rfl
 simp only [List.append_assoc] at hmid ⊢
 rw [show ∀ X : List UInt8, (if s.dis then 32 :: wDISTINCT else []) ++ ((if s.star then [32, 42] else []) ++ ((if s.items = [] then [] else 32 :: joinC (s.items.map itemP)) ++ X)) = ((if s.dis then 32 :: wDISTINCT else []) ++ ((if s.star then [32, 42] else []) ++ (if s.items = [] then [] else 32 :: joinC (s.items.map itemP)))) ++ X from fun X => by simp only [List.append_assoc]]
 rw [hmid]
 simp only [List.append_assoc, List.cons_append]
theorem selsP_sp : ∀ (l : List QS) {acc : List UInt8} (i : Nat), 0 < i → acc ≠ [] → l.all selB = true → selsP i acc l = acc ++ selsR l ∧ selsP i acc l ≠ []
 | [], acc, i, _, h, _ => ⟨by unfold selsP selsR; rw [List.append_nil], h⟩
 | s :: l, acc, i, hi, h, hl => by
  rw [List.all_cons, Bool.and_eq_true] at hl
  unfold selsP
  have e0 : wordsP acc [whenP (decide (0 < i)) wUNIONALL] = acc ++ (32 :: wUNIONALL) := by
   rw [decide_eq_true hi]
   exact addW_ne (s := wUNIONALL) h (by decide)
  have n0 : acc ++ (32 :: wUNIONALL) ≠ [] := by simp
  obtain ⟨e1, n1⟩ := selP_sp (acc := acc ++ (32 :: wUNIONALL)) hl.1
  rw [if_neg n0] at e1
  obtain ⟨e2, n2⟩ := selsP_sp l (i + 1) (Nat.succ_pos _) n1 hl.2
  rw [e0]
  refine ⟨?_, n2⟩
  rw [e2, e1, selsR]
  simp only [List.append_assoc, List.cons_append, List.nil_append]
theorem qryP_pr {q : QC} (h : qryB q = true) : qryP q = prQ q := by
 unfold qryB at h
 simp only [Bool.and_eq_true, decide_eq_true_eq] at h
 obtain ⟨⟨h0, _⟩, hk, hs⟩ := h
 match hq : q.sels, h0 with
 | s :: l, _ =>
  rw [hq, List.all_cons, Bool.and_eq_true] at hs
  obtain ⟨e1, n1⟩ := selP_sp (acc := []) hs.1
  rw [if_pos rfl, List.nil_append] at e1
  obtain ⟨e2, n2⟩ := selsP_sp l 1 (by decide) n1 hs.2
  have e0 : selsP 0 [] (s :: l) = selR s ++ selsR l := by
   show selsP 1 (selP (wordsP [] [whenP (decide (0 < 0)) wUNIONALL]) s) l = _
   rw [show wordsP [] [whenP (decide (0 < 0)) wUNIONALL] = [] from rfl, e2, e1]
  have n0 : selsP 0 [] (s :: l) ≠ [] := n2
  have hx : ∀ x ∈ q.keys.map keyP, x ≠ [] := fun x hx => by
   obtain ⟨y, _, rfl⟩ := List.mem_map.1 hx
   exact keyP_ne
  have e3 := rowP_sp (w := wORDERBY) (l := q.keys.map keyP) n0 (by decide) hx
  have n3 := rowP_ne (w := wORDERBY) (l := q.keys.map keyP) n0
  unfold qryP prQ
  rw [hq]
  simp only
  split
  · rw [wordsP_sp n3, e3, e0]
    rw [show spL [wLIMIT, Lib.decDigits q.lim.toNat] = (32 :: wLIMIT) ++ ((if Lib.decDigits q.lim.toNat = [] then [] else 32 :: Lib.decDigits q.lim.toNat) ++ []) from rfl, if_neg (dec_ne _), List.append_nil]
    simp only [List.append_assoc, List.cons_append]
  · rw [e3, e0, List.append_nil, List.append_assoc]
end Go.Proofs.YtoaggmldekejoaaGreatDoor
/- The reference: which queries may be. Conditions: the query reads so, and is no longer than memory is. -/
namespace Go.Proofs.YtoaggmldekejoaaGreatDoor
open Go.RowKit
theorem empQ (s : ByteArray) : (s.toList == (⟨#[]⟩ : ByteArray).toList) = decide (s.data.toList = []) := by
 rw [toList_data, toList_data]
 cases s.data.toList with
 | nil => rfl
 | cons b l => rfl
theorem qry_no1 {q : QC} (h : q.sels.all selB = false) : qryB q = false := by unfold qryB; rw [h]; simp
theorem qry_no2 {q : QC} (h : q.keys.all keyB = false) : qryB q = false := by unfold qryB; rw [h]; simp
theorem qry_shape {q : QC} {n m : Nat} (h : qryB q = true) (h1 : q.sels.length = n) (h2 : q.keys.length = m) : 1 ≤ n ∧ n ≤ 3 ∧ m ≤ 3 ∧ -1 ≤ q.lim ∧ q.lim ≤ 2147483647 := by
 unfold qryB at h
 simp only [Bool.and_eq_true, Bool.or_eq_true, decide_eq_true_eq] at h
 obtain ⟨⟨a, b, c, d⟩, _⟩ := h
 omega
theorem key_ref (k : QK) : keyB k = !(((!(mayB k.nm) || decide (k.num < 0)) || decide (2147483647 < k.num)) || (!(decide (k.nm.data.toList = [])) && !decide (k.num = 0))) := by
 unfold keyB mayB
 by_cases h0 : k.nm.data.toList = []
 · have hn : nameB k.nm = false := by
    cases h : nameB k.nm
    · rfl
    · exact absurd h0 (name_ne h)
   rw [decide_eq_true h0, hn]
   by_cases h1 : k.num < 0
   · have : ¬ 0 ≤ k.num := by omega
     simp [h1, this]
   · have : 0 ≤ k.num := by omega
     by_cases h2 : 2147483647 < k.num
     · have h3 : ¬ k.num ≤ 2147483647 := by omega
       simp [h1, h2, this, h3]
     · have h3 : k.num ≤ 2147483647 := by omega
       simp [h1, h2, this, h3]
 · rw [decide_eq_false h0]
   cases nameB k.nm
   · simp
   · by_cases h1 : k.num = 0
     · simp [h1]
     · simp [h1]
set_option maxRecDepth 100000 in
set_option maxHeartbeats 16000000 in
theorem rRight_any (F : Nat → Prop) (q : QC) (A : Option Addr) (n c : Nat) (B : Option Addr) (m d : Nat) (w : World) (hS : LQS.rd w F A n q.sels) (hK : LQK.rd w F B m q.keys) (hp : QCp q) (hn : n ≤ 1000) (hm : m ≤ 1000) (hL : ∀ s ∈ q.sels, s.items.length ≤ 1000 ∧ s.joins.length ≤ 1000 ∧ s.grp.length ≤ 1000) :
 Calls Tryz.prog 17 #[q.val A n c B m d] w fun e w' => e = .returned (.bool (qryB q)) ∧ Below w.heap.size w w' := by
 have HQ1 := Lib.hid (bl_al (Below.refl w.heap.size w) (.cells #[.slice A n c, .slice B m d, .int .i64 q.lim] 43))
 have HB1 := Lib.hid (Blk.new w 43 #[.slice A n c, .slice B m d, .int .i64 q.lim])
 have HS1 := Lib.hid (Lay.rd_below hS HQ1.out)
 have HK1 := Lib.hid (Lay.rd_below hK HQ1.out)
 have HP := Lib.hid hp
 have HL := Lib.hid hL
 have HLN := Lib.hid (And.intro (Lay.rd_len hS) (Lay.rd_len hK))
 obtain ⟨rr, hrr⟩ : ∃ rr, rr = qryB q := ⟨_, rfl⟩
 rw [← hrr]
 have HRR := Lib.hid hrr
 clear hS hK hp hrr hL
 go_enter Tryz.func17, Tryz.ntmps17
 go_upto_region 1 with fail
 generalize w.alloc (.cells #[.slice A n c, .slice B m d, .int .i64 q.lim] 43) = w1 at *
 refine wp_region_ps0 .text (S := fun _ _ w' => Below w1.heap.size w1 w') (by kernel_rfl) ?spswg1 ?ppswg1
 case spswg1 =>
  exact (Below.refl w1.heap.size w1)
 refine Pz 0 (some 7) (.pointer (some ⟨w.heap.size, 0, none⟩)) rfl rfl (by exact StepS.pure nP rfl fun _ => rfl) ?_
 try simp only [Act.put, sA, sZ, sS]
 refine Pz 1 (some 8) (.slice A n c) rfl rfl ?ywg1_3 ?rwg1_3
 case ywg1_3 =>
  refine StepS.read [] (by kernel_rfl) nP (by rfl) (fun L9 m9 w9 hSh hAt hDn hS => ?_)
  have hT : Below _ _ w9 := hS
  have x0 : w9.cell? ⟨w.heap.size, 0, none⟩ = some (.slice A n c) := (HB1.out.ca hT).cell 0
  clear hT hS
  go_simp
  try rfl
 try simp only [Act.put, sA, sZ, sS]
 refine Pz 2 (some 9) (.int .i64 ((n : Int))) rfl rfl (by exact StepS.pure nP rfl fun _ => by first | rfl | (go_simp; done) | (go_simp; rfl)) ?_
 try simp only [Act.put, sA, sZ, sS]
 refine Pz 3 (some 10) (.bool (decide ((n : Int) < 1))) rfl rfl (by exact StepS.pure nP rfl fun _ => rfl) ?_
 try simp only [Act.put, sA, sZ, sS]
 obtain ⟨ba1_4, hb9⟩ : ∃ zb : Bool, zb = (decide ((n : Int) < 1)) := ⟨_, rfl⟩
 have HEba1_4 := Lib.hid hb9
 clear hb9
 refine Pz 4 (some 11) (.bool (ba1_4)) rfl rfl ?ywg1_6 ?rwg1_6
 case ywg1_6 =>
  refine StepS.pure nP (by rfl) (fun w9 => ?_)
  have e9 : (decide ((n : Int) < 1)) = ba1_4 := by rw [HEba1_4.out]
  rw [← e9]
  clear e9
  first | rfl | (go_simp; done) | (go_simp; rfl)
 try simp only [Act.put, sA, sZ, sS]
 refine Pz 5 (some 12) (cond ba1_4 (undef) (.pointer (some ⟨w.heap.size, 0, none⟩))) rfl rfl (by cases ba1_4; (exact StepS.pure nP rfl fun _ => rfl); exact StepS.skip nP rfl) ?_
 try simp only [Act.put, sA, sZ, sS]
 refine Pz 6 (some 13) (cond ba1_4 (undef) (.slice A n c)) rfl rfl ?ywg1_8 ?rwg1_8
 case ywg1_8 =>
  cases ba1_4
  · skip
    refine StepS.read [] (by kernel_rfl) nP (by rfl) (fun L9 m9 w9 hSh hAt hDn hS => ?_)
    have hT : Below _ _ w9 := hS
    have x0 : w9.cell? ⟨w.heap.size, 0, none⟩ = some (.slice A n c) := (HB1.out.ca hT).cell 0
    clear hT hS
    go_simp
    try rfl
  · exact StepS.skip nP (by rfl)
 try simp only [Act.put, sA, sZ, sS]
 refine Pz 7 (some 14) (cond ba1_4 (undef) (.int .i64 ((n : Int)))) rfl rfl (by cases ba1_4; (exact StepS.pure nP rfl fun _ => by first | rfl | (go_simp; done) | (go_simp; rfl)); exact StepS.skip nP rfl) ?_
 try simp only [Act.put, sA, sZ, sS]
 refine Pz 8 (some 15) (cond ba1_4 (undef) (.bool (decide ((3 : Int) < (n : Int))))) rfl rfl (by cases ba1_4; (exact StepS.pure nP rfl fun _ => rfl); exact StepS.skip nP rfl) ?_
 try simp only [Act.put, sA, sZ, sS]
 refine Pz 9 (some 16) (.bool (ba1_4 || (decide ((3 : Int) < (n : Int))))) rfl rfl ?ywg1_11 ?rwg1_11
 case ywg1_11 =>
  refine StepS.pure nP (by rfl) (fun w9 => ?_)
  cases ba1_4 <;> (first | rfl | (go_simp; done) | (go_simp; rfl))
 try simp only [Act.put, sA, sZ, sS]
 obtain ⟨ba1_10, hb9⟩ : ∃ zb : Bool, zb = ((decide ((n : Int) < 1)) || (decide ((3 : Int) < (n : Int)))) := ⟨_, rfl⟩
 have HEba1_10 := Lib.hid hb9
 clear hb9
 refine Pz 10 (some 17) (.bool (ba1_10)) rfl rfl ?ywg1_12 ?rwg1_12
 case ywg1_12 =>
  refine StepS.pure nP (by rfl) (fun w9 => ?_)
  have e9 : (ba1_4 || (decide ((3 : Int) < (n : Int)))) = ba1_10 := by rw [HEba1_10.out, HEba1_4.out]
  rw [← e9]
  clear e9
  first | rfl | (go_simp; done) | (go_simp; rfl)
 try simp only [Act.put, sA, sZ, sS]
 refine Pz 11 (some 18) (cond ba1_10 (undef) (.pointer (some ⟨w.heap.size, 1, none⟩))) rfl rfl (by cases ba1_10; (exact StepS.pure nP rfl fun _ => rfl); exact StepS.skip nP rfl) ?_
 try simp only [Act.put, sA, sZ, sS]
 refine Pz 12 (some 19) (cond ba1_10 (undef) (.slice B m d)) rfl rfl ?ywg1_14 ?rwg1_14
 case ywg1_14 =>
  cases ba1_10
  · skip
    refine StepS.read [] (by kernel_rfl) nP (by rfl) (fun L9 m9 w9 hSh hAt hDn hS => ?_)
    have hT : Below _ _ w9 := hS
    have x0 : w9.cell? ⟨w.heap.size, 1, none⟩ = some (.slice B m d) := (HB1.out.ca hT).cell 1
    clear hT hS
    go_simp
    try rfl
  · exact StepS.skip nP (by rfl)
 try simp only [Act.put, sA, sZ, sS]
 refine Pz 13 (some 20) (cond ba1_10 (undef) (.int .i64 ((m : Int)))) rfl rfl (by cases ba1_10; (exact StepS.pure nP rfl fun _ => by first | rfl | (go_simp; done) | (go_simp; rfl)); exact StepS.skip nP rfl) ?_
 try simp only [Act.put, sA, sZ, sS]
 refine Pz 14 (some 21) (cond ba1_10 (undef) (.bool (decide ((3 : Int) < (m : Int))))) rfl rfl (by cases ba1_10; (exact StepS.pure nP rfl fun _ => rfl); exact StepS.skip nP rfl) ?_
 try simp only [Act.put, sA, sZ, sS]
 refine Pz 15 (some 22) (.bool (ba1_10 || (decide ((3 : Int) < (m : Int))))) rfl rfl ?ywg1_17 ?rwg1_17
 case ywg1_17 =>
  refine StepS.pure nP (by rfl) (fun w9 => ?_)
  cases ba1_10 <;> (first | rfl | (go_simp; done) | (go_simp; rfl))
 try simp only [Act.put, sA, sZ, sS]
 obtain ⟨ba1_16, hb9⟩ : ∃ zb : Bool, zb = (((decide ((n : Int) < 1)) || (decide ((3 : Int) < (n : Int)))) || (decide ((3 : Int) < (m : Int)))) := ⟨_, rfl⟩
 have HEba1_16 := Lib.hid hb9
 clear hb9
 refine Pz 16 (some 23) (.bool (ba1_16)) rfl rfl ?ywg1_18 ?rwg1_18
 case ywg1_18 =>
  refine StepS.pure nP (by rfl) (fun w9 => ?_)
  have e9 : (ba1_10 || (decide ((3 : Int) < (m : Int)))) = ba1_16 := by rw [HEba1_16.out, HEba1_10.out]
  rw [← e9]
  clear e9
  first | rfl | (go_simp; done) | (go_simp; rfl)
 try simp only [Act.put, sA, sZ, sS]
 refine Pz 17 (some 24) (cond ba1_16 (undef) (.pointer (some ⟨w.heap.size, 2, none⟩))) rfl rfl (by cases ba1_16; (exact StepS.pure nP rfl fun _ => rfl); exact StepS.skip nP rfl) ?_
 try simp only [Act.put, sA, sZ, sS]
 refine Pz 18 (some 25) (cond ba1_16 (undef) (.int .i64 (q.lim))) rfl rfl ?ywg1_20 ?rwg1_20
 case ywg1_20 =>
  cases ba1_16
  · skip
    refine StepS.read [] (by kernel_rfl) nP (by rfl) (fun L9 m9 w9 hSh hAt hDn hS => ?_)
    have hT : Below _ _ w9 := hS
    have x0 : w9.cell? ⟨w.heap.size, 2, none⟩ = some (.int .i64 (q.lim)) := (HB1.out.ca hT).cell 2
    clear hT hS
    go_simp
    try rfl
  · exact StepS.skip nP (by rfl)
 try simp only [Act.put, sA, sZ, sS]
 refine Pz 19 (some 26) (cond ba1_16 (undef) (.bool (decide (q.lim < (-1 : Int))))) rfl rfl (by cases ba1_16; (exact StepS.pure nP rfl fun _ => rfl); exact StepS.skip nP rfl) ?_
 try simp only [Act.put, sA, sZ, sS]
 refine Pz 20 (some 27) (.bool (ba1_16 || (decide (q.lim < (-1 : Int))))) rfl rfl ?ywg1_22 ?rwg1_22
 case ywg1_22 =>
  refine StepS.pure nP (by rfl) (fun w9 => ?_)
  cases ba1_16 <;> (first | rfl | (go_simp; done) | (go_simp; rfl))
 try simp only [Act.put, sA, sZ, sS]
 obtain ⟨ba1_21, hb9⟩ : ∃ zb : Bool, zb = ((((decide ((n : Int) < 1)) || (decide ((3 : Int) < (n : Int)))) || (decide ((3 : Int) < (m : Int)))) || (decide (q.lim < (-1 : Int)))) := ⟨_, rfl⟩
 have HEba1_21 := Lib.hid hb9
 clear hb9
 refine Pz 21 (some 28) (.bool (ba1_21)) rfl rfl ?ywg1_23 ?rwg1_23
 case ywg1_23 =>
  refine StepS.pure nP (by rfl) (fun w9 => ?_)
  have e9 : (ba1_16 || (decide (q.lim < (-1 : Int)))) = ba1_21 := by rw [HEba1_21.out, HEba1_16.out]
  rw [← e9]
  clear e9
  first | rfl | (go_simp; done) | (go_simp; rfl)
 try simp only [Act.put, sA, sZ, sS]
 refine Pz 22 (some 29) (cond ba1_21 (undef) (.pointer (some ⟨w.heap.size, 2, none⟩))) rfl rfl (by cases ba1_21; (exact StepS.pure nP rfl fun _ => rfl); exact StepS.skip nP rfl) ?_
 try simp only [Act.put, sA, sZ, sS]
 refine Pz 23 (some 30) (cond ba1_21 (undef) (.int .i64 (q.lim))) rfl rfl ?ywg1_25 ?rwg1_25
 case ywg1_25 =>
  cases ba1_21
  · skip
    refine StepS.read [] (by kernel_rfl) nP (by rfl) (fun L9 m9 w9 hSh hAt hDn hS => ?_)
    have hT : Below _ _ w9 := hS
    have x0 : w9.cell? ⟨w.heap.size, 2, none⟩ = some (.int .i64 (q.lim)) := (HB1.out.ca hT).cell 2
    clear hT hS
    go_simp
    try rfl
  · exact StepS.skip nP (by rfl)
 try simp only [Act.put, sA, sZ, sS]
 refine Pz 24 (some 31) (cond ba1_21 (undef) (.bool (decide ((2147483647 : Int) < q.lim)))) rfl rfl (by cases ba1_21; (exact StepS.pure nP rfl fun _ => rfl); exact StepS.skip nP rfl) ?_
 try simp only [Act.put, sA, sZ, sS]
 obtain ⟨bS, hb9⟩ : ∃ zb : Bool, zb = (((((decide ((n : Int) < 1)) || (decide ((3 : Int) < (n : Int)))) || (decide ((3 : Int) < (m : Int)))) || (decide (q.lim < (-1 : Int)))) || (decide ((2147483647 : Int) < q.lim))) := ⟨_, rfl⟩
 have HEbS := Lib.hid hb9
 clear hb9
 refine Pz 25 (some 32) (.bool (bS)) rfl rfl ?ywg1_27 ?rwg1_27
 case ywg1_27 =>
  refine StepS.pure nP (by rfl) (fun w9 => ?_)
  have e9 : (ba1_21 || (decide ((2147483647 : Int) < q.lim))) = bS := by rw [HEbS.out, HEba1_21.out]
  rw [← e9]
  clear e9
  cases ba1_21 <;> (first | rfl | (go_simp; done) | (go_simp; rfl))
 try simp only [Act.put, sA, sZ, sS]
 refine Ps.done (by kernel_rfl) (fun wg1 hS => ?_) _
 try generalize (cond ba1_21 (undef) (.bool (decide ((2147483647 : Int) < q.lim))) : Value) = zz28
 try generalize (cond ba1_10 (undef) (.pointer (some ⟨w.heap.size, 1, none⟩)) : Value) = zz29
 try generalize (cond ba1_21 (undef) (.pointer (some ⟨w.heap.size, 2, none⟩)) : Value) = zz30
 try generalize (cond ba1_10 (undef) (.bool (decide ((3 : Int) < (m : Int)))) : Value) = zz31
 try generalize (cond ba1_16 (undef) (.pointer (some ⟨w.heap.size, 2, none⟩)) : Value) = zz32
 try generalize (cond ba1_4 (undef) (.bool (decide ((3 : Int) < (n : Int)))) : Value) = zz33
 try generalize (cond ba1_4 (undef) (.pointer (some ⟨w.heap.size, 0, none⟩)) : Value) = zz34
 try generalize (cond ba1_16 (undef) (.bool (decide (q.lim < (-1 : Int)))) : Value) = zz35
 try generalize (.bool (ba1_10 || (decide ((3 : Int) < (m : Int)))) : Value) = zz36
 try generalize (.bool (ba1_4 || (decide ((3 : Int) < (n : Int)))) : Value) = zz37
 try generalize (.bool (ba1_16 || (decide (q.lim < (-1 : Int)))) : Value) = zz38
 try generalize (cond ba1_10 (undef) (.int .i64 ((m : Int))) : Value) = zz39
 try generalize (cond ba1_4 (undef) (.int .i64 ((n : Int))) : Value) = zz40
 try generalize (cond ba1_21 (undef) (.int .i64 (q.lim)) : Value) = zz41
 try generalize (cond ba1_16 (undef) (.int .i64 (q.lim)) : Value) = zz42
 try generalize (cond ba1_10 (undef) (.slice B m d) : Value) = zz43
 try generalize (cond ba1_4 (undef) (.slice A n c) : Value) = zz44
 have HQ2 := Lib.hid (show Below w1.heap.size w1 wg1 from hS)
 clear hS
 obtain ⟨w2, rfl⟩ : ∃ x, x = wg1 := ⟨_, rfl⟩
 cases bS
 case true =>
  have HRF := Lib.hid (show rr = false from by
   rw [HRR.out]
   cases hB : qryB q
   · rfl
   · exfalso
     obtain ⟨h1, h2, h3, h4, h5⟩ := qry_shape hB HLN.out.1 HLN.out.2
     have h9 := HEbS.out
     simp at h9
     omega)
  go_wp2_with fail
  go_ret
  exact ⟨ret_bool HRF.out.symm, bl_ca HQ1.out HQ2.out⟩
 case false =>
 have HB2 := Lib.hid (HB1.out.ca HQ2.out)
 have HS2 := Lib.hid (Lay.rd_below HS1.out HQ2.out)
 have HK2 := Lib.hid (Lay.rd_below HK1.out HQ2.out)
 have HQ02 := Lib.hid (bl_ca HQ1.out HQ2.out)
 clear HB1 HS1 HK1 HQ2 HQ1
 have yC := HB2.out.cell 0
 go_upto_block 0 with fail
 clear yC
 go_cut [] (fun wx => Hid (Below w2.heap.size w2 wx) ∧ Hid (q.sels.all selB = true))
 case first =>
  go_wp2_with fail
  go_loopg [36] n (fun gk a wr => ∃ i : Nat, i + gk = n ∧ a = .int .i64 i ∧ Hid (Below w2.heap.size w2 wr) ∧ Hid ((q.sels.take i).all selB = true))
  case atStart => exact ⟨0, by omega, rfl, Lib.hid (Below.refl _ _), Lib.hid rfl⟩
  case round =>
   obtain ⟨i, hig, rfl, HQr, HAr⟩ := hrel
   by_cases hlt : i < n
   · have hi1 : (i : Int) < (n : Int) := by omega
     obtain ⟨ad, z, I0, i0, j0, J0, u0, v0, W0, a0, b0, H0, e0, f0, G0, p0, q0, rfl, hax, sp⟩ := LQS_at (Lay.rd_below HS2.out HQr.out) hlt
     have x0 := sp.z0
     have x1 := sp.z1
     have x2 := sp.z2
     have x3 := sp.z3
     have x4 := sp.z4
     have x5 := sp.z5
     have x6 := sp.z6
     have x7 := sp.z7
     have x8 := sp.z8
     have HSPz := Lib.hid sp
     have HAX := Lib.hid hax
     have HSZ := Lib.hid (show i0 ≤ 1000 ∧ u0 ≤ 1000 ∧ p0 ≤ 1000 from by obtain ⟨h1, h2, h3⟩ := HL.out z (List.mem_of_getElem? hax); have h4 := Lay.rd_len sp.r0; have h5 := Lay.rd_len sp.r1; have h6 := Lay.rd_len sp.r4; omega)
     have HZM := Lib.hid (List.mem_of_getElem? hax)
     have HQz := Lib.hid (bl_al (Below.refl wr.heap.size wr) (.cells (z.cells I0 i0 j0 J0 u0 v0 W0 a0 b0 H0 e0 f0 G0 p0 q0) 76))
     have HZ := Lib.hid (Blk.new wr 76 (z.cells I0 i0 j0 J0 u0 v0 W0 a0 b0 H0 e0 f0 G0 p0 q0))
     clear sp hax
     go_upto_region 6 with fail
     clear x0 x1 x2 x3 x4 x5 x6 x7 x8
     generalize wr.alloc (.cells (z.cells I0 i0 j0 J0 u0 v0 W0 a0 b0 H0 e0 f0 G0 p0 q0) 76) = wz at *
     refine wp_region_ps0 .text (S := fun _ _ w' => Below wz.heap.size wz w') (by kernel_rfl) ?spswg45 ?ppswg45
     case spswg45 =>
      exact (Below.refl wz.heap.size wz)
     refine Pz 0 (some 40) (.agg #[.bool (z.dis), .bool (z.star), .slice I0 i0 j0, .string z.ftb, .string z.fas, .slice J0 u0 v0, .slice W0 a0 b0, .slice H0 e0 f0, .slice G0 p0 q0]) rfl rfl ?ywg45_46 ?rwg45_46
     case ywg45_46 =>
      refine StepS.read [] (by kernel_rfl) nP (by rfl) (fun L9 m9 w9 hSh hAt hDn hS => ?_)
      have hT : Below _ _ w9 := hS
      have x0 : w9.cell? ⟨wr.heap.size, 0, none⟩ = some (.bool (z.dis)) := (HZ.out.ca hT).cell 0
      have x1 : w9.cell? ⟨wr.heap.size, 1, none⟩ = some (.bool (z.star)) := (HZ.out.ca hT).cell 1
      have x2 : w9.cell? ⟨wr.heap.size, 2, none⟩ = some (.slice I0 i0 j0) := (HZ.out.ca hT).cell 2
      have x3 : w9.cell? ⟨wr.heap.size, 3, none⟩ = some (.string z.ftb) := (HZ.out.ca hT).cell 3
      have x4 : w9.cell? ⟨wr.heap.size, 4, none⟩ = some (.string z.fas) := (HZ.out.ca hT).cell 4
      have x5 : w9.cell? ⟨wr.heap.size, 5, none⟩ = some (.slice J0 u0 v0) := (HZ.out.ca hT).cell 5
      have x6 : w9.cell? ⟨wr.heap.size, 6, none⟩ = some (.slice W0 a0 b0) := (HZ.out.ca hT).cell 6
      have x7 : w9.cell? ⟨wr.heap.size, 7, none⟩ = some (.slice H0 e0 f0) := (HZ.out.ca hT).cell 7
      have x8 : w9.cell? ⟨wr.heap.size, 8, none⟩ = some (.slice G0 p0 q0) := (HZ.out.ca hT).cell 8
      clear hT hS
      go_simp
      try rfl
     try simp only [Act.put, sA, sZ, sS]
     refine Pz 1 (some 41) (.bool (selB z)) rfl rfl ?ywg45_47 ?rwg45_47
     case ywg45_47 =>
      refine StepS.call ?fwg45_47 ?awg45_47 [] (by kernel_rfl) (by rfl) (fun w9 => ?hwg45_47) (fun L9 m9 w9 hSh hAt hDn hS => ?cwg45_47)
      case hwg45_47 => go_simp; refine ⟨?_, ?_⟩ <;> rfl
      case cwg45_47 =>
       have hT : Below _ _ w9 := hS
       refine (rselects_any F z I0 i0 j0 J0 u0 v0 W0 a0 b0 H0 e0 f0 G0 p0 q0 w9 (Lay.rd_below (Lay.rd_below HSPz.out.r0 HQz.out) hT) (Lay.rd_below (Lay.rd_below HSPz.out.r1 HQz.out) hT) (Lay.rd_below (Lay.rd_below HSPz.out.r2 HQz.out) hT) (Lay.rd_below (Lay.rd_below HSPz.out.r3 HQz.out) hT) (Lay.rd_below (Lay.rd_below HSPz.out.r4 HQz.out) hT) (HP.out.1 z HZM.out) HSZ.out).mono ?_
       rintro e w8 ⟨rfl, q8⟩
       exact ⟨rfl, bl_ca hT q8⟩
     try simp only [Act.put, sA, sZ, sS]
     obtain ⟨bF, hb9⟩ : ∃ zb : Bool, zb = (!(selB z)) := ⟨_, rfl⟩
     have HEbF := Lib.hid hb9
     clear hb9
     refine Pz 2 (some 42) (.bool (bF)) rfl rfl ?ywg45_48 ?rwg45_48
     case ywg45_48 =>
      refine StepS.pure nP (by rfl) (fun w9 => ?_)
      have e9 : (!(selB z)) = bF := by rw [HEbF.out]
      rw [← e9]
      clear e9
      first | rfl | (go_simp; done) | (go_simp; rfl)
     try simp only [Act.put, sA, sZ, sS]
     refine Ps.done (by kernel_rfl) (fun wg45 hS => ?_) _
     have HQf := Lib.hid (show Below wz.heap.size wz wg45 from hS)
     clear hS
     obtain ⟨wf, rfl⟩ : ∃ x, x = wg45 := ⟨_, rfl⟩
     cases bF
     case true =>
      have HZF := Lib.hid (show selB z = false from by have h9 := HEbF.out; revert h9; cases selB z <;> decide)
      have HRF := Lib.hid (show rr = false from by rw [HRR.out]; exact qry_no1 (all_false HAX.out HZF.out))
      go_wp2_with fail
      go_ret
      exact ⟨ret_bool HRF.out.symm, bl_ca HQ02.out (bl_ca HQr.out (bl_ca HQz.out HQf.out))⟩
     case false =>
      have HZT := Lib.hid (show selB z = true from by have h9 := HEbF.out; revert h9; cases selB z <;> decide)
      go_wp2_with fail
      go_roundg (gk - 1)
      · exact ⟨i + 1, by omega, by go_num, Lib.hid (bl_ca HQr.out (bl_ca HQz.out HQf.out)), Lib.hid (all_stepQ HAX.out HAr.out HZT.out)⟩
      · omega
   · have hi1 : ¬ ((i : Int) < (n : Int)) := by omega
     have hie : i = n := by omega
     have HAe := Lib.hid (show q.sels.all selB = true from by have h9 := HAr.out; rw [List.take_of_length_le (by have := Lay.rd_len HS2.out; omega)] at h9; exact h9)
     clear hie HAr
     go_wp2_with fail
     go_meet
     exact ⟨HQr, HAe⟩
 case rest =>
 obtain ⟨HQ3, HA3⟩ := hcut
 obtain ⟨w3, rfl⟩ : ∃ x, x = wc := ⟨_, rfl⟩
 have HB3 := Lib.hid (HB2.out.ca HQ3.out)
 have HK3 := Lib.hid (Lay.rd_below HK2.out HQ3.out)
 have HQ03 := Lib.hid (bl_ca HQ02.out HQ3.out)
 have yC := HB3.out.cell 1
 go_upto_block 2 with fail
 clear yC
 go_cut [] (fun wx => Hid (Below w3.heap.size w3 wx) ∧ Hid (q.keys.all keyB = true))
 case first =>
  go_wp2_with fail
  go_loopg [47] m (fun gk a wr => ∃ i : Nat, i + gk = m ∧ a = .int .i64 i ∧ Hid (Below w3.heap.size w3 wr) ∧ Hid ((q.keys.take i).all keyB = true))
  case atStart => exact ⟨0, by omega, rfl, Lib.hid (Below.refl _ _), Lib.hid rfl⟩
  case round =>
   obtain ⟨i, hig, rfl, HQr, HAr⟩ := hrel
   by_cases hlt : i < m
   · have hi1 : (i : Int) < (m : Int) := by omega
     obtain ⟨ad, z, rfl, hax, sp⟩ := LQK_at (Lay.rd_below HK3.out HQr.out) hlt
     have x0 := sp.z0
     have x1 := sp.z1
     have x2 := sp.z2
     have HSPz := Lib.hid sp
     have HAX := Lib.hid hax
     have HZM := Lib.hid (List.mem_of_getElem? hax)
     have HQz := Lib.hid (bl_al (Below.refl wr.heap.size wr) (.cells #[.string z.nm, .int .i64 z.num, .bool z.desc] 79))
     have HZ := Lib.hid (Blk.new wr 79 #[.string z.nm, .int .i64 z.num, .bool z.desc])
     clear sp hax
     go_upto_region 12 with fail
     clear x0 x1 x2
     generalize wr.alloc (.cells #[.string z.nm, .int .i64 z.num, .bool z.desc] 79) = wz at *
     refine wp_region_ps0 .text (S := fun _ _ w' => Below wz.heap.size wz w') (by kernel_rfl) ?spswg49 ?ppswg49
     case spswg49 =>
      exact (Below.refl wz.heap.size wz)
     refine Pz 0 (some 51) (.pointer (some ⟨wr.heap.size, 0, none⟩)) rfl rfl (by exact StepS.pure nP rfl fun _ => rfl) ?_
     try simp only [Act.put, sA, sZ, sS]
     refine Pz 1 (some 52) (.string z.nm) rfl rfl ?ywg49_51 ?rwg49_51
     case ywg49_51 =>
      refine StepS.read [] (by kernel_rfl) nP (by rfl) (fun L9 m9 w9 hSh hAt hDn hS => ?_)
      have hT : Below _ _ w9 := hS
      have x0 : w9.cell? ⟨wr.heap.size, 0, none⟩ = some (.string z.nm) := (HZ.out.ca hT).cell 0
      clear hT hS
      go_simp
      try rfl
     try simp only [Act.put, sA, sZ, sS]
     refine Pz 2 (some 53) (.bool (mayB z.nm)) rfl rfl ?ywg49_52 ?rwg49_52
     case ywg49_52 =>
      refine StepS.call ?fwg49_52 ?awg49_52 [] (by kernel_rfl) (by rfl) (fun w9 => ?hwg49_52) (fun L9 m9 w9 hSh hAt hDn hS => ?cwg49_52)
      case hwg49_52 => go_simp; refine ⟨?_, ?_⟩ <;> rfl
      case cwg49_52 =>
       have hT : Below _ _ w9 := hS
       refine (rmaybe_any z.nm w9).mono ?_
       rintro e w8 ⟨rfl, q8⟩
       exact ⟨rfl, bl_ca hT q8⟩
     try simp only [Act.put, sA, sZ, sS]
     refine Pz 3 (some 54) (.bool (!(mayB z.nm))) rfl rfl (by exact StepS.pure nP rfl fun _ => rfl) ?_
     try simp only [Act.put, sA, sZ, sS]
     obtain ⟨bq1212_4, hb9⟩ : ∃ zb : Bool, zb = (!(mayB z.nm)) := ⟨_, rfl⟩
     have HEbq1212_4 := Lib.hid hb9
     clear hb9
     refine Pz 4 (some 55) (.bool (bq1212_4)) rfl rfl ?ywg49_54 ?rwg49_54
     case ywg49_54 =>
      refine StepS.pure nP (by rfl) (fun w9 => ?_)
      have e9 : (!(mayB z.nm)) = bq1212_4 := by rw [HEbq1212_4.out]
      rw [← e9]
      clear e9
      first | rfl | (go_simp; done) | (go_simp; rfl)
     try simp only [Act.put, sA, sZ, sS]
     refine Pz 5 (some 56) (cond bq1212_4 (undef) (.pointer (some ⟨wr.heap.size, 1, none⟩))) rfl rfl (by cases bq1212_4; (exact StepS.pure nP rfl fun _ => rfl); exact StepS.skip nP rfl) ?_
     try simp only [Act.put, sA, sZ, sS]
     refine Pz 6 (some 57) (cond bq1212_4 (undef) (.int .i64 (z.num))) rfl rfl ?ywg49_56 ?rwg49_56
     case ywg49_56 =>
      cases bq1212_4
      · skip
        refine StepS.read [] (by kernel_rfl) nP (by rfl) (fun L9 m9 w9 hSh hAt hDn hS => ?_)
        have hT : Below _ _ w9 := hS
        have x0 : w9.cell? ⟨wr.heap.size, 1, none⟩ = some (.int .i64 (z.num)) := (HZ.out.ca hT).cell 1
        clear hT hS
        go_simp
        try rfl
      · exact StepS.skip nP (by rfl)
     try simp only [Act.put, sA, sZ, sS]
     refine Pz 7 (some 58) (cond bq1212_4 (undef) (.bool (decide (z.num < 0)))) rfl rfl (by cases bq1212_4; (exact StepS.pure nP rfl fun _ => rfl); exact StepS.skip nP rfl) ?_
     try simp only [Act.put, sA, sZ, sS]
     refine Pz 8 (some 59) (.bool (bq1212_4 || (decide (z.num < 0)))) rfl rfl ?ywg49_58 ?rwg49_58
     case ywg49_58 =>
      refine StepS.pure nP (by rfl) (fun w9 => ?_)
      cases bq1212_4 <;> (first | rfl | (go_simp; done) | (go_simp; rfl))
     try simp only [Act.put, sA, sZ, sS]
     obtain ⟨bq1212_9, hb9⟩ : ∃ zb : Bool, zb = ((!(mayB z.nm)) || (decide (z.num < 0))) := ⟨_, rfl⟩
     have HEbq1212_9 := Lib.hid hb9
     clear hb9
     refine Pz 9 (some 60) (.bool (bq1212_9)) rfl rfl ?ywg49_59 ?rwg49_59
     case ywg49_59 =>
      refine StepS.pure nP (by rfl) (fun w9 => ?_)
      have e9 : (bq1212_4 || (decide (z.num < 0))) = bq1212_9 := by rw [HEbq1212_9.out, HEbq1212_4.out]
      rw [← e9]
      clear e9
      first | rfl | (go_simp; done) | (go_simp; rfl)
     try simp only [Act.put, sA, sZ, sS]
     refine Pz 10 (some 61) (cond bq1212_9 (undef) (.pointer (some ⟨wr.heap.size, 1, none⟩))) rfl rfl (by cases bq1212_9; (exact StepS.pure nP rfl fun _ => rfl); exact StepS.skip nP rfl) ?_
     try simp only [Act.put, sA, sZ, sS]
     refine Pz 11 (some 62) (cond bq1212_9 (undef) (.int .i64 (z.num))) rfl rfl ?ywg49_61 ?rwg49_61
     case ywg49_61 =>
      cases bq1212_9
      · skip
        refine StepS.read [] (by kernel_rfl) nP (by rfl) (fun L9 m9 w9 hSh hAt hDn hS => ?_)
        have hT : Below _ _ w9 := hS
        have x0 : w9.cell? ⟨wr.heap.size, 1, none⟩ = some (.int .i64 (z.num)) := (HZ.out.ca hT).cell 1
        clear hT hS
        go_simp
        try rfl
      · exact StepS.skip nP (by rfl)
     try simp only [Act.put, sA, sZ, sS]
     refine Pz 12 (some 63) (cond bq1212_9 (undef) (.bool (decide ((2147483647 : Int) < z.num)))) rfl rfl (by cases bq1212_9; (exact StepS.pure nP rfl fun _ => rfl); exact StepS.skip nP rfl) ?_
     try simp only [Act.put, sA, sZ, sS]
     refine Pz 13 (some 64) (.bool (bq1212_9 || (decide ((2147483647 : Int) < z.num)))) rfl rfl ?ywg49_63 ?rwg49_63
     case ywg49_63 =>
      refine StepS.pure nP (by rfl) (fun w9 => ?_)
      cases bq1212_9 <;> (first | rfl | (go_simp; done) | (go_simp; rfl))
     try simp only [Act.put, sA, sZ, sS]
     obtain ⟨bq1212_14, hb9⟩ : ∃ zb : Bool, zb = (((!(mayB z.nm)) || (decide (z.num < 0))) || (decide ((2147483647 : Int) < z.num))) := ⟨_, rfl⟩
     have HEbq1212_14 := Lib.hid hb9
     clear hb9
     refine Pz 14 (some 65) (.bool (bq1212_14)) rfl rfl ?ywg49_64 ?rwg49_64
     case ywg49_64 =>
      refine StepS.pure nP (by rfl) (fun w9 => ?_)
      have e9 : (bq1212_9 || (decide ((2147483647 : Int) < z.num))) = bq1212_14 := by rw [HEbq1212_14.out, HEbq1212_9.out]
      rw [← e9]
      clear e9
      first | rfl | (go_simp; done) | (go_simp; rfl)
     try simp only [Act.put, sA, sZ, sS]
     refine Pz 15 (some 66) (cond bq1212_14 (undef) (.pointer (some ⟨wr.heap.size, 0, none⟩))) rfl rfl (by cases bq1212_14; (exact StepS.pure nP rfl fun _ => rfl); exact StepS.skip nP rfl) ?_
     try simp only [Act.put, sA, sZ, sS]
     refine Pz 16 (some 67) (cond bq1212_14 (undef) (.string z.nm)) rfl rfl ?ywg49_66 ?rwg49_66
     case ywg49_66 =>
      cases bq1212_14
      · skip
        refine StepS.read [] (by kernel_rfl) nP (by rfl) (fun L9 m9 w9 hSh hAt hDn hS => ?_)
        have hT : Below _ _ w9 := hS
        have x0 : w9.cell? ⟨wr.heap.size, 0, none⟩ = some (.string z.nm) := (HZ.out.ca hT).cell 0
        clear hT hS
        go_simp
        try rfl
      · exact StepS.skip nP (by rfl)
     try simp only [Act.put, sA, sZ, sS]
     refine Pz 17 (some 68) (cond bq1212_14 (undef) (.bool (!(z.nm.toList == (⟨#[]⟩ : ByteArray).toList)))) rfl rfl (by cases bq1212_14; (exact StepS.pure nP rfl fun _ => rfl); exact StepS.skip nP rfl) ?_
     try simp only [Act.put, sA, sZ, sS]
     obtain ⟨bq1212_18, hb9⟩ : ∃ zb : Bool, zb = (!(z.nm.toList == (⟨#[]⟩ : ByteArray).toList)) := ⟨_, rfl⟩
     have HEbq1212_18 := Lib.hid hb9
     clear hb9
     refine Pz 18 (some 69) (cond bq1212_14 (undef) (.bool (bq1212_18))) rfl rfl ?ywg49_68 ?rwg49_68
     case ywg49_68 =>
      cases bq1212_14
      · skip
        refine StepS.pure nP (by rfl) (fun w9 => ?_)
        have e9 : (!(z.nm.toList == (⟨#[]⟩ : ByteArray).toList)) = bq1212_18 := by rw [HEbq1212_18.out]
        rw [← e9]
        clear e9
        first | rfl | (go_simp; done) | (go_simp; rfl)
      · exact StepS.skip nP (by rfl)
     try simp only [Act.put, sA, sZ, sS]
     refine Pz 19 (some 70) (cond bq1212_14 (undef) (cond bq1212_18 (.pointer (some ⟨wr.heap.size, 1, none⟩)) (undef))) rfl rfl (by cases bq1212_14; (cases bq1212_18; exact StepS.skip nP rfl; exact StepS.pure nP rfl fun _ => rfl); exact StepS.skip nP rfl) ?_
     try simp only [Act.put, sA, sZ, sS]
     refine Pz 20 (some 71) (cond bq1212_14 (undef) (cond bq1212_18 (.int .i64 (z.num)) (undef))) rfl rfl ?ywg49_70 ?rwg49_70
     case ywg49_70 =>
      cases bq1212_14
      · skip
        cases bq1212_18
        · exact StepS.skip nP (by rfl)
        · skip
          refine StepS.read [] (by kernel_rfl) nP (by rfl) (fun L9 m9 w9 hSh hAt hDn hS => ?_)
          have hT : Below _ _ w9 := hS
          have x0 : w9.cell? ⟨wr.heap.size, 1, none⟩ = some (.int .i64 (z.num)) := (HZ.out.ca hT).cell 1
          clear hT hS
          go_simp
          try rfl
      · exact StepS.skip nP (by rfl)
     try simp only [Act.put, sA, sZ, sS]
     refine Pz 21 (some 72) (cond bq1212_14 (undef) (cond bq1212_18 (.bool (!decide (z.num = 0))) (undef))) rfl rfl (by cases bq1212_14; (cases bq1212_18; exact StepS.skip nP rfl; exact StepS.pure nP rfl fun _ => rfl); exact StepS.skip nP rfl) ?_
     try simp only [Act.put, sA, sZ, sS]
     refine Pz 22 (some 73) (cond bq1212_14 (undef) (.bool (bq1212_18 && (!decide (z.num = 0))))) rfl rfl ?ywg49_72 ?rwg49_72
     case ywg49_72 =>
      cases bq1212_14
      · skip
        refine StepS.pure nP (by rfl) (fun w9 => ?_)
        cases bq1212_18 <;> (first | rfl | (go_simp; done) | (go_simp; rfl))
      · exact StepS.skip nP (by rfl)
     try simp only [Act.put, sA, sZ, sS]
     obtain ⟨bF, hb9⟩ : ∃ zb : Bool, zb = ((((!(mayB z.nm)) || (decide (z.num < 0))) || (decide ((2147483647 : Int) < z.num))) || ((!(z.nm.toList == (⟨#[]⟩ : ByteArray).toList)) && (!decide (z.num = 0)))) := ⟨_, rfl⟩
     have HEbF := Lib.hid hb9
     clear hb9
     refine Pz 23 (some 74) (.bool (bF)) rfl rfl ?ywg49_73 ?rwg49_73
     case ywg49_73 =>
      refine StepS.pure nP (by rfl) (fun w9 => ?_)
      have e9 : (bq1212_14 || (bq1212_18 && (!decide (z.num = 0)))) = bF := by rw [HEbF.out, HEbq1212_14.out, HEbq1212_18.out]
      rw [← e9]
      clear e9
      cases bq1212_14 <;> (first | rfl | (go_simp; done) | (go_simp; rfl))
     try simp only [Act.put, sA, sZ, sS]
     refine Ps.done (by kernel_rfl) (fun wg49 hS => ?_) _
     try generalize (cond bq1212_14 (undef) (cond bq1212_18 (.pointer (some ⟨wr.heap.size, 1, none⟩)) (undef)) : Value) = zz74
     try generalize (cond bq1212_14 (undef) (cond bq1212_18 (.bool (!decide (z.num = 0))) (undef)) : Value) = zz75
     try generalize (cond bq1212_14 (undef) (.bool (!(z.nm.toList == (⟨#[]⟩ : ByteArray).toList))) : Value) = zz76
     try generalize (cond bq1212_9 (undef) (.bool (decide ((2147483647 : Int) < z.num))) : Value) = zz77
     try generalize (cond bq1212_14 (undef) (cond bq1212_18 (.int .i64 (z.num)) (undef)) : Value) = zz78
     try generalize (cond bq1212_14 (undef) (.bool (bq1212_18 && (!decide (z.num = 0)))) : Value) = zz79
     try generalize (cond bq1212_14 (undef) (.pointer (some ⟨wr.heap.size, 0, none⟩)) : Value) = zz80
     try generalize (cond bq1212_9 (undef) (.pointer (some ⟨wr.heap.size, 1, none⟩)) : Value) = zz81
     try generalize (cond bq1212_4 (undef) (.pointer (some ⟨wr.heap.size, 1, none⟩)) : Value) = zz82
     try generalize (.bool (bq1212_9 || (decide ((2147483647 : Int) < z.num))) : Value) = zz83
     try generalize (cond bq1212_4 (undef) (.bool (decide (z.num < 0))) : Value) = zz84
     try generalize (cond bq1212_14 (undef) (.bool (bq1212_18)) : Value) = zz85
     try generalize (cond bq1212_4 (undef) (.int .i64 (z.num)) : Value) = zz86
     try generalize (cond bq1212_9 (undef) (.int .i64 (z.num)) : Value) = zz87
     try generalize (.bool (bq1212_4 || (decide (z.num < 0))) : Value) = zz88
     try generalize (cond bq1212_14 (undef) (.string z.nm) : Value) = zz89
     have HQf := Lib.hid (show Below wz.heap.size wz wg49 from hS)
     clear hS
     obtain ⟨wf, rfl⟩ : ∃ x, x = wg49 := ⟨_, rfl⟩
     cases bF
     case true =>
      have HZF := Lib.hid (show keyB z = false from by rw [key_ref, ← empQ, ← HEbF.out]; rfl)
      have HRF := Lib.hid (show rr = false from by rw [HRR.out]; exact qry_no2 (all_false HAX.out HZF.out))
      go_wp2_with fail
      go_ret
      exact ⟨ret_bool HRF.out.symm, bl_ca HQ03.out (bl_ca HQr.out (bl_ca HQz.out HQf.out))⟩
     case false =>
      have HZT := Lib.hid (show keyB z = true from by rw [key_ref, ← empQ, ← HEbF.out]; rfl)
      go_wp2_with fail
      go_roundg (gk - 1)
      · exact ⟨i + 1, by omega, by go_num, Lib.hid (bl_ca HQr.out (bl_ca HQz.out HQf.out)), Lib.hid (all_stepQ HAX.out HAr.out HZT.out)⟩
      · omega
   · have hi1 : ¬ ((i : Int) < (m : Int)) := by omega
     have hie : i = m := by omega
     have HAe := Lib.hid (show q.keys.all keyB = true from by have h9 := HAr.out; rw [List.take_of_length_le (by have := Lay.rd_len HK3.out; omega)] at h9; exact h9)
     clear hie HAr
     go_wp2_with fail
     go_meet
     exact ⟨HQr, HAe⟩
 case rest =>
 obtain ⟨HQ4, HA4⟩ := hcut
 obtain ⟨w4, rfl⟩ : ∃ x, x = wc := ⟨_, rfl⟩
 have HFF := Lib.hid (show true = rr from by
  rw [HRR.out]
  have h1 := HEbS.out
  have hl := HLN.out
  unfold qryB
  rw [HA3.out, HA4.out, hl.1, hl.2]
  simp at h1
  symm
  simp only [Bool.and_eq_true, Bool.or_eq_true, decide_eq_true_eq, and_true]
  omega)
 go_wp2_with fail
 go_ret
 exact ⟨ret_bool HFF.out, bl_ca HQ03.out HQ4.out⟩
end Go.Proofs.YtoaggmldekejoaaGreatDoor
