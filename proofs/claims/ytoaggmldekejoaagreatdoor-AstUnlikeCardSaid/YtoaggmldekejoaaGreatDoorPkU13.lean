/- How queries are written, in plain Lean: the program's way (words, with blanks between them) and the reference's are one. Conditions: none. -/
import Derived.Test.YtoaggmldekejoaaGreatDoorPkU12
namespace Go.Proofs.YtoaggmldekejoaaGreatDoor
/-- a tree that may be, as it is written -/
def prN (x : List Nd) : List UInt8 := match treeF cntB x with | some t => prT t | none => []
def joinC : List (List UInt8) → List UInt8
 | [] => []
 | [x] => x
 | x :: y :: l => x ++ ([44, 32] ++ joinC (y :: l))
def wSELECT : List UInt8 := [83, 69, 76, 69, 67, 84]
def wDISTINCT : List UInt8 := [68, 73, 83, 84, 73, 78, 67, 84]
def wFROM : List UInt8 := [70, 82, 79, 77]
def wLEFT : List UInt8 := [76, 69, 70, 84]
def wJOIN : List UInt8 := [74, 79, 73, 78]
def wON : List UInt8 := [79, 78]
def wAS : List UInt8 := [65, 83]
def wWHERE : List UInt8 := [87, 72, 69, 82, 69]
def wGROUPBY : List UInt8 := [71, 82, 79, 85, 80, 32, 66, 89]
def wHAVING : List UInt8 := [72, 65, 86, 73, 78, 71]
def wUNIONALL : List UInt8 := [85, 78, 73, 79, 78, 32, 65, 76, 76]
def wORDERBY : List UInt8 := [79, 82, 68, 69, 82, 32, 66, 89]
def wLIMIT : List UInt8 := [76, 73, 77, 73, 84]
def wDESC : List UInt8 := [32, 68, 69, 83, 67]
/-! ### the program's way -/
def addW (acc s : List UInt8) : List UInt8 := if s = [] then acc else if acc = [] then s else acc ++ (32 :: s)
def wordsP (acc : List UInt8) (l : List (List UInt8)) : List UInt8 := l.foldl addW acc
def whenP (b : Bool) (s : List UInt8) : List UInt8 := if b then s else []
def rowP (acc w : List UInt8) (l : List (List UInt8)) : List UInt8 := if l = [] then acc else wordsP acc [w, joinC l]
def onP (acc w : List UInt8) (t : List Nd) : List UInt8 := if t = [] then acc else wordsP acc [w, prN t]
def itemP (x : QI) : List UInt8 := prN x.t ++ (if x.as_.data.toList = [] then [] else (32 :: wAS) ++ (32 :: x.as_.data.toList))
def nmP (x : QN) : List UInt8 := namU x.tb.data.toList x.nm.data.toList
def joinP (acc : List UInt8) (j : QJ) : List UInt8 := onP (wordsP acc [whenP j.left wLEFT, wJOIN, j.tb.data.toList, j.as_.data.toList]) wON j.on
def selP (acc : List UInt8) (s : QS) : List UInt8 :=
 onP (rowP (onP (s.joins.foldl joinP (wordsP (rowP (wordsP acc [wSELECT, whenP s.dis wDISTINCT, whenP s.star [42]]) [] (s.items.map itemP)) [wFROM, s.ftb.data.toList, s.fas.data.toList])) wWHERE s.wh) wGROUPBY (s.grp.map nmP)) wHAVING s.hv
def selsP : Nat → List UInt8 → List QS → List UInt8
 | _, acc, [] => acc
 | i, acc, s :: l => selsP (i + 1) (selP (wordsP acc [whenP (decide (0 < i)) wUNIONALL]) s) l
def keyP (k : QK) : List UInt8 := (if k.nm.data.toList = [] then Lib.decDigits k.num.toNat else k.nm.data.toList) ++ (if k.desc then wDESC else [])
def qryP (q : QC) : List UInt8 :=
 let a := rowP (selsP 0 [] q.sels) wORDERBY (q.keys.map keyP)
 if 0 ≤ q.lim then wordsP a [wLIMIT, Lib.decDigits q.lim.toNat] else a
/-! ### the reference's way -/
def srcR (tb as_ : List UInt8) : List UInt8 := if as_ = [] then tb else tb ++ (32 :: as_)
def joinR (j : QJ) : List UInt8 := (if j.left then 32 :: wLEFT else []) ++ ((32 :: wJOIN) ++ (32 :: (srcR j.tb.data.toList j.as_.data.toList ++ ((32 :: wON) ++ (32 :: prN j.on)))))
def onR (w : List UInt8) (t : List Nd) : List UInt8 := if t = [] then [] else (32 :: w) ++ (32 :: prN t)
def rowR (w : List UInt8) (l : List (List UInt8)) : List UInt8 := if l = [] then [] else (32 :: w) ++ (32 :: joinC l)
def selR (s : QS) : List UInt8 :=
 wSELECT ++ (32 :: ((if s.dis then wDISTINCT ++ [32] else []) ++ ((if s.star then [42] else []) ++ (joinC (s.items.map itemP) ++ ((32 :: wFROM) ++ (32 :: (srcR s.ftb.data.toList s.fas.data.toList ++ ((s.joins.map joinR).flatten ++ (onR wWHERE s.wh ++ (rowR wGROUPBY (s.grp.map nmP) ++ onR wHAVING s.hv))))))))))
def selsR : List QS → List UInt8
 | [] => []
 | s :: l => (32 :: wUNIONALL) ++ (32 :: (selR s ++ selsR l))
def prQ (q : QC) : List UInt8 :=
 (match q.sels with | [] => [] | s :: l => selR s ++ selsR l) ++ (rowR wORDERBY (q.keys.map keyP) ++ (if 0 ≤ q.lim then (32 :: wLIMIT) ++ (32 :: Lib.decDigits q.lim.toNat) else []))
/-! ### they are one -/
theorem addW_ne {acc s : List UInt8} (h : acc ≠ []) (hs : s ≠ []) : addW acc s = acc ++ (32 :: s) := by unfold addW; rw [if_neg hs, if_neg h]
theorem addW_nil {acc : List UInt8} : addW acc [] = acc := by unfold addW; rw [if_pos rfl]
theorem addW_acc {acc s : List UInt8} (h : acc ≠ []) : addW acc s ≠ [] := by
 unfold addW
 split
 · exact h
 · simp
theorem wordsP_ne {acc : List UInt8} (h : acc ≠ []) : ∀ l : List (List UInt8), wordsP acc l ≠ []
 | [] => h
 | s :: l => by show wordsP (addW acc s) l ≠ []; exact wordsP_ne (addW_acc h) l
def spL : List (List UInt8) → List UInt8
 | [] => []
 | s :: l => (if s = [] then [] else 32 :: s) ++ spL l
theorem wordsP_sp {acc : List UInt8} (h : acc ≠ []) : ∀ l : List (List UInt8), wordsP acc l = acc ++ spL l
 | [] => by unfold spL; rw [List.append_nil]; rfl
 | s :: l => by
  show wordsP (addW acc s) l = _
  rw [wordsP_sp (addW_acc h) l, show spL (s :: l) = (if s = [] then [] else 32 :: s) ++ spL l from rfl]
  unfold addW
  split
  · rw [List.nil_append]
  · rw [List.append_assoc]
theorem onP_sp {acc w : List UInt8} {t : List Nd} (h : acc ≠ []) (hw : w ≠ []) (ht : t ≠ [] → prN t ≠ []) : onP acc w t = acc ++ onR w t := by
 unfold onP onR
 split
 · rw [List.append_nil]
 · next hn =>
   rw [wordsP_sp h]
   rw [show spL [w, prN t] = (if w = [] then [] else 32 :: w) ++ ((if prN t = [] then [] else 32 :: prN t) ++ []) from rfl, if_neg hw, if_neg (ht hn), List.append_nil]
theorem onP_ne {acc w : List UInt8} {t : List Nd} (h : acc ≠ []) : onP acc w t ≠ [] := by
 unfold onP
 split
 · exact h
 · exact wordsP_ne h _
theorem rowP_ne {acc w : List UInt8} {l : List (List UInt8)} (h : acc ≠ []) : rowP acc w l ≠ [] := by
 unfold rowP
 split
 · exact h
 · exact wordsP_ne h _
theorem joinC_ne {l : List (List UInt8)} (h : l ≠ []) (hx : ∀ x ∈ l, x ≠ []) : joinC l ≠ [] := by
 match l, h with
 | [x], _ => exact hx x (by simp)
 | x :: y :: r, _ => unfold joinC; simp
theorem rowP_sp {acc w : List UInt8} {l : List (List UInt8)} (h : acc ≠ []) (hw : w ≠ []) (hx : ∀ x ∈ l, x ≠ []) : rowP acc w l = acc ++ rowR w l := by
 unfold rowP rowR
 split
 · rw [List.append_nil]
 · next hn =>
   rw [wordsP_sp h]
   rw [show spL [w, joinC l] = (if w = [] then [] else 32 :: w) ++ ((if joinC l = [] then [] else 32 :: joinC l) ++ []) from rfl, if_neg hw, if_neg (joinC_ne hn hx), List.append_nil]
theorem prN_ne {t : List Nd} (h : okF t = true) : prN t ≠ [] := by
 unfold prN
 unfold okF at h
 cases e : treeF cntB t with
 | none => rw [e] at h; cases h
 | some u =>
  obtain ⟨b, r, hb, _⟩ := pr_head (treeF_some.1 e).2.1
  show prT u ≠ []
  rw [hb]; simp
theorem name_ne {s : ByteArray} (h : nameB s = true) : s.data.toList ≠ [] := by
 obtain ⟨_, _, b, r, e, _⟩ := name_small h
 rw [e]; simp
theorem nmP_ne {x : QN} (h : nmB x = true) : nmP x ≠ [] := by
 unfold nmB at h
 rw [Bool.and_eq_true] at h
 unfold nmP namU
 split
 · exact name_ne h.1
 · simp
theorem itemP_ne {x : QI} (h : itemB x = true) : itemP x ≠ [] := by
 unfold itemB at h
 rw [Bool.and_eq_true] at h
 unfold itemP
 intro e
 exact prN_ne h.1 (List.append_eq_nil_iff.1 e).1
theorem keyP_ne {k : QK} : keyP k ≠ [] := by
 unfold keyP
 intro e
 have := (List.append_eq_nil_iff.1 e).1
 split at this
 · exact dec_ne _ this
 · exact absurd this ‹_›
theorem src_sp {tb as_ : List UInt8} (h : tb ≠ []) : spL [tb, as_] = 32 :: srcR tb as_ := by
 rw [show spL [tb, as_] = (if tb = [] then [] else 32 :: tb) ++ ((if as_ = [] then [] else 32 :: as_) ++ []) from rfl, if_neg h, List.append_nil]
 unfold srcR
 split
 · rw [List.append_nil]
 · rfl
theorem joinP_sp {acc : List UInt8} {j : QJ} (h : acc ≠ []) (hj : joinB j = true) : joinP acc j = acc ++ joinR j := by
 unfold joinB at hj
 simp only [Bool.and_eq_true] at hj
 have hn := name_ne hj.2.1
 have hp := prN_ne hj.1
 have ho : j.on ≠ [] := fun e => by rw [e] at hj; exact absurd hj.1 (by decide)
 unfold joinP
 rw [onP_sp (wordsP_ne h _) (by decide) (fun _ => hp), wordsP_sp h]
 unfold onR joinR
 rw [if_neg ho]
 have e : spL [whenP j.left wLEFT, wJOIN, j.tb.data.toList, j.as_.data.toList] = (if j.left then 32 :: wLEFT else []) ++ ((32 :: wJOIN) ++ (32 :: srcR j.tb.data.toList j.as_.data.toList)) := by
  rw [show spL [whenP j.left wLEFT, wJOIN, j.tb.data.toList, j.as_.data.toList] = (if whenP j.left wLEFT = [] then [] else 32 :: whenP j.left wLEFT) ++ ((if wJOIN = [] then [] else 32 :: wJOIN) ++ spL [j.tb.data.toList, j.as_.data.toList]) from rfl, src_sp hn]
  cases j.left <;> rfl
 rw [e]
 simp only [List.append_assoc, List.cons_append]
theorem joins_sp : ∀ (l : List QJ) {acc : List UInt8}, acc ≠ [] → l.all joinB = true → l.foldl joinP acc = acc ++ (l.map joinR).flatten ∧ l.foldl joinP acc ≠ []
 | [], acc, h, _ => ⟨by simp, h⟩
 | j :: l, acc, h, hl => by
  rw [List.all_cons, Bool.and_eq_true] at hl
  have e := joinP_sp h hl.1
  have hne : joinP acc j ≠ [] := by rw [e]; intro e2; exact h (List.append_eq_nil_iff.1 e2).1
  obtain ⟨a, b⟩ := joins_sp l hne hl.2
  rw [List.foldl_cons]
  refine ⟨?_, b⟩
  rw [a, e, List.map_cons, List.flatten_cons, List.append_assoc]
theorem none_pr {t : List Nd} (h : noneB t = true) (hn : t ≠ []) : prN t ≠ [] := by
 unfold noneB at h
 rw [Bool.or_eq_true, decide_eq_true_eq] at h
 rcases h with h | h
 · exact absurd (List.eq_nil_of_length_eq_zero h) hn
 · exact prN_ne h
theorem selP_sp {acc : List UInt8} {s : QS} (h : selB s = true) : selP acc s = (if acc = [] then [] else acc ++ [32]) ++ selR s ∧ selP acc s ≠ [] := by
 unfold selB selShape at h
 simp only [Bool.and_eq_true, decide_eq_true_eq] at h
 obtain ⟨⟨hst, _⟩, ⟨hf, hfa⟩, hit, hjo, hgr, hwh, hhv⟩ := h
 have hfn := name_ne hf
 obtain ⟨a0, ha0⟩ : ∃ a0, a0 = wordsP acc [wSELECT, whenP s.dis wDISTINCT, whenP s.star [42]] := ⟨_, rfl⟩
 have e0 : a0 = (if acc = [] then [] else acc ++ [32]) ++ (wSELECT ++ ((if s.dis then 32 :: wDISTINCT else []) ++ (if s.star then [32, 42] else []))) := by
  rw [ha0, show wordsP acc [wSELECT, whenP s.dis wDISTINCT, whenP s.star [42]] = wordsP (addW acc wSELECT) [whenP s.dis wDISTINCT, whenP s.star [42]] from rfl]
  have hne : addW acc wSELECT ≠ [] := by unfold addW; rw [if_neg (by decide)]; split <;> simp [wSELECT]
  rw [wordsP_sp hne]
  have e1 : addW acc wSELECT = (if acc = [] then [] else acc ++ [32]) ++ wSELECT := by
   unfold addW
   rw [if_neg (by decide)]
   split
   · rfl
   · rw [List.append_assoc]; rfl
  rw [e1, List.append_assoc]
  cases s.dis <;> cases s.star <;> rfl
 have n0 : a0 ≠ [] := by
  rw [e0]; intro e
  have := (List.append_eq_nil_iff.1 (List.append_eq_nil_iff.1 e).2).1
  exact absurd this (by decide)
 obtain ⟨a1, ha1⟩ : ∃ a1, a1 = rowP a0 [] (s.items.map itemP) := ⟨_, rfl⟩
 have e1 : a1 = a0 ++ (if s.items = [] then [] else 32 :: joinC (s.items.map itemP)) := by
  rw [ha1]
  unfold rowP
  by_cases hi : s.items = []
  · rw [hi, List.map_nil, if_pos rfl, if_pos rfl, List.append_nil]
  · have hm : s.items.map itemP ≠ [] := by simpa using hi
    rw [if_neg hm, if_neg hi, wordsP_sp n0]
    have hj : joinC (s.items.map itemP) ≠ [] := joinC_ne hm (fun x hx => by
     obtain ⟨y, hy, rfl⟩ := List.mem_map.1 hx
     exact itemP_ne (List.all_eq_true.1 hit y hy))
    rw [show spL [[], joinC (s.items.map itemP)] = [] ++ ((if joinC (s.items.map itemP) = [] then [] else 32 :: joinC (s.items.map itemP)) ++ []) from rfl, if_neg hj, List.append_nil, List.nil_append]
 have n1 : a1 ≠ [] := by rw [ha1]; exact rowP_ne n0
 obtain ⟨a2, ha2⟩ : ∃ a2, a2 = wordsP a1 [wFROM, s.ftb.data.toList, s.fas.data.toList] := ⟨_, rfl⟩
 have e2 : a2 = a1 ++ ((32 :: wFROM) ++ (32 :: srcR s.ftb.data.toList s.fas.data.toList)) := by
  rw [ha2, wordsP_sp n1, show spL [wFROM, s.ftb.data.toList, s.fas.data.toList] = (if wFROM = [] then [] else 32 :: wFROM) ++ spL [s.ftb.data.toList, s.fas.data.toList] from rfl, src_sp hfn]
  rfl
 have n2 : a2 ≠ [] := by rw [ha2]; exact wordsP_ne n1 _
 obtain ⟨e3, n3⟩ := joins_sp s.joins n2 hjo
 have e4 := onP_sp (w := wWHERE) (t := s.wh) n3 (by decide) (none_pr hwh)
 have n4 := onP_ne (w := wWHERE) (t := s.wh) n3
 have hg : ∀ x ∈ s.grp.map nmP, x ≠ [] := fun x hx => by
  obtain ⟨y, hy, rfl⟩ := List.mem_map.1 hx
  exact nmP_ne (List.all_eq_true.1 hgr y hy)
 have e5 := rowP_sp (w := wGROUPBY) (l := s.grp.map nmP) n4 (by decide) hg
 have n5 := rowP_ne (w := wGROUPBY) (l := s.grp.map nmP) n4
 have e6 := onP_sp (w := wHAVING) (t := s.hv) n5 (by decide) (none_pr hhv)
 have hS : selP acc s = onP (rowP (onP (s.joins.foldl joinP a2) wWHERE s.wh) wGROUPBY (s.grp.map nmP)) wHAVING s.hv := by rw [ha2, ha1, ha0]; rfl
 refine ⟨?_, by rw [hS]; exact onP_ne n5⟩
 rw [hS, e6, e5, e4, e3, e2, e1, e0]
 unfold selR
 have hmid : ((if s.dis then 32 :: wDISTINCT else []) ++ (if s.star then [32, 42] else [])) ++ (if s.items = [] then [] else 32 :: joinC (s.items.map itemP)) = 32 :: ((if s.dis then wDISTINCT ++ [32] else []) ++ ((if s.star then [42] else []) ++ joinC (s.items.map itemP))) := by
  by_cases hi : s.items = []
  · rw [hi, List.length_nil] at hst
    have : s.star = true := by rw [hst]; rfl
    rw [this, hi]
    cases s.dis <;> rfl
  · have : s.star = false := by
     rw [hst]; simp only [decide_eq_false_iff_not]
     exact fun e => hi (List.eq_nil_of_length_eq_zero e)
    rw [this, if_neg hi]
    cases s.dis
    · rfl
    · show (32 :: wDISTINCT ++ []) ++ 32 :: joinC (s.items.map itemP) = 32 :: ((wDISTINCT ++ [32]) ++ ([] ++ joinC (s.items.map itemP)))
      rw [List.append_nil, List.nil_append, List.append_assoc]; rfl
 simp only [List.append_assoc] at hmid ⊢
 rw [show ∀ X : List UInt8, (if s.dis then 32 :: wDISTINCT else []) ++ ((if s.star then [32, 42] else []) ++ ((if s.items = [] then [] else 32 :: joinC (s.items.map itemP)) ++ X)) = ((if s.dis then 32 :: wDISTINCT else []) ++ ((if s.star then [32, 42] else []) ++ (if s.items = [] then [] else 32 :: joinC (s.items.map itemP)))) ++ X from fun X => by simp only [List.append_assoc]]
 rw [hmid]
 simp only [List.append_assoc, List.cons_append]
theorem selsP_sp : ∀ (l : List QS) {acc : List UInt8} (i : Nat), 0 < i → acc ≠ [] → l.all selB = true → selsP i acc l = acc ++ selsR l ∧ selsP i acc l ≠ []
 | [], acc, i, _, h, _ => ⟨by unfold selsP selsR; rw [List.append_nil], h⟩
 | s :: l, acc, i, hi, h, hl => by
  rw [List.all_cons, Bool.and_eq_true] at hl
  unfold selsP
  have e0 : wordsP acc [whenP (decide (0 < i)) wUNIONALL] = acc ++ (32 :: wUNIONALL) := by
   rw [decide_eq_true hi]
   exact addW_ne (s := wUNIONALL) h (by decide)
  have n0 : acc ++ (32 :: wUNIONALL) ≠ [] := by simp
  obtain ⟨e1, n1⟩ := selP_sp (acc := acc ++ (32 :: wUNIONALL)) hl.1
  rw [if_neg n0] at e1
  obtain ⟨e2, n2⟩ := selsP_sp l (i + 1) (Nat.succ_pos _) n1 hl.2
  rw [e0]
  refine ⟨?_, n2⟩
  rw [e2, e1, selsR]
  simp only [List.append_assoc, List.cons_append, List.nil_append]
theorem qryP_pr {q : QC} (h : qryB q = true) : qryP q = prQ q := by
 unfold qryB at h
 simp only [Bool.and_eq_true, decide_eq_true_eq] at h
 obtain ⟨⟨h0, _⟩, hk, hs⟩ := h
 match hq : q.sels, h0 with
 | s :: l, _ =>
  rw [hq, List.all_cons, Bool.and_eq_true] at hs
  obtain ⟨e1, n1⟩ := selP_sp (acc := []) hs.1
  rw [if_pos rfl, List.nil_append] at e1
  obtain ⟨e2, n2⟩ := selsP_sp l 1 (by decide) n1 hs.2
  have e0 : selsP 0 [] (s :: l) = selR s ++ selsR l := by
   show selsP 1 (selP (wordsP [] [whenP (decide (0 < 0)) wUNIONALL]) s) l = _
   rw [show wordsP [] [whenP (decide (0 < 0)) wUNIONALL] = [] from rfl, e2, e1]
  have n0 : selsP 0 [] (s :: l) ≠ [] := n2
  have hx : ∀ x ∈ q.keys.map keyP, x ≠ [] := fun x hx => by
   obtain ⟨y, _, rfl⟩ := List.mem_map.1 hx
   exact keyP_ne
  have e3 := rowP_sp (w := wORDERBY) (l := q.keys.map keyP) n0 (by decide) hx
  have n3 := rowP_ne (w := wORDERBY) (l := q.keys.map keyP) n0
  unfold qryP prQ
  rw [hq]
  simp only
  split
  · rw [wordsP_sp n3, e3, e0]
    rw [show spL [wLIMIT, Lib.decDigits q.lim.toNat] = (32 :: wLIMIT) ++ ((if Lib.decDigits q.lim.toNat = [] then [] else 32 :: Lib.decDigits q.lim.toNat) ++ []) from rfl, if_neg (dec_ne _), List.append_nil]
    simp only [List.append_assoc, List.cons_append]
  · rw [e3, e0, List.append_nil, List.append_assoc]
end Go.Proofs.YtoaggmldekejoaaGreatDoor
/- The reference: which queries may be. Conditions: the query reads so, and is no longer than memory is. -/
namespace Go.Proofs.YtoaggmldekejoaaGreatDoor
open Go.RowKit
theorem empQ (s : ByteArray) : (s.toList == (⟨#[]⟩ : ByteArray).toList) = decide (s.data.toList = []) := by
 rw [toList_data, toList_data]
 cases s.data.toList with
 | nil => rfl
 | cons b l => rfl
end Go.Proofs.YtoaggmldekejoaaGreatDoor
/- The program's Check. Conditions: the query reads so, and is no longer than memory is. -/
namespace Go.Proofs.YtoaggmldekejoaaGreatDoor
open Go.RowKit
theorem number_bl (n : Int) (w : World) : Calls Tryz.prog 39 #[.int .i64 n] w fun e w' => e = .returned (.bool (numB n)) ∧ Below w.heap.size w w' :=
 (number_any n w).mono (fun _ _ h => by obtain ⟨h1, rfl⟩ := h; exact ⟨h1, Below.refl _ _⟩)
set_option maxRecDepth 100000 in
set_option maxHeartbeats 16000000 in
theorem check1_any (F : Nat → Prop) (x : QS) (I0 : Option Addr) (i0 j0 : Nat) (J0 : Option Addr) (u0 v0 : Nat) (W0 : Option Addr) (a0 b0 : Nat) (H0 : Option Addr) (e0 f0 : Nat) (G0 : Option Addr) (p0 q0 : Nat) (w : World) (hR : RdS F w x I0 i0 j0 J0 u0 v0 W0 a0 b0 H0 e0 f0 G0 p0 q0) (hSp : QSp x) (hsm : i0 ≤ 1000 ∧ u0 ≤ 1000 ∧ p0 ≤ 1000) (hT : Tab w) :
 Calls Tryz.prog 42 #[.agg (x.cells I0 i0 j0 J0 u0 v0 W0 a0 b0 H0 e0 f0 G0 p0 q0)] w fun e w' => e = .returned (.bool (!selB x)) ∧ Below w.heap.size w w' := by
 have HQ1 := Lib.hid (bl_al (Below.refl w.heap.size w) (.cells (x.cells I0 i0 j0 J0 u0 v0 W0 a0 b0 H0 e0 f0 G0 p0 q0) 76))
 have HB1 := Lib.hid (Blk.new w 76 (x.cells I0 i0 j0 J0 u0 v0 W0 a0 b0 H0 e0 f0 G0 p0 q0))
 have x0 := HB1.out.cell 0
 have x1 := HB1.out.cell 1
 have x2 := HB1.out.cell 2
 have x3 := HB1.out.cell 3
 have x4 := HB1.out.cell 4
 have x5 := HB1.out.cell 5
 have x6 := HB1.out.cell 6
 have x7 := HB1.out.cell 7
 have x8 := HB1.out.cell 8
 have HC := Lib.hid (selects_any F x I0 i0 j0 J0 u0 v0 W0 a0 b0 H0 e0 f0 G0 p0 q0 _ (hR.below HQ1.out) hSp hsm (hT.below HQ1.out))
 clear hR hSp hsm hT
 generalize selB x = z at *
 go_enter Tryz.func42, Tryz.ntmps42
 go_wp2_with fail
 refine HC.out.mono ?_
 rintro e w2 ⟨rfl, q2⟩
 have HQ2 := Lib.hid (bl_ca HQ1.out q2)
 clear q2 HC
 go_wp2
 go_ret
 exact ⟨rfl, HQ2.out⟩
set_option maxRecDepth 100000 in
set_option maxHeartbeats 16000000 in
theorem Check_any (F : Nat → Prop) (q : QC) (A : Option Addr) (n c : Nat) (B : Option Addr) (m d : Nat) (w : World) (hS : LQS.rd w F A n q.sels) (hK : LQK.rd w F B m q.keys) (hp : QCp q) (hn : n ≤ 1000) (hm : m ≤ 1000) (hL : ∀ s ∈ q.sels, s.items.length ≤ 1000 ∧ s.joins.length ≤ 1000 ∧ s.grp.length ≤ 1000) (hT : Tab w) :
 Calls Tryz.prog 18 #[q.val A n c B m d] w fun e w' => e = .returned (.int .i64 (if qryB q then 0 else 180)) ∧ Below w.heap.size w w' := by
 have HQ1 := Lib.hid (bl_al (Below.refl w.heap.size w) (.cells #[.slice A n c, .slice B m d, .int .i64 q.lim] 43))
 have HB1 := Lib.hid (Blk.new w 43 #[.slice A n c, .slice B m d, .int .i64 q.lim])
 have HS1 := Lib.hid (Lay.rd_below hS HQ1.out)
 have HK1 := Lib.hid (Lay.rd_below hK HQ1.out)
 have HT1 := Lib.hid (hT.below HQ1.out)
 have HP := Lib.hid hp
 have HL := Lib.hid hL
 have HLN := Lib.hid (And.intro (Lay.rd_len hS) (Lay.rd_len hK))
 obtain ⟨rr, hrr⟩ : ∃ rr, rr = qryB q := ⟨_, rfl⟩
 rw [← hrr]
 have HRR := Lib.hid hrr
 obtain ⟨nn, hnn⟩ : ∃ nn : Int, nn = if rr then 0 else 180 := ⟨_, rfl⟩
 rw [← hnn]
 have HNN := Lib.hid hnn
 clear hnn
 clear hS hK hp hrr hL hT
 go_enter Tryz.func18, Tryz.ntmps18
 go_upto_region 1 with fail
 generalize w.alloc (.cells #[.slice A n c, .slice B m d, .int .i64 q.lim] 43) = w1 at *
 refine wp_region_ps0 .text (S := fun _ _ w' => Below w1.heap.size w1 w') (by kernel_rfl) ?spswg1 ?ppswg1
 case spswg1 =>
  exact (Below.refl w1.heap.size w1)
 refine Pz 0 (some 6) (.pointer (some ⟨w.heap.size, 0, none⟩)) rfl rfl (by exact StepS.pure nP rfl fun _ => rfl) ?_
 try simp only [Act.put, sA, sZ, sS]
 refine Pz 1 (some 7) (.slice A n c) rfl rfl ?ywg1_3 ?rwg1_3
 case ywg1_3 =>
  refine StepS.read [] (by kernel_rfl) nP (by rfl) (fun L9 m9 w9 hSh hAt hDn hS => ?_)
  have hT : Below _ _ w9 := hS
  have x0 : w9.cell? ⟨w.heap.size, 0, none⟩ = some (.slice A n c) := (HB1.out.ca hT).cell 0
  clear hT hS
  go_simp
  try rfl
 try simp only [Act.put, sA, sZ, sS]
 refine Pz 2 (some 8) (.int .i64 ((n : Int))) rfl rfl (by exact StepS.pure nP rfl fun _ => by first | rfl | (go_simp; done) | (go_simp; rfl)) ?_
 try simp only [Act.put, sA, sZ, sS]
 refine Pz 3 (some 9) (.bool (decide ((0 : Int) < (n : Int)))) rfl rfl (by exact StepS.pure nP rfl fun _ => rfl) ?_
 try simp only [Act.put, sA, sZ, sS]
 obtain ⟨ba1_4, hb9⟩ : ∃ zb : Bool, zb = (decide ((0 : Int) < (n : Int))) := ⟨_, rfl⟩
 have HEba1_4 := Lib.hid hb9
 clear hb9
 refine Pz 4 (some 10) (.bool (ba1_4)) rfl rfl ?ywg1_6 ?rwg1_6
 case ywg1_6 =>
  refine StepS.pure nP (by rfl) (fun w9 => ?_)
  have e9 : (decide ((0 : Int) < (n : Int))) = ba1_4 := by rw [HEba1_4.out]
  rw [← e9]
  clear e9
  first | rfl | (go_simp; done) | (go_simp; rfl)
 try simp only [Act.put, sA, sZ, sS]
 refine Pz 5 (some 11) (cond ba1_4 (.pointer (some ⟨w.heap.size, 0, none⟩)) (undef)) rfl rfl (by cases ba1_4; exact StepS.skip nP rfl; exact StepS.pure nP rfl fun _ => rfl) ?_
 try simp only [Act.put, sA, sZ, sS]
 refine Pz 6 (some 12) (cond ba1_4 (.slice A n c) (undef)) rfl rfl ?ywg1_8 ?rwg1_8
 case ywg1_8 =>
  cases ba1_4
  · exact StepS.skip nP (by rfl)
  · skip
    refine StepS.read [] (by kernel_rfl) nP (by rfl) (fun L9 m9 w9 hSh hAt hDn hS => ?_)
    have hT : Below _ _ w9 := hS
    have x0 : w9.cell? ⟨w.heap.size, 0, none⟩ = some (.slice A n c) := (HB1.out.ca hT).cell 0
    clear hT hS
    go_simp
    try rfl
 try simp only [Act.put, sA, sZ, sS]
 refine Pz 7 (some 13) (cond ba1_4 (.int .i64 ((n : Int))) (undef)) rfl rfl (by cases ba1_4; exact StepS.skip nP rfl; exact StepS.pure nP rfl fun _ => by first | rfl | (go_simp; done) | (go_simp; rfl)) ?_
 try simp only [Act.put, sA, sZ, sS]
 refine Pz 8 (some 14) (cond ba1_4 (.bool (decide ((n : Int) ≤ 3))) (undef)) rfl rfl (by cases ba1_4; exact StepS.skip nP rfl; exact StepS.pure nP rfl fun _ => rfl) ?_
 try simp only [Act.put, sA, sZ, sS]
 refine Pz 9 (some 15) (.bool (ba1_4 && (decide ((n : Int) ≤ 3)))) rfl rfl ?ywg1_11 ?rwg1_11
 case ywg1_11 =>
  refine StepS.pure nP (by rfl) (fun w9 => ?_)
  cases ba1_4 <;> (first | rfl | (go_simp; done) | (go_simp; rfl))
 try simp only [Act.put, sA, sZ, sS]
 obtain ⟨ba1_10, hb9⟩ : ∃ zb : Bool, zb = ((decide ((0 : Int) < (n : Int))) && (decide ((n : Int) ≤ 3))) := ⟨_, rfl⟩
 have HEba1_10 := Lib.hid hb9
 clear hb9
 refine Pz 10 (some 16) (.bool (ba1_10)) rfl rfl ?ywg1_12 ?rwg1_12
 case ywg1_12 =>
  refine StepS.pure nP (by rfl) (fun w9 => ?_)
  have e9 : (ba1_4 && (decide ((n : Int) ≤ 3))) = ba1_10 := by rw [HEba1_10.out, HEba1_4.out]
  rw [← e9]
  clear e9
  first | rfl | (go_simp; done) | (go_simp; rfl)
 try simp only [Act.put, sA, sZ, sS]
 refine Pz 11 (some 17) (cond ba1_10 (.pointer (some ⟨w.heap.size, 1, none⟩)) (undef)) rfl rfl (by cases ba1_10; exact StepS.skip nP rfl; exact StepS.pure nP rfl fun _ => rfl) ?_
 try simp only [Act.put, sA, sZ, sS]
 refine Pz 12 (some 18) (cond ba1_10 (.slice B m d) (undef)) rfl rfl ?ywg1_14 ?rwg1_14
 case ywg1_14 =>
  cases ba1_10
  · exact StepS.skip nP (by rfl)
  · skip
    refine StepS.read [] (by kernel_rfl) nP (by rfl) (fun L9 m9 w9 hSh hAt hDn hS => ?_)
    have hT : Below _ _ w9 := hS
    have x0 : w9.cell? ⟨w.heap.size, 1, none⟩ = some (.slice B m d) := (HB1.out.ca hT).cell 1
    clear hT hS
    go_simp
    try rfl
 try simp only [Act.put, sA, sZ, sS]
 refine Pz 13 (some 19) (cond ba1_10 (.int .i64 ((m : Int))) (undef)) rfl rfl (by cases ba1_10; exact StepS.skip nP rfl; exact StepS.pure nP rfl fun _ => by first | rfl | (go_simp; done) | (go_simp; rfl)) ?_
 try simp only [Act.put, sA, sZ, sS]
 refine Pz 14 (some 20) (cond ba1_10 (.bool (decide ((m : Int) ≤ 3))) (undef)) rfl rfl (by cases ba1_10; exact StepS.skip nP rfl; exact StepS.pure nP rfl fun _ => rfl) ?_
 try simp only [Act.put, sA, sZ, sS]
 refine Pz 15 (some 21) (.bool (ba1_10 && (decide ((m : Int) ≤ 3)))) rfl rfl ?ywg1_17 ?rwg1_17
 case ywg1_17 =>
  refine StepS.pure nP (by rfl) (fun w9 => ?_)
  cases ba1_10 <;> (first | rfl | (go_simp; done) | (go_simp; rfl))
 try simp only [Act.put, sA, sZ, sS]
 obtain ⟨ba1_16, hb9⟩ : ∃ zb : Bool, zb = (((decide ((0 : Int) < (n : Int))) && (decide ((n : Int) ≤ 3))) && (decide ((m : Int) ≤ 3))) := ⟨_, rfl⟩
 have HEba1_16 := Lib.hid hb9
 clear hb9
 refine Pz 16 (some 22) (.bool (ba1_16)) rfl rfl ?ywg1_18 ?rwg1_18
 case ywg1_18 =>
  refine StepS.pure nP (by rfl) (fun w9 => ?_)
  have e9 : (ba1_10 && (decide ((m : Int) ≤ 3))) = ba1_16 := by rw [HEba1_16.out, HEba1_10.out]
  rw [← e9]
  clear e9
  first | rfl | (go_simp; done) | (go_simp; rfl)
 try simp only [Act.put, sA, sZ, sS]
 refine Pz 17 (some 23) (cond ba1_16 (.pointer (some ⟨w.heap.size, 2, none⟩)) (undef)) rfl rfl (by cases ba1_16; exact StepS.skip nP rfl; exact StepS.pure nP rfl fun _ => rfl) ?_
 try simp only [Act.put, sA, sZ, sS]
 refine Pz 18 (some 24) (cond ba1_16 (.int .i64 (q.lim)) (undef)) rfl rfl ?ywg1_20 ?rwg1_20
 case ywg1_20 =>
  cases ba1_16
  · exact StepS.skip nP (by rfl)
  · skip
    refine StepS.read [] (by kernel_rfl) nP (by rfl) (fun L9 m9 w9 hSh hAt hDn hS => ?_)
    have hT : Below _ _ w9 := hS
    have x0 : w9.cell? ⟨w.heap.size, 2, none⟩ = some (.int .i64 (q.lim)) := (HB1.out.ca hT).cell 2
    clear hT hS
    go_simp
    try rfl
 try simp only [Act.put, sA, sZ, sS]
 refine Pz 19 (some 25) (cond ba1_16 (.bool (decide (q.lim = (-1 : Int)))) (undef)) rfl rfl (by cases ba1_16; exact StepS.skip nP rfl; exact StepS.pure nP rfl fun _ => rfl) ?_
 try simp only [Act.put, sA, sZ, sS]
 obtain ⟨ba1_20, hb9⟩ : ∃ zb : Bool, zb = (decide (q.lim = (-1 : Int))) := ⟨_, rfl⟩
 have HEba1_20 := Lib.hid hb9
 clear hb9
 refine Pz 20 (some 26) (cond ba1_16 (.bool (ba1_20)) (undef)) rfl rfl ?ywg1_22 ?rwg1_22
 case ywg1_22 =>
  cases ba1_16
  · exact StepS.skip nP (by rfl)
  · skip
    refine StepS.pure nP (by rfl) (fun w9 => ?_)
    have e9 : (decide (q.lim = (-1 : Int))) = ba1_20 := by rw [HEba1_20.out]
    rw [← e9]
    clear e9
    first | rfl | (go_simp; done) | (go_simp; rfl)
 try simp only [Act.put, sA, sZ, sS]
 refine Pz 21 (some 27) (cond ba1_16 (cond ba1_20 (undef) (.pointer (some ⟨w.heap.size, 2, none⟩))) (undef)) rfl rfl (by cases ba1_16; exact StepS.skip nP rfl; cases ba1_20; (exact StepS.pure nP rfl fun _ => rfl); exact StepS.skip nP rfl) ?_
 try simp only [Act.put, sA, sZ, sS]
 refine Pz 22 (some 28) (cond ba1_16 (cond ba1_20 (undef) (.int .i64 (q.lim))) (undef)) rfl rfl ?ywg1_24 ?rwg1_24
 case ywg1_24 =>
  cases ba1_16
  · exact StepS.skip nP (by rfl)
  · skip
    cases ba1_20
    · skip
      refine StepS.read [] (by kernel_rfl) nP (by rfl) (fun L9 m9 w9 hSh hAt hDn hS => ?_)
      have hT : Below _ _ w9 := hS
      have x0 : w9.cell? ⟨w.heap.size, 2, none⟩ = some (.int .i64 (q.lim)) := (HB1.out.ca hT).cell 2
      clear hT hS
      go_simp
      try rfl
    · exact StepS.skip nP (by rfl)
 try simp only [Act.put, sA, sZ, sS]
 refine Pz 23 (some 29) (cond ba1_16 (cond ba1_20 (undef) (.bool (numB q.lim))) (undef)) rfl rfl ?ywg1_25 ?rwg1_25
 case ywg1_25 =>
  cases ba1_16
  · exact StepS.skip nP (by rfl)
  · skip
    cases ba1_20
    · skip
      refine StepS.call ?fwg1_25 ?awg1_25 [] (by kernel_rfl) (by rfl) (fun w9 => ?hwg1_25) (fun L9 m9 w9 hSh hAt hDn hS => ?cwg1_25)
      case hwg1_25 => go_simp; refine ⟨?_, ?_⟩ <;> rfl
      case cwg1_25 =>
       have hT : Below _ _ w9 := hS
       refine (number_bl q.lim w9).mono ?_
       rintro e w8 ⟨rfl, q8⟩
       exact ⟨rfl, bl_ca hT q8⟩
    · exact StepS.skip nP (by rfl)
 try simp only [Act.put, sA, sZ, sS]
 refine Pz 24 (some 30) (cond ba1_16 (.bool (ba1_20 || (numB q.lim))) (undef)) rfl rfl ?ywg1_26 ?rwg1_26
 case ywg1_26 =>
  cases ba1_16
  · exact StepS.skip nP (by rfl)
  · skip
    refine StepS.pure nP (by rfl) (fun w9 => ?_)
    cases ba1_20 <;> (first | rfl | (go_simp; done) | (go_simp; rfl))
 try simp only [Act.put, sA, sZ, sS]
 obtain ⟨bS, hb9⟩ : ∃ zb : Bool, zb = ((((decide ((0 : Int) < (n : Int))) && (decide ((n : Int) ≤ 3))) && (decide ((m : Int) ≤ 3))) && ((decide (q.lim = (-1 : Int))) || (numB q.lim))) := ⟨_, rfl⟩
 have HEbS := Lib.hid hb9
 clear hb9
 refine Pz 25 (some 31) (.bool (bS)) rfl rfl ?ywg1_27 ?rwg1_27
 case ywg1_27 =>
  refine StepS.pure nP (by rfl) (fun w9 => ?_)
  have e9 : (ba1_16 && (ba1_20 || (numB q.lim))) = bS := by rw [HEbS.out, HEba1_16.out, HEba1_20.out]
  rw [← e9]
  clear e9
  cases ba1_16 <;> (first | rfl | (go_simp; done) | (go_simp; rfl))
 try simp only [Act.put, sA, sZ, sS]
 refine Pz 26 (some 3) (.bool (bS)) rfl rfl (by exact StepS.pure nP rfl fun _ => rfl) ?_
 try simp only [Act.put, sA, sZ, sS]
 refine Ps.done (by kernel_rfl) (fun wg1 hS => ?_) _
 try generalize (cond ba1_16 (cond ba1_20 (undef) (.pointer (some ⟨w.heap.size, 2, none⟩))) (undef) : Value) = zz29
 try generalize (cond ba1_16 (cond ba1_20 (undef) (.bool (numB q.lim))) (undef) : Value) = zz30
 try generalize (cond ba1_16 (cond ba1_20 (undef) (.int .i64 (q.lim))) (undef) : Value) = zz31
 try generalize (cond ba1_16 (.pointer (some ⟨w.heap.size, 2, none⟩)) (undef) : Value) = zz32
 try generalize (cond ba1_10 (.pointer (some ⟨w.heap.size, 1, none⟩)) (undef) : Value) = zz33
 try generalize (cond ba1_4 (.pointer (some ⟨w.heap.size, 0, none⟩)) (undef) : Value) = zz34
 try generalize (cond ba1_16 (.bool (decide (q.lim = (-1 : Int)))) (undef) : Value) = zz35
 try generalize (cond ba1_16 (.bool (ba1_20 || (numB q.lim))) (undef) : Value) = zz36
 try generalize (cond ba1_10 (.bool (decide ((m : Int) ≤ 3))) (undef) : Value) = zz37
 try generalize (cond ba1_4 (.bool (decide ((n : Int) ≤ 3))) (undef) : Value) = zz38
 try generalize (cond ba1_10 (.int .i64 ((m : Int))) (undef) : Value) = zz39
 try generalize (.bool (ba1_10 && (decide ((m : Int) ≤ 3))) : Value) = zz40
 try generalize (cond ba1_4 (.int .i64 ((n : Int))) (undef) : Value) = zz41
 try generalize (.bool (ba1_4 && (decide ((n : Int) ≤ 3))) : Value) = zz42
 try generalize (cond ba1_16 (.int .i64 (q.lim)) (undef) : Value) = zz43
 try generalize (cond ba1_16 (.bool (ba1_20)) (undef) : Value) = zz44
 try generalize (cond ba1_10 (.slice B m d) (undef) : Value) = zz45
 try generalize (cond ba1_4 (.slice A n c) (undef) : Value) = zz46
 try generalize (.bool (decide ((0 : Int) < (n : Int))) : Value) = zA1
 have HQ2 := Lib.hid (show Below w1.heap.size w1 wg1 from hS)
 clear hS
 obtain ⟨w2, rfl⟩ : ∃ x, x = wg1 := ⟨_, rfl⟩
 have HB2 := Lib.hid (HB1.out.ca HQ2.out)
 have HS2 := Lib.hid (Lay.rd_below HS1.out HQ2.out)
 have HK2 := Lib.hid (Lay.rd_below HK1.out HQ2.out)
 have HT2 := Lib.hid (HT1.out.below HQ2.out)
 have HQ02 := Lib.hid (bl_ca HQ1.out HQ2.out)
 clear HB1 HS1 HK1 HQ2 HQ1 HT1
 have yC := HB2.out.cell 1
 go_upto_block 0 with fail
 clear yC
 go_cut [3] (fun ok wx => ∃ b : Bool, ok = .bool b ∧ Hid (b = (bS && q.keys.all keyB)) ∧ Hid (Below w2.heap.size w2 wx))
 case first =>
  go_wp2_with fail
  go_loopg [35, 3] m (fun gk a ok wr => ∃ (i : Nat) (b : Bool), i + gk = m ∧ a = .int .i64 i ∧ ok = .bool b ∧ Hid (b = (bS && (q.keys.take i).all keyB)) ∧ Hid (Below w2.heap.size w2 wr))
  case atStart => exact ⟨0, bS, by omega, rfl, rfl, Lib.hid (by simp), Lib.hid (Below.refl _ _)⟩
  case round =>
   obtain ⟨i, b, hig, rfl, rfl, HBB, HQr⟩ := hrel
   by_cases hlt : i < m
   · have hi1 : (i : Int) < (m : Int) := by omega
     obtain ⟨ad, z, rfl, hax, sp⟩ := LQK_at (Lay.rd_below HK2.out HQr.out) hlt
     have x0 := sp.z0
     have x1 := sp.z1
     have x2 := sp.z2
     have HAX := Lib.hid (all_takeQ (p := keyB) hax)
     have HZM := Lib.hid (List.mem_of_getElem? hax)
     have HTP := Lib.hid (HP.out.2 z HZM.out)
     have HQz := Lib.hid (bl_al (Below.refl wr.heap.size wr) (.cells #[.string z.nm, .int .i64 z.num, .bool z.desc] 79))
     have HZ := Lib.hid (Blk.new wr 79 #[.string z.nm, .int .i64 z.num, .bool z.desc])
     clear sp hax
     go_upto_region 5 with fail
     clear x0 x1 x2
     generalize wr.alloc (.cells #[.string z.nm, .int .i64 z.num, .bool z.desc] 79) = wz at *
     have HQ0 := Lib.hid (bl_ca HQr.out HQz.out)
     have HTz := Lib.hid (HT2.out.below HQ0.out)
     refine wp_region_ps0 .text (S := fun _ _ w' => Below wz.heap.size wz w') (by kernel_rfl) ?spswg47 ?ppswg47
     case spswg47 =>
      exact (Below.refl wz.heap.size wz)
     refine Pz 0 (some 39) (.bool (b)) rfl rfl (by exact StepS.pure nP rfl fun _ => rfl) ?_
     try simp only [Act.put, sA, sZ, sS]
     obtain ⟨bq5_1, hb9⟩ : ∃ zb : Bool, zb = (b) := ⟨_, rfl⟩
     have HEbq5_1 := Lib.hid hb9
     clear hb9
     refine Pz 1 (some 40) (.bool (bq5_1)) rfl rfl ?ywg47_49 ?rwg47_49
     case ywg47_49 =>
      refine StepS.pure nP (by rfl) (fun w9 => ?_)
      have e9 : (b) = bq5_1 := by rw [HEbq5_1.out]
      rw [← e9]
      clear e9
      first | rfl | (go_simp; done) | (go_simp; rfl)
     try simp only [Act.put, sA, sZ, sS]
     refine Pz 2 (some 41) (cond bq5_1 (.pointer (some ⟨wr.heap.size, 0, none⟩)) (undef)) rfl rfl (by cases bq5_1; exact StepS.skip nP rfl; exact StepS.pure nP rfl fun _ => rfl) ?_
     try simp only [Act.put, sA, sZ, sS]
     refine Pz 3 (some 42) (cond bq5_1 (.string z.nm) (undef)) rfl rfl ?ywg47_51 ?rwg47_51
     case ywg47_51 =>
      cases bq5_1
      · exact StepS.skip nP (by rfl)
      · skip
        refine StepS.read [] (by kernel_rfl) nP (by rfl) (fun L9 m9 w9 hSh hAt hDn hS => ?_)
        have hT : Below _ _ w9 := hS
        have x0 : w9.cell? ⟨wr.heap.size, 0, none⟩ = some (.string z.nm) := (HZ.out.ca hT).cell 0
        clear hT hS
        go_simp
        try rfl
     try simp only [Act.put, sA, sZ, sS]
     refine Pz 4 (some 43) (cond bq5_1 (.bool ((z.nm.toList == (⟨#[]⟩ : ByteArray).toList))) (undef)) rfl rfl (by cases bq5_1; exact StepS.skip nP rfl; exact StepS.pure nP rfl fun _ => rfl) ?_
     try simp only [Act.put, sA, sZ, sS]
     obtain ⟨bq5_5, hb9⟩ : ∃ zb : Bool, zb = ((z.nm.toList == (⟨#[]⟩ : ByteArray).toList)) := ⟨_, rfl⟩
     have HEbq5_5 := Lib.hid hb9
     clear hb9
     refine Pz 5 (some 44) (cond bq5_1 (.bool (bq5_5)) (undef)) rfl rfl ?ywg47_53 ?rwg47_53
     case ywg47_53 =>
      cases bq5_1
      · exact StepS.skip nP (by rfl)
      · skip
        refine StepS.pure nP (by rfl) (fun w9 => ?_)
        have e9 : ((z.nm.toList == (⟨#[]⟩ : ByteArray).toList)) = bq5_5 := by rw [HEbq5_5.out]
        rw [← e9]
        clear e9
        first | rfl | (go_simp; done) | (go_simp; rfl)
     try simp only [Act.put, sA, sZ, sS]
     refine Pz 6 (some 45) (cond bq5_1 (cond bq5_5 (.pointer (some ⟨wr.heap.size, 1, none⟩)) (undef)) (undef)) rfl rfl (by cases bq5_1; exact StepS.skip nP rfl; cases bq5_5; exact StepS.skip nP rfl; exact StepS.pure nP rfl fun _ => rfl) ?_
     try simp only [Act.put, sA, sZ, sS]
     refine Pz 7 (some 46) (cond bq5_1 (cond bq5_5 (.int .i64 (z.num)) (undef)) (undef)) rfl rfl ?ywg47_55 ?rwg47_55
     case ywg47_55 =>
      cases bq5_1
      · exact StepS.skip nP (by rfl)
      · skip
        cases bq5_5
        · exact StepS.skip nP (by rfl)
        · skip
          refine StepS.read [] (by kernel_rfl) nP (by rfl) (fun L9 m9 w9 hSh hAt hDn hS => ?_)
          have hT : Below _ _ w9 := hS
          have x0 : w9.cell? ⟨wr.heap.size, 1, none⟩ = some (.int .i64 (z.num)) := (HZ.out.ca hT).cell 1
          clear hT hS
          go_simp
          try rfl
     try simp only [Act.put, sA, sZ, sS]
     refine Pz 8 (some 47) (cond bq5_1 (cond bq5_5 (.bool (numB z.num)) (undef)) (undef)) rfl rfl ?ywg47_56 ?rwg47_56
     case ywg47_56 =>
      cases bq5_1
      · exact StepS.skip nP (by rfl)
      · skip
        cases bq5_5
        · exact StepS.skip nP (by rfl)
        · skip
          refine StepS.call ?fwg47_56 ?awg47_56 [] (by kernel_rfl) (by rfl) (fun w9 => ?hwg47_56) (fun L9 m9 w9 hSh hAt hDn hS => ?cwg47_56)
          case hwg47_56 => go_simp; refine ⟨?_, ?_⟩ <;> rfl
          case cwg47_56 =>
           have hT : Below _ _ w9 := hS
           refine (number_bl z.num w9).mono ?_
           rintro e w8 ⟨rfl, q8⟩
           exact ⟨rfl, bl_ca hT q8⟩
     try simp only [Act.put, sA, sZ, sS]
     refine Pz 9 (some 48) (cond bq5_1 (.bool (bq5_5 && (numB z.num))) (undef)) rfl rfl ?ywg47_57 ?rwg47_57
     case ywg47_57 =>
      cases bq5_1
      · exact StepS.skip nP (by rfl)
      · skip
        refine StepS.pure nP (by rfl) (fun w9 => ?_)
        cases bq5_5 <;> (first | rfl | (go_simp; done) | (go_simp; rfl))
     try simp only [Act.put, sA, sZ, sS]
     obtain ⟨bq5_10, hb9⟩ : ∃ zb : Bool, zb = (((z.nm.toList == (⟨#[]⟩ : ByteArray).toList)) && (numB z.num)) := ⟨_, rfl⟩
     have HEbq5_10 := Lib.hid hb9
     clear hb9
     refine Pz 10 (some 49) (cond bq5_1 (.bool (bq5_10)) (undef)) rfl rfl ?ywg47_58 ?rwg47_58
     case ywg47_58 =>
      cases bq5_1
      · exact StepS.skip nP (by rfl)
      · skip
        refine StepS.pure nP (by rfl) (fun w9 => ?_)
        have e9 : (bq5_5 && (numB z.num)) = bq5_10 := by rw [HEbq5_10.out, HEbq5_5.out]
        rw [← e9]
        clear e9
        first | rfl | (go_simp; done) | (go_simp; rfl)
     try simp only [Act.put, sA, sZ, sS]
     refine Pz 11 (some 50) (cond bq5_1 (cond bq5_10 (undef) (.pointer (some ⟨wr.heap.size, 0, none⟩))) (undef)) rfl rfl (by cases bq5_1; exact StepS.skip nP rfl; cases bq5_10; (exact StepS.pure nP rfl fun _ => rfl); exact StepS.skip nP rfl) ?_
     try simp only [Act.put, sA, sZ, sS]
     refine Pz 12 (some 51) (cond bq5_1 (cond bq5_10 (undef) (.string z.nm)) (undef)) rfl rfl ?ywg47_60 ?rwg47_60
     case ywg47_60 =>
      cases bq5_1
      · exact StepS.skip nP (by rfl)
      · skip
        cases bq5_10
        · skip
          refine StepS.read [] (by kernel_rfl) nP (by rfl) (fun L9 m9 w9 hSh hAt hDn hS => ?_)
          have hT : Below _ _ w9 := hS
          have x0 : w9.cell? ⟨wr.heap.size, 0, none⟩ = some (.string z.nm) := (HZ.out.ca hT).cell 0
          clear hT hS
          go_simp
          try rfl
        · exact StepS.skip nP (by rfl)
     try simp only [Act.put, sA, sZ, sS]
     refine Pz 13 (some 52) (cond bq5_1 (cond bq5_10 (undef) (.bool (nameB z.nm))) (undef)) rfl rfl ?ywg47_61 ?rwg47_61
     case ywg47_61 =>
      cases bq5_1
      · exact StepS.skip nP (by rfl)
      · skip
        cases bq5_10
        · skip
          refine StepS.call ?fwg47_61 ?awg47_61 [] (by kernel_rfl) (by rfl) (fun w9 => ?hwg47_61) (fun L9 m9 w9 hSh hAt hDn hS => ?cwg47_61)
          case hwg47_61 => go_simp; refine ⟨?_, ?_⟩ <;> rfl
          case cwg47_61 =>
           have hT : Below _ _ w9 := hS
           refine (isname_any z.nm w9 (HTz.out.below hT) HTP.out).mono ?_
           rintro e w8 ⟨rfl, q8⟩
           exact ⟨rfl, bl_ca hT q8⟩
        · exact StepS.skip nP (by rfl)
     try simp only [Act.put, sA, sZ, sS]
     obtain ⟨bq5_14, hb9⟩ : ∃ zb : Bool, zb = (nameB z.nm) := ⟨_, rfl⟩
     have HEbq5_14 := Lib.hid hb9
     clear hb9
     refine Pz 14 (some 53) (cond bq5_1 (cond bq5_10 (undef) (.bool (bq5_14))) (undef)) rfl rfl ?ywg47_62 ?rwg47_62
     case ywg47_62 =>
      cases bq5_1
      · exact StepS.skip nP (by rfl)
      · skip
        cases bq5_10
        · skip
          refine StepS.pure nP (by rfl) (fun w9 => ?_)
          have e9 : (nameB z.nm) = bq5_14 := by rw [HEbq5_14.out]
          rw [← e9]
          clear e9
          first | rfl | (go_simp; done) | (go_simp; rfl)
        · exact StepS.skip nP (by rfl)
     try simp only [Act.put, sA, sZ, sS]
     refine Pz 15 (some 54) (cond bq5_1 (cond bq5_10 (undef) (cond bq5_14 (.pointer (some ⟨wr.heap.size, 1, none⟩)) (undef))) (undef)) rfl rfl (by cases bq5_1; exact StepS.skip nP rfl; cases bq5_10; (cases bq5_14; exact StepS.skip nP rfl; exact StepS.pure nP rfl fun _ => rfl); exact StepS.skip nP rfl) ?_
     try simp only [Act.put, sA, sZ, sS]
     refine Pz 16 (some 55) (cond bq5_1 (cond bq5_10 (undef) (cond bq5_14 (.int .i64 (z.num)) (undef))) (undef)) rfl rfl ?ywg47_64 ?rwg47_64
     case ywg47_64 =>
      cases bq5_1
      · exact StepS.skip nP (by rfl)
      · skip
        cases bq5_10
        · skip
          cases bq5_14
          · exact StepS.skip nP (by rfl)
          · skip
            refine StepS.read [] (by kernel_rfl) nP (by rfl) (fun L9 m9 w9 hSh hAt hDn hS => ?_)
            have hT : Below _ _ w9 := hS
            have x0 : w9.cell? ⟨wr.heap.size, 1, none⟩ = some (.int .i64 (z.num)) := (HZ.out.ca hT).cell 1
            clear hT hS
            go_simp
            try rfl
        · exact StepS.skip nP (by rfl)
     try simp only [Act.put, sA, sZ, sS]
     refine Pz 17 (some 56) (cond bq5_1 (cond bq5_10 (undef) (cond bq5_14 (.bool (decide (z.num = 0))) (undef))) (undef)) rfl rfl (by cases bq5_1; exact StepS.skip nP rfl; cases bq5_10; (cases bq5_14; exact StepS.skip nP rfl; exact StepS.pure nP rfl fun _ => rfl); exact StepS.skip nP rfl) ?_
     try simp only [Act.put, sA, sZ, sS]
     refine Pz 18 (some 57) (cond bq5_1 (cond bq5_10 (undef) (.bool (bq5_14 && (decide (z.num = 0))))) (undef)) rfl rfl ?ywg47_66 ?rwg47_66
     case ywg47_66 =>
      cases bq5_1
      · exact StepS.skip nP (by rfl)
      · skip
        cases bq5_10
        · skip
          refine StepS.pure nP (by rfl) (fun w9 => ?_)
          cases bq5_14 <;> (first | rfl | (go_simp; done) | (go_simp; rfl))
        · exact StepS.skip nP (by rfl)
     try simp only [Act.put, sA, sZ, sS]
     refine Pz 19 (some 58) (cond bq5_1 (.bool (bq5_10 || (bq5_14 && (decide (z.num = 0))))) (undef)) rfl rfl ?ywg47_67 ?rwg47_67
     case ywg47_67 =>
      cases bq5_1
      · exact StepS.skip nP (by rfl)
      · skip
        refine StepS.pure nP (by rfl) (fun w9 => ?_)
        cases bq5_10 <;> (first | rfl | (go_simp; done) | (go_simp; rfl))
     try simp only [Act.put, sA, sZ, sS]
     obtain ⟨bF, hb9⟩ : ∃ zb : Bool, zb = ((b) && ((((z.nm.toList == (⟨#[]⟩ : ByteArray).toList)) && (numB z.num)) || ((nameB z.nm) && (decide (z.num = 0))))) := ⟨_, rfl⟩
     have HEbF := Lib.hid hb9
     clear hb9
     refine Pz 20 (some 59) (.bool (bF)) rfl rfl ?ywg47_68 ?rwg47_68
     case ywg47_68 =>
      refine StepS.pure nP (by rfl) (fun w9 => ?_)
      have e9 : (bq5_1 && (bq5_10 || (bq5_14 && (decide (z.num = 0))))) = bF := by rw [HEbF.out, HEbq5_1.out, HEbq5_10.out, HEbq5_14.out]
      rw [← e9]
      clear e9
      cases bq5_1 <;> (first | rfl | (go_simp; done) | (go_simp; rfl))
     try simp only [Act.put, sA, sZ, sS]
     refine Pz 21 (some 3) (.bool (bF)) rfl rfl (by exact StepS.pure nP rfl fun _ => rfl) ?_
     try simp only [Act.put, sA, sZ, sS]
     refine Ps.done (by kernel_rfl) (fun wg47 hS => ?_) _
     try generalize (cond bq5_1 (cond bq5_10 (undef) (cond bq5_14 (.pointer (some ⟨wr.heap.size, 1, none⟩)) (undef))) (undef) : Value) = zz70
     try generalize (cond bq5_1 (cond bq5_10 (undef) (cond bq5_14 (.bool (decide (z.num = 0))) (undef))) (undef) : Value) = zz71
     try generalize (cond bq5_1 (cond bq5_10 (undef) (.pointer (some ⟨wr.heap.size, 0, none⟩))) (undef) : Value) = zz72
     try generalize (cond bq5_1 (cond bq5_10 (undef) (cond bq5_14 (.int .i64 (z.num)) (undef))) (undef) : Value) = zz73
     try generalize (cond bq5_1 (cond bq5_5 (.pointer (some ⟨wr.heap.size, 1, none⟩)) (undef)) (undef) : Value) = zz74
     try generalize (cond bq5_1 (cond bq5_10 (undef) (.bool (bq5_14 && (decide (z.num = 0))))) (undef) : Value) = zz75
     try generalize (cond bq5_1 (.bool ((z.nm.toList == (⟨#[]⟩ : ByteArray).toList))) (undef) : Value) = zz76
     try generalize (cond bq5_1 (.bool (bq5_10 || (bq5_14 && (decide (z.num = 0))))) (undef) : Value) = zz77
     try generalize (cond bq5_1 (cond bq5_10 (undef) (.bool (nameB z.nm))) (undef) : Value) = zz78
     try generalize (cond bq5_1 (cond bq5_5 (.bool (numB z.num)) (undef)) (undef) : Value) = zz79
     try generalize (cond bq5_1 (.pointer (some ⟨wr.heap.size, 0, none⟩)) (undef) : Value) = zz80
     try generalize (cond bq5_1 (cond bq5_5 (.int .i64 (z.num)) (undef)) (undef) : Value) = zz81
     try generalize (cond bq5_1 (cond bq5_10 (undef) (.bool (bq5_14))) (undef) : Value) = zz82
     try generalize (cond bq5_1 (cond bq5_10 (undef) (.string z.nm)) (undef) : Value) = zz83
     try generalize (cond bq5_1 (.bool (bq5_5 && (numB z.num))) (undef) : Value) = zz84
     try generalize (cond bq5_1 (.bool (bq5_10)) (undef) : Value) = zz85
     try generalize (cond bq5_1 (.bool (bq5_5)) (undef) : Value) = zz86
     try generalize (cond bq5_1 (.string z.nm) (undef) : Value) = zz87
     have HQf := Lib.hid (show Below wz.heap.size wz wg47 from hS)
     clear hS
     obtain ⟨wf, rfl⟩ : ∃ x, x = wg47 := ⟨_, rfl⟩
     have HST := Lib.hid (show bF = (bS && (q.keys.take (i + 1)).all keyB) from by
      rw [HAX.out, ← Bool.and_assoc, ← HBB.out]
      have h9 := HEbF.out
      rw [h9]
      unfold keyB
      rw [← empQ]
      rfl)
     go_wp2_with fail
     go_roundg (gk - 1)
     · exact ⟨i + 1, bF, by omega, by go_num, rfl, HST, Lib.hid (bl_ca HQ0.out HQf.out)⟩
     · omega
   · have hi1 : ¬ ((i : Int) < (m : Int)) := by omega
     have hie : i = m := by omega
     have HAe := Lib.hid (show b = (bS && q.keys.all keyB) from by have h9 := HBB.out; rw [List.take_of_length_le (by have := HLN.out.2; omega)] at h9; exact h9)
     clear hie HBB
     go_wp2_with fail
     go_meet
     exact ⟨b, rfl, HAe, HQr⟩
 case rest =>
 obtain ⟨oK, rfl, HoK, HQ3⟩ := hcut
 obtain ⟨w3, rfl⟩ : ∃ x, x = wc := ⟨_, rfl⟩
 have HB3 := Lib.hid (HB2.out.ca HQ3.out)
 have HS3 := Lib.hid (Lay.rd_below HS2.out HQ3.out)
 have HT3 := Lib.hid (HT2.out.below HQ3.out)
 have HQ03 := Lib.hid (bl_ca HQ02.out HQ3.out)
 clear HB2 HS2 HK2 HT2 HQ02 HQ3
 have HFF := Lib.hid (show rr = (oK && q.sels.all selB) from by
  rw [HRR.out, HoK.out, HEbS.out]
  unfold qryB numB
  rw [HLN.out.1, HLN.out.2, show decide ((0 : Int) < (n : Int)) = decide (0 < n) from decide_eq_decide.2 (by omega), show decide ((n : Int) ≤ 3) = decide (n ≤ 3) from decide_eq_decide.2 (by omega), show decide ((m : Int) ≤ 3) = decide (m ≤ 3) from decide_eq_decide.2 (by omega)]
  simp only [Bool.and_assoc])
 cases oK
 · have HRF := Lib.hid (show rr = false from by rw [HFF.out]; rfl)
   go_wp2_with fail
   go_ret
   exact ⟨ret_intQ (by rw [HNN.out, HRF.out]; rfl), HQ03.out⟩
 · have y0 := HB3.out.cell 0
   have HCS := Lib.hid (containsS F A n c q.sels 42 #[] (fun s => !selB s) w3 HS3.out (by omega) (fun s => QSp s ∧ s.items.length ≤ 1000 ∧ s.joins.length ≤ 1000 ∧ s.grp.length ≤ 1000) (fun s hs => ⟨HP.out.1 s hs, HL.out s hs⟩) (Go.Proofs.enters_of Tryz.func42 (by kernel_rfl) rfl)
    (fun s I0 i0 j0 J0 u0 v0 W0 a0 b0 H0 e0 f0 G0 p0 q0 W hW hp hr => check1_any F s I0 i0 j0 J0 u0 v0 W0 a0 b0 H0 e0 f0 G0 p0 q0 W hr hp.1 (by obtain ⟨_, h1, h2, h3⟩ := hp; have h4 := Lay.rd_len hr.1.1; have h5 := Lay.rd_len hr.2.1.1; have h6 := Lay.rd_len hr.2.2.2.2.1; omega) (HT3.out.below hW)))
   have HE := Lib.hid (show (q.sels.any fun s => !selB s) = !rr from by rw [HFF.out, Bool.true_and, List.not_all_eq_any_not])
   generalize (q.sels.any fun s => !selB s) = z at *
   go_wp2_with fail
   refine HCS.out.mono ?_
   rintro e w4 ⟨rfl, q4⟩
   have HQ4 := Lib.hid (bl_ca HQ03.out q4)
   clear q4 HCS
   cases z
   · have HRF := Lib.hid (show rr = true from by have := HE.out; revert this; cases rr <;> decide)
     go_wp2_with fail
     go_ret
     exact ⟨ret_intQ (by rw [HNN.out, HRF.out]; rfl), HQ4.out⟩
   · have HRF := Lib.hid (show rr = false from by have := HE.out; revert this; cases rr <;> decide)
     go_wp2_with fail
     go_ret
     exact ⟨ret_intQ (by rw [HNN.out, HRF.out]; rfl), HQ4.out⟩
end Go.Proofs.YtoaggmldekejoaaGreatDoor
