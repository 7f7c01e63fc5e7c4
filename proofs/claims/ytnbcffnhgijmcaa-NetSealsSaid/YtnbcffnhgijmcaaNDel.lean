/- slices.Delete of one parcel, in a row of the call's own. Conditions: the row is the call's own. -/
import Derived.Test.YtnbcffnhgijmcaaNSpoil2
import Derived.Deep.DeepAppendRoom
namespace Go.Proofs.Ytnbcffnhgijmcaa
open Go.RowKit
theorem ecells_take (es : List El) (i : Nat) : ecells (es.take i) = (ecells es).take (i * 5) := by
  induction es generalizing i with
  | nil => simp [ecells]
  | cons x l ih =>
    cases i with
    | zero => simp [ecells]
    | succ i =>
      show x.cells ++ ecells (l.take i) = (x.cells ++ ecells l).take ((i + 1) * 5)
      have hc : x.cells.length = 5 := rfl
      rw [ih, List.take_append, List.take_of_length_le (l := x.cells) (by omega), hc, show (i + 1) * 5 - 5 = i * 5 from by omega]
theorem Ro.prefix_ {w : World} {B g n c : Nat} {es : List El} (h : Ro w B (some ⟨g, 0, none⟩) n c es) {i : Nat} (hi : i ≤ n) : Ro w B (some ⟨g, 0, none⟩) i c (es.take i) := by
  have hl := h.len
  have e1 := ecells_take es i
  refine ⟨by rw [ecells_len, List.length_take, hl]; omega, ?_⟩
  rcases h.2 with ⟨h', _⟩ | ⟨g', cap, cur, h', hb, hg, hnc, hcm, hcs, ht⟩
  · simp at h'
  · simp only [Value.slice.injEq, Option.some.injEq, Addr.mk.injEq, and_true, true_and] at h'
    obtain ⟨rfl, rfl⟩ := h'
    refine .inr ⟨g, c, cur, rfl, hb, hg, by omega, hcm, hcs, ?_⟩
    rw [e1, ← ht, List.take_take]
    congr 1
    omega
theorem ecells_drop (es : List El) (j : Nat) : ecells (es.drop j) = (ecells es).drop (j * 5) := by
  induction es generalizing j with
  | nil => simp [ecells]
  | cons x l ih =>
    cases j with
    | zero => simp
    | succ j =>
      show ecells (l.drop j) = (x.cells ++ ecells l).drop ((j + 1) * 5)
      have hc : x.cells.length = 5 := rfl
      rw [ih, List.drop_append, List.drop_of_length_le (l := x.cells) (by omega), List.nil_append, hc, show (j + 1) * 5 - 5 = j * 5 from by omega]
/-- what lies behind the row is none of its business -/
theorem Ro.past {B g n c : Nat} {es : List El} : ∀ (vs : List Value) (o : Nat) {w : World}, Ro w B (some ⟨g, 0, none⟩) n c es → n * 5 ≤ o → Ro (w.setCells g o vs) B (some ⟨g, 0, none⟩) n c es
  | [], _, _, h, _ => h
  | v :: vs, o, w, h, ho => by
    have h1 := (World.ownsRow.stored h o v).1
    rw [List.set_eq_of_length_le (by rw [h.1]; exact ho)] at h1
    exact Ro.past vs (o + 1) h1 (by omega)
theorem Ro.there {w : World} {B g n c : Nat} {es : List El} (h : Ro w B (some ⟨g, 0, none⟩) n c es) {o k : Nat} (hk : o + k ≤ c * 5) : w.there g o k := by
  rcases h.2 with ⟨h', _⟩ | ⟨g', cap, cur, h', hb, hg, hnc, hcm, hcs, ht⟩
  · simp at h'
  · simp only [Value.slice.injEq, Option.some.injEq, Addr.mk.injEq, and_true, true_and] at h'
    obtain ⟨rfl, rfl⟩ := h'
    intro j hj
    refine ⟨?_, frozen_of_row w g (o + j) cur _ hg⟩
    rw [cell_of_row w g (o + j) cur _ (0, 0) hg, Array.getElem?_eq_getElem (by omega)]
    rfl
theorem cut_sub {α : Type} (l : List α) (i : Nat) : (l.take i ++ l.drop (i + 1)).Sublist l := by
  have h := (List.Sublist.refl (l.take i)).append (List.drop_sublist 1 (l.drop i))
  rwa [List.drop_drop, List.take_append_drop] at h
theorem mem_cut {α : Type} {l : List α} {i : Nat} {x : α} (h : x ∈ l.take i ++ l.drop (i + 1)) : x ∈ l := (cut_sub l i).subset h
def zeroP : List Value := [.int .u64 0, .int .i64 0, .int .i64 0, .slice none 0 0, .bool false]
/-- clear of one parcel's place -/
theorem clear_one {w : World} {g o c : Nat} (hth : w.there g o 5) (ty : TypeId) : (Builtin.clear_ #[24] ty #[.slice (some ⟨g, o, none⟩) 1 c]).run Try.prog w = .ok (.tuple #[]) (w.setCells g o zeroP) := by
  have hst := run_storeCells_cells (P := Try.prog) g o zeroP 0 w (fun j hj => by simpa using (hth j hj).1) (fun j hj => by simpa using (hth j hj).2) (by simp [zeroP, Value.oneCell'])
  simp only [Nat.add_zero] at hst
  have hz : (Builtin.zeroCells (Value.agg #[.int .u64 0, .int .i64 0, .int .i64 0, .slice none 0 0, .bool false]).cells 1).toList = zeroP := by kernel_rfl
  simp [Builtin.clear_, run_underlying Try.underlying24, hz, hst]
set_option maxRecDepth 100000 in
set_option maxHeartbeats 8000000 in
theorem del_any (g m c B i : Nat) (es : List El) (w : World) (hD : DO w B (some ⟨g, 0, none⟩) m c es) (hi : i < m) (hm : m ≤ 20000) :
    Calls Try.prog 54 #[.slice (some ⟨g, 0, none⟩) m c, .int .i64 i, .int .i64 (i + 1 : Nat)] w fun e w' => e = .returned (.slice (some ⟨g, 0, none⟩) (m - 1) c) ∧ DO w' B (some ⟨g, 0, none⟩) (m - 1) c (es.take i ++ es.drop (i + 1)) ∧ Kept w w' g w.heap.size := by
  have hmc : m ≤ c := by
    rcases hD.row.2 with ⟨h', _⟩ | ⟨g', cap, cur, h', _, _, hnc, _⟩
    · simp at h'
    · injection h' with _ _ e; omega
  have hi1 : (i : Int) < (m : Int) := by omega
  have hi2 : ((i + 1 : Nat) : Int) ≤ (m : Int) := by omega
  have hi3 : i ≠ i + 1 := by omega
  have hic : i ≤ c := by omega
  have hi4 : i + 1 ≤ m := by omega
  have hi5 : (i : Int) + 1 ≤ (m : Int) := by omega
  have hi6 : (0 : Int) ≤ (i : Int) + 1 := by omega
  obtain ⟨ad, hA, hsrc⟩ : ∃ ad : Addr, (if c = i + 1 then some (⟨g, 0, none⟩ : Addr) else some ⟨g, (i + 1) * 5, none⟩) = some ad ∧ ∀ w9, Below w.heap.size w w9 → ∀ j u, (ecells (es.drop (i + 1)))[j]? = some u → w9.cell? (ad.add j) = some u := by
    by_cases h : c = i + 1
    · refine ⟨⟨g, 0, none⟩, by rw [if_pos h], fun w9 _ j u hu => ?_⟩
      have hl := hD.len
      rw [List.drop_of_length_le (by omega)] at hu
      simp [ecells] at hu
    · refine ⟨⟨g, (i + 1) * 5, none⟩, by rw [if_neg h], fun w9 q j u hu => ?_⟩
      rw [ecells_drop, List.getElem?_drop] at hu
      have hj := (List.getElem?_eq_some_iff.1 hu).1
      rw [ecells_len, hD.len] at hj
      have := World.ownsRow.cellAt (hD.row.below q) ((i + 1) * 5 + j) hj
      rw [Addr.add_lit, this, hu]
  have HAPP := Lib.hid (show ∀ w9, Below w.heap.size w w9 → ∃ w', (Builtin.append_ #[24, 24] 24 #[.slice (some ⟨g, 0, none⟩) i c, .slice (some ad) (m - (i + 1)) (c - (i + 1))]).run Try.prog w9 = .ok (.slice (some ⟨g, 0, none⟩) (m - 1) c) w' ∧ Ro w' B (some ⟨g, 0, none⟩) (m - 1) c (es.take i ++ es.drop (i + 1)) ∧ w9.grownBy w' (some g) from fun w9 q => by
    obtain ⟨i0, hi0, hz0, hz1, hz2⟩ := info_parts Try.parcelInfo
    obtain ⟨w', h1, h2, h3⟩ := run_append_own_spare (P := Try.prog) (w := w9) B 24 24 29 i0 5 Try.underlying24 hi0 hz1 g i c _ ((hD.row.below q).prefix_ (Nat.le_of_lt hi)) ad (m - (i + 1)) (c - (i + 1)) (ecells (es.drop (i + 1))) (by rw [ecells_len, List.length_drop, hD.len]) (hsrc w9 q) (ecells_one _) (by omega)
    rw [show i + (m - (i + 1)) = m - 1 from by omega] at h1 h2
    exact ⟨w', h1, by unfold Ro; rw [ecells_append]; exact h2, h3⟩)
  have HD := Lib.hid hD
  clear hsrc hD
  go_enter Try.func54, Try.ntmps54
  go_wp2_with fail
  have hz : ecells (es.take i ++ es.drop (i + 1)) = (ecells es).take (i * 5) ++ (ecells es).drop ((i + 1) * 5) := by rw [ecells_append, ecells_take, ecells_drop]
  refine wp_region_ps (S := Seq1 6 (fun _ w' => Below w.heap.size w w') (fun _ w' => Ro w' B (some ⟨g, 0, none⟩) (m - 1) c (es.take i ++ es.drop (i + 1)) ∧ ∃ w5, Below w.heap.size w w5 ∧ w5.grownBy w' (some g))) (by kernel_rfl) ?spswq ?ppswq
  case spswq =>
    exact Seq1.start (by decide) (Below.refl _ _).drew
  refine Ps.step (i := 0) (d := some 20) (u := ?uwq_1) rfl rfl (by kernel_rfl) (by kernel_rfl) (by kernel_rfl) (by kernel_rfl) ?ywq_1 ?rwq_1
  case ywq_1 =>
    refine StepS.pure (Seq1.pass (by decide)) (by rfl) (fun w9 => ?_)
    go_simp
    try rfl
  try simp only [Act.put, List.setIfInBounds_toArray, List.set_cons_zero, List.set_cons_succ]
  refine Ps.step (i := 1) (d := some 21) (u := ?uwq_2) rfl rfl (by kernel_rfl) (by kernel_rfl) (by kernel_rfl) (by kernel_rfl) ?ywq_2 ?rwq_2
  case ywq_2 =>
    refine StepS.pure (Seq1.pass (by decide)) (by rfl) (fun w9 => ?_)
    go_simp
    try rfl
  try simp only [Act.put, List.setIfInBounds_toArray, List.set_cons_zero, List.set_cons_succ]
  refine Ps.step (i := 2) (d := some 22) (u := ?uwq_3) rfl rfl (by kernel_rfl) (by kernel_rfl) (by kernel_rfl) (by kernel_rfl) ?ywq_3 ?rwq_3
  case ywq_3 =>
    refine StepS.pure (Seq1.pass (by decide)) (by rfl) (fun w9 => ?_)
    go_simp
    try rfl
  try simp only [Act.put, List.setIfInBounds_toArray, List.set_cons_zero, List.set_cons_succ]
  refine Ps.step (i := 3) (d := some 23) (u := ?uwq_4) rfl rfl (by kernel_rfl) (by kernel_rfl) (by kernel_rfl) (by kernel_rfl) ?ywq_4 ?rwq_4
  case ywq_4 =>
    refine StepS.pure (Seq1.pass (by decide)) (by rfl) (fun w9 => ?_)
    go_simp
    try rfl
  try simp only [Act.put, List.setIfInBounds_toArray, List.set_cons_zero, List.set_cons_succ]
  refine Ps.step (i := 4) (d := some 24) (u := ?uwq_5) rfl rfl (by kernel_rfl) (by kernel_rfl) (by kernel_rfl) (by kernel_rfl) ?ywq_5 ?rwq_5
  case ywq_5 =>
    refine StepS.pure (Seq1.pass (by decide)) (by rfl) (fun w9 => ?_)
    go_simp
    try rfl
  try simp only [Act.put, List.setIfInBounds_toArray, List.set_cons_zero, List.set_cons_succ]
  refine Ps.step (i := 5) (d := some 25) (u := ?uwq_6) rfl rfl (by kernel_rfl) (by kernel_rfl) (by kernel_rfl) (by kernel_rfl) ?ywq_6 ?rwq_6
  case ywq_6 =>
    refine StepS.pure (Seq1.pass (by decide)) (by rfl) (fun w9 => ?_)
    go_simp
    try rfl
  try simp only [Act.put, List.setIfInBounds_toArray, List.set_cons_zero, List.set_cons_succ]
  refine Ps.step (i := 6) (d := some 26) (u := (.slice (some ⟨g, 0, none⟩) (m - 1) c)) rfl rfl (by kernel_rfl) (by kernel_rfl) (by kernel_rfl) (by kernel_rfl) ?ywq_7 ?rwq_7
  case ywq_7 =>
    refine StepS.act [] (by kernel_rfl) (by rfl) (fun L9 m9 w9 hSh hAt hDn hS => ?_)
    have hT := Seq1.at1 hDn hS
    obtain ⟨w', hrun, hown, hgr⟩ := HAPP.out w9 hT
    exact ⟨w', exec_append (.tmp 22) (.tmp 25) 24 rfl rfl rfl hrun, Seq1.set1 ⟨hown, w9, hT, hgr⟩⟩
  try simp only [Act.put, List.setIfInBounds_toArray, List.set_cons_zero, List.set_cons_succ]
  refine Ps.step (i := 7) (d := some 0) (u := ?uwq_8) rfl rfl (by kernel_rfl) (by kernel_rfl) (by kernel_rfl) (by kernel_rfl) ?ywq_8 ?rwq_8
  case ywq_8 =>
    refine StepS.pure (Seq1.pass (by decide)) (by rfl) (fun w9 => ?_)
    go_simp
    try rfl
  try simp only [Act.put, List.setIfInBounds_toArray, List.set_cons_zero, List.set_cons_succ]
  refine Ps.done (by kernel_rfl) (fun wq hS => ?_) _
  obtain ⟨hro, w5, hT, hgr⟩ := Seq1.fin (by rfl) hS
  clear hS
  have hm1 : (m : Int) - 1 = ((m - 1 : Nat) : Int) := by omega
  have hth := hro.there (o := (m - 1) * 5) (k := 5) (by omega)
  have hcl : (Builtin.clear_ #[24] 0 #[.slice (some ⟨g, (m - 1) * 5, none⟩) (m - (m - 1)) (c - (m - 1))]).run Try.prog wq = .ok (.tuple #[]) (wq.setCells g ((m - 1) * 5) zeroP) := by
    rw [show m - (m - 1) = 1 from by omega]
    exact clear_one hth 0
  have HRO := Lib.hid hro
  have HT := Lib.hid hT
  have HGR := Lib.hid hgr
  clear hro hT hgr hi5 hi6 hi1 hi2 hA
  clear hth
  go_wp2_with fail
  clear hcl
  have hg2 : wq.grownBy (wq.setCells g ((m - 1) * 5) zeroP) (some g) := grown_setCells _ _ _ (World.grownBy.refl wq _)
  have hgg := HGR.out.trans hg2
  have hd5 := HD.out.below HT.out
  have hrow := Ro.past zeroP ((m - 1) * 5) HRO.out (Nat.le_refl _)
  have hk := (Kept.of_below (b := g) HT.out (Nat.le_refl _)).trans (Kept.of_grown (B := w.heap.size) hgg HT.out.size (.inl rfl))
  go_ret
  exact ⟨rfl, ⟨hrow, fun x hx => by
    have hx2 := mem_cut hx
    exact (hd5.own x hx2).kept hgg (own_ne_ro (hd5.own x hx2) hd5.row), HD.out.apart.sublist (cut_sub _ _)⟩, hk⟩
end Go.Proofs.Ytnbcffnhgijmcaa
