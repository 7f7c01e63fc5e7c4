/- The writer's selects. Conditions: a select that may be; a writer that has only been written. -/
import Derived.Test.YtoaggmldekejoaaGreatDoorPkQ19
import Derived.Deep.CutBlock
import Derived.Deep.DeepCutAuto
import Derived.RegionTactic
namespace Go.Proofs.YtoaggmldekejoaaGreatDoor
open Go.RowKit
theorem SeqN.call0 {ks : List Nat} {B : Nat → (Nat → Value) → World → Prop} {L : Array Bool} {m : Nat → Value} {w' : World} {i : Nat} {md : Region.Mode} {ops : Array Oper} (hsh : Shut md ops L) (hun : Dn L i = false) (hp : (ks.all fun x => reach md ops ops.size x i) = true) (h0 : (ks.all fun k => k != i) = true) (h : B 0 m w') : SeqN ks B (L.setIfInBounds i true) m w' := by
 unfold SeqN
 rw [cntD_ne (fun hi => by have := List.all_eq_true.1 h0 i hi; simp at this), cntD_none (post_no hsh hun hp)]
 exact h
theorem infoST : (Tryz.prog.info? 9).map (fun i => (i.zero, i.size, i.bytes)) = some (some (.string ⟨#[]⟩), 1, 16) := by kernel_rfl
theorem run_app1 {w : World} {D g n c : Nat} {A : Option Addr} {l : List ByteArray} {s : ByteArray} (ty : TypeId) (hown : w.ownsRow D 9 1 (.slice A n c) n (l.map Value.string)) (hB : Blk w g 9 #[.string s]) (hn : n ≤ 1000) (hD : D ≤ w.heap.size) :
 ∃ X x w', (Builtin.append_ #[110, 110] ty #[.slice A n c, .slice (some ⟨g, 0, none⟩) 1 1]).run Tryz.prog w = .ok (.slice X (n + 1) x) w' ∧ w'.ownsRow D 9 1 (.slice X (n + 1) x) (n + 1) ((l ++ [s]).map Value.string) ∧ Below D w w' := by
 obtain ⟨i0, hi, hz0, hz1, hz2⟩ := info_parts infoST
 obtain ⟨v', w', hrun, hown', hg, _⟩ := run_append_own (P := Tryz.prog) (w := w) D 110 ty 9 i0 (.string ⟨#[]⟩) 1 16 Tryz.underlying110 hi hz0 hz1 hz2 rfl (by decide) (.slice A n c) n _ hown ⟨g, 0, none⟩ 1 1 [.string s] rfl
  (by
   intro j u hj
   match j, hj with
   | 0, hj => simp at hj; subst hj; exact hB.cell 0) (by intro u hu; simp at hu; subst hu; rfl) (by unfold maxLen; omega) (by omega) hD
 have hq := (Below.refl D w).grown hg hD (fun k hk => (hown.lt k hk).1)
 rw [show l.map Value.string ++ [.string s] = (l ++ [s]).map Value.string from by rw [List.map_append]; rfl] at hown'
 rcases hown'.2 with ⟨_, h0⟩ | ⟨g2, cap, cur, hv, _⟩
 · omega
 · subst hv
   exact ⟨_, _, w', hrun, hown', hq⟩
theorem wpList_app1 {ops : Array Oper} {rest : List Oper} {o : Oper} {a : Act} {w : World} {Q : Exit → Act → World → Prop} {D g n c : Nat} {A : Option Addr} {l : List ByteArray} {s : ByteArray} (hgd : o.guard = none) (sl x : Operand) (ho : o.op = .call { callee := .builtin .append, args := #[sl, x], argTypes := #[110, 110] })
 (hs : a.eval sl = .slice A n c) (hx : a.eval x = .slice (some ⟨g, 0, none⟩) 1 1) (hown : w.ownsRow D 9 1 (.slice A n c) n (l.map Value.string)) (hB : Blk w g 9 #[.string s]) (hn : n ≤ 1000) (hD : D ≤ w.heap.size)
 (h : ∀ X x w', w'.ownsRow D 9 1 (.slice X (n + 1) x) (n + 1) ((l ++ [s]).map Value.string) → Below D w w' → wpList Tryz.prog ops Q rest (a.put o.dst (.slice X (n + 1) x)) w') : wpList Tryz.prog ops Q (o :: rest) a w := by
 refine wpList_plain hgd fun K hK => ?_
 obtain ⟨X, y, w', hr, h2, h3⟩ := run_app1 o.type hown hB hn hD
 unfold Oper.wp execOp
 simp only [ho, resolve, invoke, builtin, Sem.run_bind, Sem.run_pure, Result.andThen_ok, List.map_toArray, List.map_cons, List.map_nil, hs, hx, hr]
 exact hK _ _ (h X y w' h2 h3)
/-! ### lengths -/
theorem onP_len (acc w : List UInt8) (t : List Nd) : acc.length ≤ (onP acc w t).length := by
 unfold onP; split
 · exact Nat.le_refl _
 · exact wordsP_len _ _
theorem rowP_len (acc w : List UInt8) (l : List (List UInt8)) : acc.length ≤ (rowP acc w l).length := by
 unfold rowP; split
 · exact Nat.le_refl _
 · exact wordsP_len _ _
theorem joinP_len (acc : List UInt8) (j : QJ) : acc.length ≤ (joinP acc j).length := Nat.le_trans (wordsP_len _ _) (onP_len _ _ _)
theorem joinsP_len : ∀ (l : List QJ) (acc : List UInt8), acc.length ≤ (l.foldl joinP acc).length
 | [], _ => Nat.le_refl _
 | j :: l, acc => Nat.le_trans (joinP_len acc j) (joinsP_len l (joinP acc j))
theorem joinsP_take (l : List QJ) (i : Nat) (acc : List UInt8) : ((l.take i).foldl joinP acc).length ≤ (l.foldl joinP acc).length := by
 have h : l.foldl joinP acc = (l.drop i).foldl joinP ((l.take i).foldl joinP acc) := by rw [← List.foldl_append, List.take_append_drop]
 rw [h]; exact joinsP_len _ _
theorem joinsP_step {l : List QJ} {i : Nat} {j : QJ} {acc : List UInt8} (h : l[i]? = some j) : (l.take (i + 1)).foldl joinP acc = joinP ((l.take i).foldl joinP acc) j := by
 rw [List.take_add_one, h, List.foldl_append]; rfl
def RgT (t : List Nd) : Prop := ∀ x ∈ t, RgP x.p
def RgS (s : QS) : Prop := (∀ x ∈ s.items, RgT x.t) ∧ (∀ x ∈ s.joins, RgT x.on) ∧ RgT s.wh ∧ RgT s.hv
theorem ok_small {t : List Nd} (h : okF t = true) : t.length ≤ 300 := by
 obtain ⟨u, hu⟩ := okF_ex h
 have h1 := tree_len hu
 have h2 := (treeF_some.1 hu).2.2.1
 omega
theorem none_small {t : List Nd} (h : noneB t = true) : t.length ≤ 300 := by
 unfold noneB at h
 rw [Bool.or_eq_true, decide_eq_true_eq] at h
 rcases h with h | h
 · omega
 · exact ok_small h
theorem prN_len {t : List Nd} (h : okF t = true) (hr : RgT t) : (prN t).length ≤ 36000 := by
 obtain ⟨u, hu⟩ := okF_ex h
 have hx := treeF_some.1 hu
 have h1 : rgT u := rg_all u 0 (by rw [← hx.1]; exact hr)
 have h2 := pr_len u hx.2.1 h1
 have h3 := hx.2.2.1
 unfold prN
 rw [hu]
 show (prT u).length ≤ _
 omega
theorem may_size {s : ByteArray} (h : mayB s = true) : s.size ≤ 16 := by
 unfold mayB at h
 rw [Bool.or_eq_true, decide_eq_true_eq] at h
 rcases h with h | h
 · rw [ba_e h]; decide
 · exact name_len h
def itS (z : QI) : ByteArray := bS (itemP z)
def nmS (z : QN) : ByteArray := bS (nmP z)
theorem itS_map (l : List QI) : (l.map itS).map (·.data.toList) = l.map itemP := by rw [List.map_map]; rfl
theorem nmS_map (l : List QN) : (l.map nmS).map (·.data.toList) = l.map nmP := by rw [List.map_map]; rfl
theorem take_mapS {α : Type} {f : α → ByteArray} {l : List α} {i : Nat} {x : α} (h : l[i]? = some x) : ((l.take i).map f) ++ [f x] = (l.take (i + 1)).map f := by
 rw [List.take_add_one, h, List.map_append]; rfl
set_option maxRecDepth 100000 in
set_option maxHeartbeats 32000000 in
theorem wselects_any (w0 : World) (b : Nat) (F : Nat → Prop) (bs : List UInt8) (x : QS) (I0 : Option Addr) (i0 j0 : Nat) (J0 : Option Addr) (u0 v0 : Nat) (W0 : Option Addr) (a0 b0 : Nat) (H0 : Option Addr) (e0 f0 : Nat) (G0 : Option Addr) (p0 q0 : Nat) (w : World) (qo : Below w0.heap.size w0 w) (h : WB w0.heap.size b bs w) (hT : Tab w0) (hR : RdS F w0 x I0 i0 j0 J0 u0 v0 W0 a0 b0 H0 e0 f0 G0 p0 q0) (hk : selB x = true) (hG : RgS x) (hlen : (selP bs x).length ≤ 140737488355328) :
 Calls Tryz.prog 55 #[.pointer (some ⟨b, 0, none⟩), .agg (x.cells I0 i0 j0 J0 u0 v0 W0 a0 b0 H0 e0 f0 G0 p0 q0)] w fun e w' => e = .returned (.tuple #[]) ∧ (WB w0.heap.size b (selP bs x) w' ∧ Below w0.heap.size w w' ∧ Kept uw w w') := by
 have HK := Lib.hid hk
 unfold selB selShape at hk
 simp only [Bool.and_eq_true, decide_eq_true_eq] at hk
 obtain ⟨⟨hst9, hki, hkj, hkg⟩, ⟨hf1, hf2⟩, hit, hjo, hgr, hwh, hhv⟩ := hk
 have HSEL := Lib.hid (And.intro (List.all_eq_true.1 hit) (And.intro (List.all_eq_true.1 hjo) (And.intro (List.all_eq_true.1 hgr) (And.intro hwh hhv))))
 have hi9 : i0 ≤ 6 := by have := Lay.rd_len hR.1.1; omega
 have hu9 : u0 ≤ 2 := by have := Lay.rd_len hR.2.1.1; omega
 have hp9 : p0 ≤ 3 := by have := Lay.rd_len hR.2.2.2.2.1; omega
 have HLI := Lib.hid (Lay.rd_len hR.1.1)
 have HLJ := Lib.hid (Lay.rd_len hR.2.1.1)
 have HLG := Lib.hid (Lay.rd_len hR.2.2.2.2.1)
 have ha9 : a0 ≤ 100000 := by have := Lay.rd_len hR.2.2.1.1; have := none_small hwh; omega
 have he9 : e0 ≤ 100000 := by have := Lay.rd_len hR.2.2.2.1.1; have := none_small hhv; omega
 obtain ⟨A0, hA0⟩ : ∃ a, a = wordsP bs [wSELECT, whenP x.dis wDISTINCT, whenP x.star [42]] := ⟨_, rfl⟩
 obtain ⟨A1, hA1⟩ : ∃ a, a = rowP A0 [] (x.items.map itemP) := ⟨_, rfl⟩
 obtain ⟨A2, hA2⟩ : ∃ a, a = wordsP A1 [wFROM, x.ftb.data.toList, x.fas.data.toList] := ⟨_, rfl⟩
 obtain ⟨A3, hA3⟩ : ∃ a, a = x.joins.foldl joinP A2 := ⟨_, rfl⟩
 obtain ⟨A4, hA4⟩ : ∃ a, a = onP A3 wWHERE x.wh := ⟨_, rfl⟩
 obtain ⟨A5, hA5⟩ : ∃ a, a = rowP A4 wGROUPBY (x.grp.map nmP) := ⟨_, rfl⟩
 obtain ⟨A6, hA6⟩ : ∃ a, a = onP A5 wHAVING x.hv := ⟨_, rfl⟩
 have hS6 : selP bs x = A6 := by rw [hA6, hA5, hA4, hA3, hA2, hA1, hA0]; rfl
 rw [hS6] at hlen ⊢
 have h6 := hlen
 have h5 : A5.length ≤ 140737488355328 := Nat.le_trans (by rw [hA6]; exact onP_len _ _ _) h6
 have h4 : A4.length ≤ 140737488355328 := Nat.le_trans (by rw [hA5]; exact rowP_len _ _ _) h5
 have h3 : A3.length ≤ 140737488355328 := Nat.le_trans (by rw [hA4]; exact onP_len _ _ _) h4
 have h2 : A2.length ≤ 140737488355328 := Nat.le_trans (by rw [hA3]; exact joinsP_len _ _) h3
 have h1 : A1.length ≤ 140737488355328 := Nat.le_trans (by rw [hA2]; exact wordsP_len _ _) h2
 have h0 : A0.length ≤ 140737488355328 := Nat.le_trans (by rw [hA1]; exact rowP_len _ _ _) h1
 have HA := Lib.hid (And.intro hA0 (And.intro hA1 (And.intro hA2 (And.intro hA3 (And.intro hA4 (And.intro hA5 hA6))))))
 have HLN := Lib.hid (And.intro h0 (And.intro h1 (And.intro h2 (And.intro h3 (And.intro h4 (And.intro h5 h6))))))
 clear hS6 hlen h0 h1 h2 h3 h4 h5 h6 hA0 hA1 hA2 hA3 hA4 hA5 hA6 hki hkj hkg hit hjo hgr hwh hhv hf1 hf2 hst9
 have HRS := Lib.hid hR
 have HTB := Lib.hid hT
 have HGS := Lib.hid hG
 clear hR hT hG
 have HQE1 := Lib.hid (show Below w0.heap.size w (w.alloc (.cells (x.cells I0 i0 j0 J0 u0 v0 W0 a0 b0 H0 e0 f0 G0 p0 q0) 76)) from bB_al (Below.refl _ _) qo.size _)
 have HQ01 := Lib.hid (bl_ca qo (bl_al (Below.refl w.heap.size w) (.cells (x.cells I0 i0 j0 J0 u0 v0 W0 a0 b0 H0 e0 f0 G0 p0 q0) 76)))
 have HW1 := Lib.hid (h.keep (bl_al (Below.refl w.heap.size w) (.cells (x.cells I0 i0 j0 J0 u0 v0 W0 a0 b0 H0 e0 f0 G0 p0 q0) 76)))
 have HK1 := Lib.hid (Kept.of_below (X := uw) (bl_al (Below.refl w.heap.size w) (.cells (x.cells I0 i0 j0 J0 u0 v0 W0 a0 b0 H0 e0 f0 G0 p0 q0) 76)))
 have HB1 := Lib.hid (Blk.new w 76 (x.cells I0 i0 j0 J0 u0 v0 W0 a0 b0 H0 e0 f0 G0 p0 q0))
 have HS1 := Lib.hid HQ01.out.size
 clear h qo
 obtain ⟨d1, hd1⟩ : ∃ d : ByteArray, d = (if x.dis then ⟨#[68, 73, 83, 84, 73, 78, 67, 84]⟩ else ⟨#[]⟩) := ⟨_, rfl⟩
 obtain ⟨d2, hd2⟩ : ∃ d : ByteArray, d = (if x.star then ⟨#[42]⟩ else ⟨#[]⟩) := ⟨_, rfl⟩
 have HD1 := Lib.hid hd1
 have HD2 := Lib.hid hd2
 have HE1 := Lib.hid (show d1.data.toList = whenP x.dis wDISTINCT from by rw [hd1]; cases x.dis <;> rfl)
 have HE2 := Lib.hid (show d2.data.toList = whenP x.star [42] from by rw [hd2]; cases x.star <;> rfl)
 obtain ⟨ks, hks⟩ : ∃ d : ByteArray, d = ⟨#[83, 69, 76, 69, 67, 84]⟩ := ⟨_, rfl⟩
 have HKS := Lib.hid hks
 have HX0 := Lib.hid (show wordsP bs ([(⟨#[83, 69, 76, 69, 67, 84]⟩ : ByteArray), d1, d2].map (·.data.toList)) = A0 from by rw [HA.out.1]; show wordsP bs [_, d1.data.toList, d2.data.toList] = _; rw [HE1.out, HE2.out]; rfl)
 have HL0 := Lib.hid (show (wordsP bs ([(⟨#[83, 69, 76, 69, 67, 84]⟩ : ByteArray), d1, d2].map (·.data.toList))).length ≤ 140737488355328 from by rw [HX0.out]; exact HLN.out.1)
 clear hd1 hd2 hks
 go_enter Tryz.func55, Tryz.ntmps55
 go_upto_region 1 with fail
 generalize w.alloc (.cells (x.cells I0 i0 j0 J0 u0 v0 W0 a0 b0 H0 e0 f0 G0 p0 q0) 76) = w1 at *
 refine wp_region_ps (S := SeqN [7, 8] (fun zst mm w' => match zst with | 0 => Below w1.heap.size w1 w' | 1 => Below w1.heap.size w1 w' ∧ ∃ gb, mm 7 = .slice (some ⟨gb, 0, none⟩) 3 3 ∧ Blk w' gb 9 #[.string (⟨#[83, 69, 76, 69, 67, 84]⟩ : ByteArray), .string d1, .string d2] | _ => WB w0.heap.size b (wordsP bs ([(⟨#[83, 69, 76, 69, 67, 84]⟩ : ByteArray), d1, d2].map (·.data.toList))) w' ∧ Below w0.heap.size w1 w' ∧ Kept uw w1 w')) (by kernel_rfl) ?spswg1 ?ppswg1
 case spswg1 =>
  exact SeqN.start (by decide) (Below.refl _ _).drew
 refine Pz 0 (some 12) (.pointer (some ⟨b, 0, none⟩)) rfl rfl (by exact StepS.pure (SeqN.pass (by decide)) rfl fun _ => rfl) ?_
 try simp only [Act.put, sA, sZ, sS]
 refine Pz 1 (some 13) (.pointer (some ⟨w.heap.size, 0, none⟩)) rfl rfl (by exact StepS.pure (SeqN.pass (by decide)) rfl fun _ => rfl) ?_
 try simp only [Act.put, sA, sZ, sS]
 refine Pz 2 (some 14) (.bool (x.dis)) rfl rfl ?ywg1_4 ?rwg1_4
 case ywg1_4 =>
  refine StepS.read [] (by kernel_rfl) (SeqN.pass (by decide)) (by rfl) (fun L9 m9 w9 hSh hAt hDn hS => ?_)
  have hT : Below w1.heap.size w1 w9 := SeqN.le [] [7, 8] (T := fun w9 => Below w1.heap.size w1 w9) (post_no hSh hDn (by kernel_rfl)) (fun z _ _ hz h => by match z, hz, h with | 0, _, h => exact h | _ + 1, hz, _ => exact absurd hz (by simp)) hS
  have x0 : w9.cell? ⟨w.heap.size, 0, none⟩ = some (.bool (x.dis)) := (HB1.out.ca hT).cell 0
  clear hT hS
  go_simp
  try rfl
 try simp only [Act.put, sA, sZ, sS]
 refine Pz 3 (some 15) (.string d1) rfl rfl ?ywg1_5 ?rwg1_5
 case ywg1_5 =>
  refine StepS.call ?fwg1_5 ?awg1_5 [] (by kernel_rfl) (by rfl) (fun w9 => ?hwg1_5) (fun L9 m9 w9 hSh hAt hDn hS => ?cwg1_5)
  case hwg1_5 => go_simp; refine ⟨?_, ?_⟩ <;> rfl
  case cwg1_5 =>
   have hT : Below w1.heap.size w1 w9 := SeqN.le [] [7, 8] (T := fun w9 => Below w1.heap.size w1 w9) (post_no hSh hDn (by kernel_rfl)) (fun z _ _ hz h => by match z, hz, h with | 0, _, h => exact h | _ + 1, hz, _ => exact absurd hz (by simp)) hS
   refine (when_any x.dis (⟨#[68, 73, 83, 84, 73, 78, 67, 84]⟩ : ByteArray) w9).mono ?_
   rintro e w8 ⟨rfl, rfl⟩
   exact ⟨by rw [HD1.out], SeqN.pass (by decide) _ _ _ hS⟩
 try simp only [Act.put, sA, sZ, sS]
 refine Pz 4 (some 16) (.pointer (some ⟨w.heap.size, 1, none⟩)) rfl rfl (by exact StepS.pure (SeqN.pass (by decide)) rfl fun _ => rfl) ?_
 try simp only [Act.put, sA, sZ, sS]
 refine Pz 5 (some 17) (.bool (x.star)) rfl rfl ?ywg1_7 ?rwg1_7
 case ywg1_7 =>
  refine StepS.read [] (by kernel_rfl) (SeqN.pass (by decide)) (by rfl) (fun L9 m9 w9 hSh hAt hDn hS => ?_)
  have hT : Below w1.heap.size w1 w9 := SeqN.le [] [7, 8] (T := fun w9 => Below w1.heap.size w1 w9) (post_no hSh hDn (by kernel_rfl)) (fun z _ _ hz h => by match z, hz, h with | 0, _, h => exact h | _ + 1, hz, _ => exact absurd hz (by simp)) hS
  have x0 : w9.cell? ⟨w.heap.size, 1, none⟩ = some (.bool (x.star)) := (HB1.out.ca hT).cell 1
  clear hT hS
  go_simp
  try rfl
 try simp only [Act.put, sA, sZ, sS]
 refine Pz 6 (some 18) (.string d2) rfl rfl ?ywg1_8 ?rwg1_8
 case ywg1_8 =>
  refine StepS.call ?fwg1_8 ?awg1_8 [] (by kernel_rfl) (by rfl) (fun w9 => ?hwg1_8) (fun L9 m9 w9 hSh hAt hDn hS => ?cwg1_8)
  case hwg1_8 => go_simp; refine ⟨?_, ?_⟩ <;> rfl
  case cwg1_8 =>
   have hT : Below w1.heap.size w1 w9 := SeqN.le [] [7, 8] (T := fun w9 => Below w1.heap.size w1 w9) (post_no hSh hDn (by kernel_rfl)) (fun z _ _ hz h => by match z, hz, h with | 0, _, h => exact h | _ + 1, hz, _ => exact absurd hz (by simp)) hS
   refine (when_any x.star (⟨#[42]⟩ : ByteArray) w9).mono ?_
   rintro e w8 ⟨rfl, rfl⟩
   exact ⟨by rw [HD2.out], SeqN.pass (by decide) _ _ _ hS⟩
 try simp only [Act.put, sA, sZ, sS]
 refine Ps.one (k := 7) (d := some 19) rfl rfl (by kernel_rfl) (TurnS.value (V := fun v => ∃ gb, v = .slice (some ⟨gb, 0, none⟩) 3 3) [] (by kernel_rfl) (by rfl) (fun L9 m9 w9 hSh hAt hDn hS => ?cwg1_9)) (fun v7 hVv7 => ?rwg1_9)
 case cwg1_9 =>
  have hT := SeqN.at_ (m0 := m9) (m1 := m9) [] [8] hSh (fun d hd => by cases hd) hDn (by kernel_rfl) hS
  refine ⟨.slice (some ⟨w9.heap.size, 0, none⟩) 3 3, w9.alloc (.cells #[.string (⟨#[83, 69, 76, 69, 67, 84]⟩ : ByteArray), .string d1, .string d2] 9), ?_, ⟨_, rfl⟩, SeqN.set_ (m0 := m9) (m1 := m9) [] [8] hSh (fun d hd => by cases hd) hDn (by kernel_rfl) (by decide) (by decide) ⟨bl_al hT _, _, upd_same _ _ _, Blk.new _ _ _⟩⟩
  clear hT hS
  go_simp
 try simp only [Act.put, sA, sZ, sS]
 obtain ⟨gb, rfl⟩ := hVv7
 refine Pz 8 (some 20) (.tuple #[]) rfl rfl ?ywg1_10 ?rwg1_10
 case ywg1_10 =>
  refine StepS.call ?fwg1_10 ?awg1_10 [7] (by kernel_rfl) (by rfl) (fun w9 => ?hwg1_10) (fun L9 m9 w9 hSh hAt hDn hS => ?cwg1_10)
  case hwg1_10 => go_simp; refine ⟨?_, ?_⟩ <;> rfl
  case cwg1_10 =>
   obtain ⟨hT, gb2, hv, hblk⟩ := SeqN.at_ [7] [] hSh hAt hDn (by kernel_rfl) hS
   obtain rfl : gb = gb2 := by have h9 : Value.slice (some ⟨gb, 0, none⟩) 3 3 = .slice (some ⟨gb2, 0, none⟩) 3 3 := (hAt 7 (by simp)).2.symm.trans hv; simpa using h9
   refine (words_any w0.heap.size b gb bs [(⟨#[83, 69, 76, 69, 67, 84]⟩ : ByteArray), d1, d2] w9 (HW1.out.keep hT) hblk (by simp) (Nat.le_trans HS1.out hT.size) HL0.out).mono ?_
   rintro e w8 ⟨rfl, h8, q8, k8⟩
   exact ⟨rfl, SeqN.set_ [7] [] hSh hAt hDn (by kernel_rfl) (by decide) (by decide) ⟨h8, (hT.mono HS1.out).trans q8, (Kept.of_below hT).trans k8⟩⟩
 try simp only [Act.put, sA, sZ, sS]
 refine Ps.done (by kernel_rfl) (fun wg1 hS => ?_) _
 obtain ⟨hF, qF, kF⟩ := SeqN.fin (by rfl) hS
 clear hS
 rw [HX0.out] at hF
 have HW2 := Lib.hid hF
 have HQE2 := Lib.hid (HQE1.out.trans qF)
 have HQ02 := Lib.hid (HQ01.out.trans qF)
 have HK2 := Lib.hid (HK1.out.trans kF)
 have HB2 := Lib.hid (kF.blk HB1.out (by decide))
 have HS2 := Lib.hid HQ02.out.size
 clear hF qF kF HW1 HQE1 HQ01 HK1 HB1 HS1 HD1 HD2 HE1 HE2 HKS HX0 HL0
 obtain ⟨w8, rfl⟩ : ∃ x, x = wg1 := ⟨_, rfl⟩
 generalize hw2 : w8 = w2 at *
 clear hw2
 have yC := HB2.out.cell 2
 go_upto_block 0 with fail
 clear yC
 go_cut [4] (fun ok wx => ∃ X c, ok = .slice X i0 c ∧ Hid (wx.ownsRow w2.heap.size 9 1 (.slice X i0 c) i0 ((x.items.map itS).map Value.string)) ∧ Hid (Below w2.heap.size w2 wx))
 case first =>
  go_wp2_with fail
  go_loopg [24, 4] i0 (fun gk a ok wr => ∃ (i : Nat) (X : Option Addr) (c : Nat), i + gk = i0 ∧ a = .int .i64 i ∧ ok = .slice X i c ∧ Hid (wr.ownsRow w2.heap.size 9 1 (.slice X i c) i (((x.items.take i).map itS).map Value.string)) ∧ Hid (Below w2.heap.size w2 wr))
  case atStart => exact ⟨0, none, 0, by omega, rfl, rfl, Lib.hid ⟨rfl, .inl ⟨rfl, rfl⟩⟩, Lib.hid (Below.refl _ _)⟩
  case round =>
   obtain ⟨i, X, cX, hig, rfl, rfl, HOr, HQr⟩ := hrel
   by_cases hlt : i < i0
   · have hi1 : (i : Int) < (i0 : Int) := by omega
     have HQ0r := Lib.hid (bl_ca HQ02.out HQr.out)
     obtain ⟨ad, z, T0, t0, u9, rfl, hax, sp⟩ := LQI_at (Lay.rd_below HRS.out.1.1 HQ0r.out) hlt
     have x0 := sp.z0
     have x1 := sp.z1
     have HSPz := Lib.hid sp
     have HAX := Lib.hid hax
     have HZM := Lib.hid (List.mem_of_getElem? hax)
     have HQz := Lib.hid (bl_al (Below.refl wr.heap.size wr) (.cells #[.slice T0 t0 u9, .string z.as_] 82))
     have HZ := Lib.hid (Blk.new wr 82 #[.slice T0 t0 u9, .string z.as_])
     clear sp hax
     go_upto_region 6 with fail
     clear x0 x1
     have HOz := Lib.hid (ownsRow_below HOr.out HQz.out)
     generalize wr.alloc (.cells #[.slice T0 t0 u9, .string z.as_] 82) = wz at *
     have HQ0z := Lib.hid (bl_ca HQ0r.out HQz.out)
     have HQ2z := Lib.hid (bl_ca HQr.out HQz.out)
     have HTz := Lib.hid (HTB.out.below HQ0z.out)
     have HIB := HSEL.out.1 z HZM.out
     unfold itemB at HIB
     rw [Bool.and_eq_true] at HIB
     obtain ⟨tz, htz⟩ := okF_ex HIB.1
     have HTZ := Lib.hid htz
     have HRG := Lib.hid (HGS.out.1 z HZM.out)
     have HPL := Lib.hid (show (bS (prT tz)).data.toList = prN z.t from by unfold prN; rw [htz])
     have HTN := Lib.hid (Lay.rd_below HSPz.out.r0 HQz.out)
     have ht9 : t0 ≤ 100000 := by have := Lay.rd_len HSPz.out.r0; have := ok_small HIB.1; omega
     have hsz1 : (bS (prT tz)).size ≤ 36000 := by have h9 := prN_len HIB.1 HRG.out; rw [← HPL.out] at h9; exact h9
     have hsz3 : (prT tz).length ≤ 36000 := by have h9 := prN_len HIB.1 HRG.out; rw [← HPL.out] at h9; exact h9
     have hsz2 := may_size HIB.2
     clear HIB htz
     obtain ⟨bA, hbA⟩ : ∃ bA, bA = (!(z.as_.toList == (⟨#[]⟩ : ByteArray).toList)) := ⟨_, rfl⟩
     obtain ⟨pa, hpa⟩ : ∃ p : ByteArray, p = (⟨#[32, 65, 83, 32]⟩ : ByteArray) ++ z.as_ := ⟨_, rfl⟩
     obtain ⟨da, hda⟩ : ∃ d : ByteArray, d = (if bA then pa else ⟨#[]⟩) := ⟨_, rfl⟩
     have hpz : pa.size ≤ 20 := by rw [hpa, ByteArray.size_append]; have h9 : (⟨#[32, 65, 83, 32]⟩ : ByteArray).size = 4 := rfl; omega
     have hdz : da.size ≤ 20 := by rw [hda]; split; exact hpz; exact Nat.zero_le _
     have hit : bS (prT tz) ++ da = itS z := by
      refine bS_of ?_
      rw [ByteArray.data_append, Array.toList_append, HPL.out]
      unfold itemP
      refine congrArg _ ?_
      rw [hda, hbA, toList_data, toList_data]
      by_cases h9 : z.as_.data.toList = []
      · rw [h9]; rfl
      · rw [if_neg h9, if_pos (by simpa using h9), hpa, ByteArray.data_append, Array.toList_append]; rfl
     have HBA := Lib.hid hbA
     have HPA := Lib.hid hpa
     have HDA := Lib.hid hda
     have HIT := Lib.hid hit
     clear hbA hpa hda hit
     have HZA := Lib.hid (take_mapS (f := itS) HAX.out)
     have HD9 := Lib.hid (Nat.le_trans HQr.out.size HQz.out.size)
     refine wp_region_ps (S := SeqN [12, 13] (fun zst mm w' => match zst with | 0 => Below wz.heap.size wz w' | 1 => Below wz.heap.size wz w' ∧ ∃ gb, mm 12 = .slice (some ⟨gb, 0, none⟩) 1 1 ∧ Blk w' gb 9 #[.string (itS z)] | _ => ∃ Y y, mm 13 = .slice Y (i + 1) y ∧ w'.ownsRow w2.heap.size 9 1 (.slice Y (i + 1) y) (i + 1) ((((x.items.take i).map itS) ++ [itS z]).map Value.string) ∧ Below w2.heap.size w2 w')) (by kernel_rfl) ?spswg11 ?ppswg11
     case spswg11 =>
      exact SeqN.start (by decide) (Below.refl _ _).drew
     refine Pz 0 (some 28) (.slice X i cX) rfl rfl (by exact StepS.pure (SeqN.pass (by decide)) rfl fun _ => rfl) ?_
     try simp only [Act.put, sA, sZ, sS]
     refine Pz 1 (some 29) (.pointer (some ⟨wr.heap.size, 0, none⟩)) rfl rfl (by exact StepS.pure (SeqN.pass (by decide)) rfl fun _ => rfl) ?_
     try simp only [Act.put, sA, sZ, sS]
     refine Pz 2 (some 30) (.agg #[.slice T0 t0 u9]) rfl rfl ?ywg11_14 ?rwg11_14
     case ywg11_14 =>
      refine StepS.read [] (by kernel_rfl) (SeqN.pass (by decide)) (by rfl) (fun L9 m9 w9 hSh hAt hDn hS => ?_)
      have hT : Below wz.heap.size wz w9 := SeqN.le [] [12, 13] (T := fun w9 => Below wz.heap.size wz w9) (post_no hSh hDn (by kernel_rfl)) (fun z _ _ hz h => by match z, hz, h with | 0, _, h => exact h | _ + 1, hz, _ => exact absurd hz (by simp)) hS
      have x0 : w9.cell? ⟨wr.heap.size, 0, none⟩ = some (.slice T0 t0 u9) := (HZ.out.ca hT).cell 0
      clear hT hS
      go_simp
      try rfl
     try simp only [Act.put, sA, sZ, sS]
     refine Pz 3 (some 31) (.string ((bS (prT tz)))) rfl rfl ?ywg11_15 ?rwg11_15
     case ywg11_15 =>
      refine StepS.call ?fwg11_15 ?awg11_15 [] (by kernel_rfl) (by rfl) (fun w9 => ?hwg11_15) (fun L9 m9 w9 hSh hAt hDn hS => ?cwg11_15)
      case hwg11_15 => go_simp; refine ⟨?_, ?_⟩ <;> rfl
      case cwg11_15 =>
       have hT : Below wz.heap.size wz w9 := SeqN.le [] [12, 13] (T := fun w9 => Below wz.heap.size wz w9) (post_no hSh hDn (by kernel_rfl)) (fun z _ _ hz h => by match z, hz, h with | 0, _, h => exact h | _ + 1, hz, _ => exact absurd hz (by simp)) hS
       refine (tree_any F z.t tz T0 t0 u9 w9 (Lay.rd_below HTN.out hT) ht9 (HTz.out.below hT) HTZ.out HRG.out).mono ?_
       rintro e w8 ⟨rfl, q8⟩
       exact ⟨rfl, SeqN.call0 hSh hDn (by kernel_rfl) (by decide) (bl_ca hT q8)⟩
     try simp only [Act.put, sA, sZ, sS]
     refine Pz 4 (some 32) (.pointer (some ⟨wr.heap.size, 1, none⟩)) rfl rfl (by exact StepS.pure (SeqN.pass (by decide)) rfl fun _ => rfl) ?_
     try simp only [Act.put, sA, sZ, sS]
     refine Pz 5 (some 33) (.string z.as_) rfl rfl ?ywg11_17 ?rwg11_17
     case ywg11_17 =>
      refine StepS.read [] (by kernel_rfl) (SeqN.pass (by decide)) (by rfl) (fun L9 m9 w9 hSh hAt hDn hS => ?_)
      have hT : Below wz.heap.size wz w9 := SeqN.le [] [12, 13] (T := fun w9 => Below wz.heap.size wz w9) (post_no hSh hDn (by kernel_rfl)) (fun z _ _ hz h => by match z, hz, h with | 0, _, h => exact h | _ + 1, hz, _ => exact absurd hz (by simp)) hS
      have x0 : w9.cell? ⟨wr.heap.size, 1, none⟩ = some (.string z.as_) := (HZ.out.ca hT).cell 1
      clear hT hS
      go_simp
      try rfl
     try simp only [Act.put, sA, sZ, sS]
     refine Pz 6 (some 34) (.bool (bA)) rfl rfl ?ywg11_18 ?rwg11_18
     case ywg11_18 =>
      refine StepS.pure (SeqN.pass (by decide)) (by rfl) (fun w9 => ?_)
      rw [HBA.out]
      first | rfl | (go_simp; done) | (go_simp; omega) | (go_simp; rfl)
     try simp only [Act.put, sA, sZ, sS]
     refine Pz 7 (some 35) (.pointer (some ⟨wr.heap.size, 1, none⟩)) rfl rfl (by exact StepS.pure (SeqN.pass (by decide)) rfl fun _ => rfl) ?_
     try simp only [Act.put, sA, sZ, sS]
     refine Pz 8 (some 36) (.string z.as_) rfl rfl ?ywg11_20 ?rwg11_20
     case ywg11_20 =>
      refine StepS.read [] (by kernel_rfl) (SeqN.pass (by decide)) (by rfl) (fun L9 m9 w9 hSh hAt hDn hS => ?_)
      have hT : Below wz.heap.size wz w9 := SeqN.le [] [12, 13] (T := fun w9 => Below wz.heap.size wz w9) (post_no hSh hDn (by kernel_rfl)) (fun z _ _ hz h => by match z, hz, h with | 0, _, h => exact h | _ + 1, hz, _ => exact absurd hz (by simp)) hS
      have x0 : w9.cell? ⟨wr.heap.size, 1, none⟩ = some (.string z.as_) := (HZ.out.ca hT).cell 1
      clear hT hS
      go_simp
      try rfl
     try simp only [Act.put, sA, sZ, sS]
     refine Pz 9 (some 37) (.string pa) rfl rfl ?ywg11_21 ?rwg11_21
     case ywg11_21 =>
      refine StepS.pure (SeqN.pass (by decide)) (by rfl) (fun w9 => ?_)
      rw [HPA.out]
      first | rfl | (go_simp; done) | (go_simp; omega) | (go_simp; rfl)
     try simp only [Act.put, sA, sZ, sS]
     refine Pz 10 (some 38) (.string da) rfl rfl ?ywg11_22 ?rwg11_22
     case ywg11_22 =>
      refine StepS.call ?fwg11_22 ?awg11_22 [] (by kernel_rfl) (by rfl) (fun w9 => ?hwg11_22) (fun L9 m9 w9 hSh hAt hDn hS => ?cwg11_22)
      case hwg11_22 => go_simp; refine ⟨?_, ?_⟩ <;> rfl
      case cwg11_22 =>
       have hT : Below wz.heap.size wz w9 := SeqN.le [] [12, 13] (T := fun w9 => Below wz.heap.size wz w9) (post_no hSh hDn (by kernel_rfl)) (fun z _ _ hz h => by match z, hz, h with | 0, _, h => exact h | _ + 1, hz, _ => exact absurd hz (by simp)) hS
       refine (when_any bA pa w9).mono ?_
       rintro e w8 ⟨rfl, rfl⟩
       exact ⟨by rw [HDA.out], SeqN.pass (by decide) _ _ _ hS⟩
     try simp only [Act.put, sA, sZ, sS]
     refine Pz 11 (some 39) (.string ((itS z))) rfl rfl ?ywg11_23 ?rwg11_23
     case ywg11_23 =>
      refine StepS.pure (SeqN.pass (by decide)) (by rfl) (fun w9 => ?_)
      rw [← HIT.out]
      first | rfl | (go_simp; done) | (go_simp; omega) | (go_simp; rfl)
     try simp only [Act.put, sA, sZ, sS]
     refine Ps.one (k := 12) (d := some 40) rfl rfl (by kernel_rfl) (TurnS.value (V := fun v => ∃ gb, v = .slice (some ⟨gb, 0, none⟩) 1 1) [] (by kernel_rfl) (by rfl) (fun L9 m9 w9 hSh hAt hDn hS => ?cwg11_24)) (fun v12 hVv12 => ?rwg11_24)
     case cwg11_24 =>
      have hT := SeqN.at_ (m0 := m9) (m1 := m9) [] [13] hSh (fun d hd => by cases hd) hDn (by kernel_rfl) hS
      refine ⟨.slice (some ⟨w9.heap.size, 0, none⟩) 1 1, w9.alloc (.cells #[.string (itS z)] 9), ?_, ⟨_, rfl⟩, SeqN.set_ (m0 := m9) (m1 := m9) [] [13] hSh (fun d hd => by cases hd) hDn (by kernel_rfl) (by decide) (by decide) ⟨bl_al hT _, _, upd_same _ _ _, Blk.new _ _ _⟩⟩
      clear hT hS
      go_simp
     try simp only [Act.put, sA, sZ, sS]
     obtain ⟨gb, rfl⟩ := hVv12
     refine Ps.one (k := 13) (d := some 41) rfl rfl (by kernel_rfl) (TurnS.value (V := fun v => ∃ Y y, v = .slice Y (i + 1) y) [12] (by kernel_rfl) (by rfl) (fun L9 m9 w9 hSh hAt hDn hS => ?cwg11_25)) (fun v13 hVv13 => ?rwg11_25)
     case cwg11_25 =>
      obtain ⟨hT, gb2, hv, hblk⟩ := SeqN.at_ [12] [] hSh hAt hDn (by kernel_rfl) hS
      obtain rfl : gb = gb2 := by have h9 : Value.slice (some ⟨gb, 0, none⟩) 1 1 = .slice (some ⟨gb2, 0, none⟩) 1 1 := (hAt 12 (by simp)).2.symm.trans hv; simpa using h9
      obtain ⟨Y, y, w8, hrun, hy, hq⟩ := run_app1 _ (ownsRow_below HOz.out hT) hblk (by omega) (Nat.le_trans HD9.out hT.size)
      exact ⟨_, w8, exec_append (.tmp 28) (.tmp 40) 110 rfl rfl rfl hrun, ⟨Y, y, rfl⟩, SeqN.set_ [12] [] hSh hAt hDn (by kernel_rfl) (by decide) (by decide) ⟨Y, y, upd_same _ _ _, hy, (bl_ca HQ2z.out hT).trans hq⟩⟩
     try simp only [Act.put, sA, sZ, sS]
     obtain ⟨Y, y, rfl⟩ := hVv13
     refine Pz 14 (some 4) (.slice Y (i + 1) y) rfl rfl (by exact StepS.pure (SeqN.pass (by decide)) rfl fun _ => rfl) ?_
     try simp only [Act.put, sA, sZ, sS]
     refine Ps.done (by kernel_rfl) (fun wg11 hS => ?_) _
     obtain ⟨Y2, y2, hv, hy, hq⟩ := SeqN.fin (by rfl) hS
     clear hS
     obtain ⟨rfl, rfl⟩ : Y = Y2 ∧ y = y2 := by have h9 : Value.slice Y (i + 1) y = .slice Y2 (i + 1) y2 := hv; simpa using h9
     clear hv
     rw [HZA.out] at hy
     have HY := Lib.hid hy
     have HQY := Lib.hid hq
     clear hy hq
     obtain ⟨w8, rfl⟩ : ∃ x, x = wg11 := ⟨_, rfl⟩
     go_wp2_with fail
     go_roundg (gk - 1)
     · exact ⟨i + 1, Y, y, by omega, by go_num, rfl, HY, HQY⟩
     · omega
   · have hi1 : ¬ ((i : Int) < (i0 : Int)) := by omega
     have hie : i = i0 := by omega
     subst hie
     have HOe := Lib.hid (show wr.ownsRow w2.heap.size 9 1 (.slice X i cX) i ((x.items.map itS).map Value.string) from by have h9 := HOr.out; rwa [List.take_of_length_le (by rw [HLI.out]; exact Nat.le_refl _)] at h9)
     go_wp2_with fail
     go_meet
     exact ⟨X, cX, rfl, HOe, HQr⟩
 case rest =>
 obtain ⟨XI, cI, rfl, HOI, HQ23⟩ := hcut
 obtain ⟨w3, rfl⟩ : ∃ x, x = wc := ⟨_, rfl⟩
 have HW3 := Lib.hid (HW2.out.keep HQ23.out)
 have HB3 := Lib.hid (HB2.out.ca HQ23.out)
 have HQ03 := Lib.hid (bl_ca HQ02.out HQ23.out)
 have HQE3 := Lib.hid (bB_ca HQE2.out HS2.out HQ23.out)
 have HK3 := Lib.hid (HK2.out.trans (Kept.of_below HQ23.out))
 have HS3 := Lib.hid HQ03.out.size
 clear HW2 HB2 HQ02 HQE2 HK2 HS2
 go_wp2_with fail
 refine (row_any w0.heap.size b w2.heap.size A0 ⟨#[]⟩ (x.items.map itS) XI i0 cI w3 HW3.out HOI.out (by rw [List.length_map, HLI.out]; omega) HS3.out (by rw [itS_map]; show (rowP A0 [] _).length ≤ _; rw [← HA.out.2.1]; exact HLN.out.2.1)).mono ?_
 rintro e w4 ⟨rfl, h4, q4, k4⟩
 rw [itS_map] at h4
 have HW4 := Lib.hid (show WB w0.heap.size b A1 w4 from by rw [HA.out.2.1]; exact h4)
 have HQE4 := Lib.hid (HQE3.out.trans q4)
 have HQ04 := Lib.hid (HQ03.out.trans q4)
 have HK4 := Lib.hid (HK3.out.trans k4)
 have HB4 := Lib.hid ((k4).blk HB3.out (by decide))
 have HS4 := Lib.hid HQ04.out.size
 clear HW3 HQE3 HQ03 HK3 HB3 HS3 h4 q4 k4 HOI HQ23
 have y3 := HB4.out.cell 3
 have y4 := HB4.out.cell 4
 have HBN := Lib.hid (Blk.new w4 9 #[.string (⟨#[70, 82, 79, 77]⟩ : ByteArray), .string x.ftb, .string x.fas])
 have HQn := Lib.hid (bl_al (Below.refl w4.heap.size w4) (.cells #[.string (⟨#[70, 82, 79, 77]⟩ : ByteArray), .string x.ftb, .string x.fas] 9))
 have HX2 := Lib.hid (show A2 = wordsP A1 ([(⟨#[70, 82, 79, 77]⟩ : ByteArray), x.ftb, x.fas].map (·.data.toList)) from HA.out.2.2.1)
 have HWC := Lib.hid (words_any w0.heap.size b w4.heap.size A1 [(⟨#[70, 82, 79, 77]⟩ : ByteArray), x.ftb, x.fas] _ (HW4.out.keep HQn.out) HBN.out (by simp) (Nat.le_trans HS4.out HQn.out.size) (by rw [← HX2.out]; exact HLN.out.2.2.1))
 go_wp2_with fail
 refine HWC.out.mono ?_
 rintro e w5 ⟨rfl, h5, q5, k5⟩
 have q5 := (HQn.out.mono HS4.out).trans q5
 have k5 := (Kept.of_below (X := uw) HQn.out).trans k5
 have HW5 := Lib.hid (show WB w0.heap.size b A2 w5 from by rw [HX2.out]; exact h5)
 have HQE5 := Lib.hid (HQE4.out.trans q5)
 have HQ05 := Lib.hid (HQ04.out.trans q5)
 have HK5 := Lib.hid (HK4.out.trans k5)
 have HB5 := Lib.hid ((k5).blk HB4.out (by decide))
 have HS5 := Lib.hid HQ05.out.size
 clear HW4 HQE4 HQ04 HK4 HB4 HS4 y3 y4 HBN HQn HX2 HWC h5 q5 k5
 have yC := HB5.out.cell 5
 go_upto_block 2 with fail
 clear yC
 go_cut [] (fun wx => Hid (WB w0.heap.size b A3 wx) ∧ Hid (Below w0.heap.size w5 wx) ∧ Hid (Kept uw w5 wx))
 case first =>
  go_wp2_with fail
  go_loopg [58] u0 (fun gk a wr => ∃ i : Nat, i + gk = u0 ∧ a = .int .i64 i ∧ Hid (WB w0.heap.size b ((x.joins.take i).foldl joinP A2) wr) ∧ Hid (Below w0.heap.size w5 wr) ∧ Hid (Kept uw w5 wr))
  case atStart => exact ⟨0, by omega, rfl, HW5, Lib.hid (Below.refl _ _), Lib.hid (Kept.refl _ _)⟩
  case round =>
   obtain ⟨i, hig, rfl, HWr, HQr, HKr⟩ := hrel
   by_cases hlt : i < u0
   · have hi1 : (i : Int) < (u0 : Int) := by omega
     have HQ0r := Lib.hid (HQ05.out.trans HQr.out)
     obtain ⟨ad, z, T0, t0, u9, rfl, hax, sp⟩ := LQJ_at HRS.out.2.1.1 hlt
     have x0 := ce sp.z0 HQ0r.out
     have x1 := ce sp.z1 HQ0r.out
     have x2 := ce sp.z2 HQ0r.out
     have x3 := ce sp.z3 HQ0r.out
     have HSPz := Lib.hid sp
     have HST := Lib.hid (joinsP_step (acc := A2) hax)
     have HSL := Lib.hid (Nat.le_trans (joinsP_take x.joins (i + 1) A2) (by rw [← HA.out.2.2.2.1]; exact HLN.out.2.2.2.1))
     have HZM := Lib.hid (List.mem_of_getElem? hax)
     have HQz := Lib.hid (bl_al (Below.refl wr.heap.size wr) (.cells #[.bool z.left, .string z.tb, .string z.as_, .slice T0 t0 u9] 85))
     have HZ := Lib.hid (Blk.new wr 85 #[.bool z.left, .string z.tb, .string z.as_, .slice T0 t0 u9])
     clear sp hax
     go_upto_region 13 with fail
     clear x0 x1 x2 x3
     generalize wr.alloc (.cells #[.bool z.left, .string z.tb, .string z.as_, .slice T0 t0 u9] 85) = wz at *
     have HWz := Lib.hid (HWr.out.keep HQz.out)
     have HQ0z := Lib.hid (bl_ca HQ0r.out HQz.out)
     have HQ5z := Lib.hid (bB_ca HQr.out HQ0r.out.size HQz.out)
     have HK5z := Lib.hid (HKr.out.trans (Kept.of_below HQz.out))
     have HSz := Lib.hid HQ0z.out.size
     have HJB := Lib.hid (HSEL.out.2.1 z HZM.out)
     have HRG := Lib.hid (HGS.out.2.1 z HZM.out)
     obtain ⟨aI, haI⟩ : ∃ a, a = (x.joins.take i).foldl joinP A2 := ⟨_, rfl⟩
     rw [← haI] at HWz HST
     clear HWr HQr HKr HQ0r HQz haI
     obtain ⟨aJ, haJ⟩ : ∃ a, a = (x.joins.take (i + 1)).foldl joinP A2 := ⟨_, rfl⟩
     rw [← haJ] at HSL HST
     have HAJ := Lib.hid haJ
     obtain ⟨aM, haM⟩ : ∃ a, a = wordsP aI [whenP z.left wLEFT, wJOIN, z.tb.data.toList, z.as_.data.toList] := ⟨_, rfl⟩
     have HST2 := Lib.hid (show aJ = onP aM wON z.on from by rw [HST.out, haM]; rfl)
     have HML := Lib.hid (show aM.length ≤ 140737488355328 from Nat.le_trans (by rw [HST2.out]; exact onP_len _ _ _) HSL.out)
     obtain ⟨dl, hdl⟩ : ∃ d : ByteArray, d = (if z.left then ⟨#[76, 69, 70, 84]⟩ else ⟨#[]⟩) := ⟨_, rfl⟩
     have HDL := Lib.hid hdl
     have HEL := Lib.hid (show dl.data.toList = whenP z.left wLEFT from by rw [hdl]; cases z.left <;> rfl)
     have HXM := Lib.hid (show wordsP aI ([dl, (⟨#[74, 79, 73, 78]⟩ : ByteArray), z.tb, z.as_].map (·.data.toList)) = aM from by rw [haM]; show wordsP aI [dl.data.toList, _, _, _] = _; rw [HEL.out]; rfl)
     have HLM := Lib.hid (show (wordsP aI ([dl, (⟨#[74, 79, 73, 78]⟩ : ByteArray), z.tb, z.as_].map (·.data.toList))).length ≤ 140737488355328 from by rw [HXM.out]; exact HML.out)
     clear haJ haM hdl HST HEL
     refine wp_region_ps (S := SeqN [10, 11] (fun zst mm w' => match zst with | 0 => Below wz.heap.size wz w' | 1 => Below wz.heap.size wz w' ∧ ∃ gb, mm 10 = .slice (some ⟨gb, 0, none⟩) 4 4 ∧ Blk w' gb 9 #[.string dl, .string (⟨#[74, 79, 73, 78]⟩ : ByteArray), .string z.tb, .string z.as_] | _ => WB w0.heap.size b (wordsP aI ([dl, (⟨#[74, 79, 73, 78]⟩ : ByteArray), z.tb, z.as_].map (·.data.toList))) w' ∧ Below w0.heap.size wz w' ∧ Kept uw wz w')) (by kernel_rfl) ?spswg27 ?ppswg27
     case spswg27 =>
      exact SeqN.start (by decide) (Below.refl _ _).drew
     refine Pz 0 (some 62) (.pointer (some ⟨b, 0, none⟩)) rfl rfl (by exact StepS.pure (SeqN.pass (by decide)) rfl fun _ => rfl) ?_
     try simp only [Act.put, sA, sZ, sS]
     refine Pz 1 (some 63) (.pointer (some ⟨wr.heap.size, 0, none⟩)) rfl rfl (by exact StepS.pure (SeqN.pass (by decide)) rfl fun _ => rfl) ?_
     try simp only [Act.put, sA, sZ, sS]
     refine Pz 2 (some 64) (.bool (z.left)) rfl rfl ?ywg27_30 ?rwg27_30
     case ywg27_30 =>
      refine StepS.read [] (by kernel_rfl) (SeqN.pass (by decide)) (by rfl) (fun L9 m9 w9 hSh hAt hDn hS => ?_)
      have hT : Below wz.heap.size wz w9 := SeqN.le [] [10, 11] (T := fun w9 => Below wz.heap.size wz w9) (post_no hSh hDn (by kernel_rfl)) (fun z _ _ hz h => by match z, hz, h with | 0, _, h => exact h | _ + 1, hz, _ => exact absurd hz (by simp)) hS
      have x0 : w9.cell? ⟨wr.heap.size, 0, none⟩ = some (.bool (z.left)) := (HZ.out.ca hT).cell 0
      clear hT hS
      go_simp
      try rfl
     try simp only [Act.put, sA, sZ, sS]
     refine Pz 3 (some 65) (.string dl) rfl rfl ?ywg27_31 ?rwg27_31
     case ywg27_31 =>
      refine StepS.call ?fwg27_31 ?awg27_31 [] (by kernel_rfl) (by rfl) (fun w9 => ?hwg27_31) (fun L9 m9 w9 hSh hAt hDn hS => ?cwg27_31)
      case hwg27_31 => go_simp; refine ⟨?_, ?_⟩ <;> rfl
      case cwg27_31 =>
       have hT : Below wz.heap.size wz w9 := SeqN.le [] [10, 11] (T := fun w9 => Below wz.heap.size wz w9) (post_no hSh hDn (by kernel_rfl)) (fun z _ _ hz h => by match z, hz, h with | 0, _, h => exact h | _ + 1, hz, _ => exact absurd hz (by simp)) hS
       refine (when_any z.left (⟨#[76, 69, 70, 84]⟩ : ByteArray) w9).mono ?_
       rintro e w8 ⟨rfl, rfl⟩
       exact ⟨by rw [HDL.out], SeqN.pass (by decide) _ _ _ hS⟩
     try simp only [Act.put, sA, sZ, sS]
     refine Pz 4 (some 66) (.pointer (some ⟨wr.heap.size, 1, none⟩)) rfl rfl (by exact StepS.pure (SeqN.pass (by decide)) rfl fun _ => rfl) ?_
     try simp only [Act.put, sA, sZ, sS]
     refine Pz 5 (some 67) (.pointer (some ⟨wr.heap.size, 1, none⟩)) rfl rfl (by exact StepS.pure (SeqN.pass (by decide)) rfl fun _ => rfl) ?_
     try simp only [Act.put, sA, sZ, sS]
     refine Pz 6 (some 68) (.string z.tb) rfl rfl ?ywg27_34 ?rwg27_34
     case ywg27_34 =>
      refine StepS.read [] (by kernel_rfl) (SeqN.pass (by decide)) (by rfl) (fun L9 m9 w9 hSh hAt hDn hS => ?_)
      have hT : Below wz.heap.size wz w9 := SeqN.le [] [10, 11] (T := fun w9 => Below wz.heap.size wz w9) (post_no hSh hDn (by kernel_rfl)) (fun z _ _ hz h => by match z, hz, h with | 0, _, h => exact h | _ + 1, hz, _ => exact absurd hz (by simp)) hS
      have x0 : w9.cell? ⟨wr.heap.size, 1, none⟩ = some (.string z.tb) := (HZ.out.ca hT).cell 1
      clear hT hS
      go_simp
      try rfl
     try simp only [Act.put, sA, sZ, sS]
     refine Pz 7 (some 69) (.pointer (some ⟨wr.heap.size, 1, none⟩)) rfl rfl (by exact StepS.pure (SeqN.pass (by decide)) rfl fun _ => rfl) ?_
     try simp only [Act.put, sA, sZ, sS]
     refine Pz 8 (some 70) (.pointer (some ⟨wr.heap.size, 2, none⟩)) rfl rfl (by exact StepS.pure (SeqN.pass (by decide)) rfl fun _ => rfl) ?_
     try simp only [Act.put, sA, sZ, sS]
     refine Pz 9 (some 71) (.string z.as_) rfl rfl ?ywg27_37 ?rwg27_37
     case ywg27_37 =>
      refine StepS.read [] (by kernel_rfl) (SeqN.pass (by decide)) (by rfl) (fun L9 m9 w9 hSh hAt hDn hS => ?_)
      have hT : Below wz.heap.size wz w9 := SeqN.le [] [10, 11] (T := fun w9 => Below wz.heap.size wz w9) (post_no hSh hDn (by kernel_rfl)) (fun z _ _ hz h => by match z, hz, h with | 0, _, h => exact h | _ + 1, hz, _ => exact absurd hz (by simp)) hS
      have x0 : w9.cell? ⟨wr.heap.size, 2, none⟩ = some (.string z.as_) := (HZ.out.ca hT).cell 2
      clear hT hS
      go_simp
      try rfl
     try simp only [Act.put, sA, sZ, sS]
     refine Ps.one (k := 10) (d := some 72) rfl rfl (by kernel_rfl) (TurnS.value (V := fun v => ∃ gb, v = .slice (some ⟨gb, 0, none⟩) 4 4) [] (by kernel_rfl) (by rfl) (fun L9 m9 w9 hSh hAt hDn hS => ?cwg27_38)) (fun v10 hVv10 => ?rwg27_38)
     case cwg27_38 =>
      have hT := SeqN.at_ (m0 := m9) (m1 := m9) [] [11] hSh (fun d hd => by cases hd) hDn (by kernel_rfl) hS
      refine ⟨.slice (some ⟨w9.heap.size, 0, none⟩) 4 4, w9.alloc (.cells #[.string dl, .string (⟨#[74, 79, 73, 78]⟩ : ByteArray), .string z.tb, .string z.as_] 9), ?_, ⟨_, rfl⟩, SeqN.set_ (m0 := m9) (m1 := m9) [] [11] hSh (fun d hd => by cases hd) hDn (by kernel_rfl) (by decide) (by decide) ⟨bl_al hT _, _, upd_same _ _ _, Blk.new _ _ _⟩⟩
      clear hT hS
      go_simp
     try simp only [Act.put, sA, sZ, sS]
     obtain ⟨gb, rfl⟩ := hVv10
     refine Pz 11 (some 73) (.tuple #[]) rfl rfl ?ywg27_39 ?rwg27_39
     case ywg27_39 =>
      refine StepS.call ?fwg27_39 ?awg27_39 [10] (by kernel_rfl) (by rfl) (fun w9 => ?hwg27_39) (fun L9 m9 w9 hSh hAt hDn hS => ?cwg27_39)
      case hwg27_39 => go_simp; refine ⟨?_, ?_⟩ <;> rfl
      case cwg27_39 =>
       obtain ⟨hT, gb2, hv, hblk⟩ := SeqN.at_ [10] [] hSh hAt hDn (by kernel_rfl) hS
       obtain rfl : gb = gb2 := by have h9 : Value.slice (some ⟨gb, 0, none⟩) 4 4 = .slice (some ⟨gb2, 0, none⟩) 4 4 := (hAt 10 (by simp)).2.symm.trans hv; simpa using h9
       refine (words_any w0.heap.size b gb aI [dl, (⟨#[74, 79, 73, 78]⟩ : ByteArray), z.tb, z.as_] w9 (HWz.out.keep hT) hblk (by simp) (Nat.le_trans HSz.out hT.size) HLM.out).mono ?_
       rintro e w8 ⟨rfl, h8, q8, k8⟩
       exact ⟨rfl, SeqN.set_ [10] [] hSh hAt hDn (by kernel_rfl) (by decide) (by decide) ⟨h8, (hT.mono HSz.out).trans q8, (Kept.of_below hT).trans k8⟩⟩
     try simp only [Act.put, sA, sZ, sS]
     refine Ps.done (by kernel_rfl) (fun wg27 hS => ?_) _
     obtain ⟨hF, qF, kF⟩ := SeqN.fin (by rfl) hS
     clear hS
     rw [HXM.out] at hF
     have HWu := Lib.hid hF
     have HQ0u := Lib.hid (HQ0z.out.trans qF)
     have HQ5u := Lib.hid (HQ5z.out.trans qF)
     have HK5u := Lib.hid (HK5z.out.trans kF)
     have HZu := Lib.hid (kF.blk HZ.out (by decide))
     clear hF qF kF HWz HQ0z HQ5z HK5z HZ HXM HLM HML HDL
     obtain ⟨w8, rfl⟩ : ∃ x, x = wg27 := ⟨_, rfl⟩
     generalize hwu : w8 = wu at *
     clear hwu
     have y3 := HZu.out.cell 3
     have HJ2 := Lib.hid (show noneB z.on = true from by have h9 := HJB.out; unfold joinB at h9; rw [Bool.and_eq_true] at h9; unfold noneB; rw [h9.1, Bool.or_true])
     have ht9 : t0 ≤ 100000 := by have := Lay.rd_len HSPz.out.r0; have := none_small HJ2.out; omega
     go_wp2_with fail
     refine (on_any w0 b F aM ⟨#[79, 78]⟩ z.on T0 t0 u9 wu HQ0u.out HWu.out HTB.out HSPz.out.r0 ht9 HJ2.out HRG.out (by show (onP aM wON z.on).length ≤ _; rw [← HST2.out]; exact HSL.out)).mono ?_
     rintro e wv ⟨rfl, hv, qv, kv⟩
     have HWv := Lib.hid (show WB w0.heap.size b aJ wv from by rw [HST2.out]; exact hv)
     have HQ5v := Lib.hid (HQ5u.out.trans qv)
     have HK5v := Lib.hid (HK5u.out.trans kv)
     clear hv qv kv y3
     go_wp2_with fail
     go_roundg (gk - 1)
     · exact ⟨i + 1, by omega, by go_num, Lib.hid (by rw [← HAJ.out]; exact HWv.out), HQ5v, HK5v⟩
     · omega
   · have hi1 : ¬ ((i : Int) < (u0 : Int)) := by omega
     have hie : i = u0 := by omega
     have HWe := Lib.hid (show WB w0.heap.size b A3 wr from by have h9 := HWr.out; rw [List.take_of_length_le (by rw [HLJ.out]; omega), ← HA.out.2.2.2.1] at h9; exact h9)
     clear hie HWr
     go_wp2_with fail
     go_meet
     exact ⟨HWe, HQr, HKr⟩
 case rest =>
 obtain ⟨HW, HQ, HKk⟩ := hcut
 obtain ⟨w6, rfl⟩ : ∃ x, x = wc := ⟨_, rfl⟩
 have HW6 := Lib.hid (show WB w0.heap.size b A3 w6 from HW.out)
 have HQE6 := Lib.hid (HQE5.out.trans HQ.out)
 have HQ06 := Lib.hid (HQ05.out.trans HQ.out)
 have HK6 := Lib.hid (HK5.out.trans HKk.out)
 have HB6 := Lib.hid ((HKk.out).blk HB5.out (by decide))
 have HS6 := Lib.hid HQ06.out.size
 clear HW5 HQE5 HQ05 HK5 HB5 HS5 HW HQ HKk
 have y9 := HB6.out.cell 6
 go_wp2_with fail
 refine (on_any w0 b F A3 ⟨#[87, 72, 69, 82, 69]⟩ x.wh W0 a0 b0 w6 HQ06.out HW6.out HTB.out HRS.out.2.2.1.1 ha9 HSEL.out.2.2.2.1 HGS.out.2.2.1 (by show (onP A3 wWHERE _).length ≤ _; rw [← HA.out.2.2.2.2.1]; exact HLN.out.2.2.2.2.1)).mono ?_
 rintro e w7 ⟨rfl, h9, q9, k9⟩
 have HW7 := Lib.hid (show WB w0.heap.size b A4 w7 from by rw [HA.out.2.2.2.2.1]; exact h9)
 have HQE7 := Lib.hid (HQE6.out.trans q9)
 have HQ07 := Lib.hid (HQ06.out.trans q9)
 have HK7 := Lib.hid (HK6.out.trans k9)
 have HB7 := Lib.hid ((k9).blk HB6.out (by decide))
 have HS7 := Lib.hid HQ07.out.size
 clear HW6 HQE6 HQ06 HK6 HB6 HS6 h9 q9 k9 y9
 have yC := HB7.out.cell 8
 go_upto_block 4 with fail
 clear yC
 go_cut [9] (fun ok wx => ∃ X c, ok = .slice X p0 c ∧ Hid (wx.ownsRow w7.heap.size 9 1 (.slice X p0 c) p0 ((x.grp.map nmS).map Value.string)) ∧ Hid (Below w7.heap.size w7 wx))
 case first =>
  go_wp2_with fail
  go_loopg [86, 9] p0 (fun gk a ok wr => ∃ (i : Nat) (X : Option Addr) (c : Nat), i + gk = p0 ∧ a = .int .i64 i ∧ ok = .slice X i c ∧ Hid (wr.ownsRow w7.heap.size 9 1 (.slice X i c) i (((x.grp.take i).map nmS).map Value.string)) ∧ Hid (Below w7.heap.size w7 wr))
  case atStart => exact ⟨0, none, 0, by omega, rfl, rfl, Lib.hid ⟨rfl, .inl ⟨rfl, rfl⟩⟩, Lib.hid (Below.refl _ _)⟩
  case round =>
   obtain ⟨i, X, cX, hig, rfl, rfl, HOr, HQr⟩ := hrel
   by_cases hlt : i < p0
   · have hi1 : (i : Int) < (p0 : Int) := by omega
     have HQ0r := Lib.hid (bl_ca HQ07.out HQr.out)
     obtain ⟨ad, z, rfl, hax, sp⟩ := LQN_at (Lay.rd_below HRS.out.2.2.2.2.1 HQ0r.out) hlt
     have x0 := sp.z0
     have x1 := sp.z1
     have HAX := Lib.hid hax
     have HZM := Lib.hid (List.mem_of_getElem? hax)
     have HQz := Lib.hid (bl_al (Below.refl wr.heap.size wr) (.cells #[.string z.tb, .string z.nm] 88))
     have HZ := Lib.hid (Blk.new wr 88 #[.string z.tb, .string z.nm])
     clear sp hax
     go_upto_region 21 with fail
     clear x0 x1
     have HOz := Lib.hid (ownsRow_below HOr.out HQz.out)
     generalize wr.alloc (.cells #[.string z.tb, .string z.nm] 88) = wz at *
     have HQ7z := Lib.hid (bl_ca HQr.out HQz.out)
     have HNB := HSEL.out.2.2.1 z HZM.out
     unfold nmB at HNB
     rw [Bool.and_eq_true] at HNB
     have hz1 : z.tb.size ≤ 100000 := by have := may_size HNB.2; omega
     have hz2 : z.nm.size ≤ 100000 := by have := name_len HNB.1; omega
     clear HNB
     have y0 := HZ.out.cell 0
     have y1 := HZ.out.cell 1
     go_wp2_with fail
     refine (name_any z.tb z.nm hz1 hz2 wz).mono ?_
     rintro e we ⟨rfl, rfl⟩
     have HNE := Lib.hid (show bS (namU z.tb.data.toList z.nm.data.toList) = nmS z from rfl)
     rw [HNE.out]
     have HZA := Lib.hid (take_mapS (f := nmS) HAX.out)
     have HBN := Lib.hid (Blk.new wz 9 #[.string (nmS z)])
     have HQn := Lib.hid (bl_al (Below.refl wz.heap.size wz) (.cells #[.string (nmS z)] 9))
     have HOn := Lib.hid (ownsRow_below HOz.out HQn.out)
     have HQ7n := Lib.hid (bl_ca HQ7z.out HQn.out)
     go_wp2_with (at_builtin; refine wpList_app1 rfl _ _ rfl rfl rfl HOn.out HBN.out (by omega) HQ7n.out.size ?_; intro Y y wa hy hq)
     rw [HZA.out] at hy
     have HY := Lib.hid hy
     have HQY := Lib.hid (HQ7n.out.trans hq)
     clear hy hq y0 y1
     go_wp2_with fail
     go_roundg (gk - 1)
     · exact ⟨i + 1, Y, y, by omega, by go_num, rfl, HY, HQY⟩
     · omega
   · have hi1 : ¬ ((i : Int) < (p0 : Int)) := by omega
     have hie : i = p0 := by omega
     subst hie
     have HOe := Lib.hid (show wr.ownsRow w7.heap.size 9 1 (.slice X i cX) i ((x.grp.map nmS).map Value.string) from by have h9 := HOr.out; rwa [List.take_of_length_le (by rw [HLG.out]; exact Nat.le_refl _)] at h9)
     go_wp2_with fail
     go_meet
     exact ⟨X, cX, rfl, HOe, HQr⟩
 case rest =>
 obtain ⟨XG, cG, rfl, HOG, HQ78⟩ := hcut
 obtain ⟨w8, rfl⟩ : ∃ x, x = wc := ⟨_, rfl⟩
 have HW8 := Lib.hid (HW7.out.keep HQ78.out)
 have HB8 := Lib.hid (HB7.out.ca HQ78.out)
 have HQ08 := Lib.hid (bl_ca HQ07.out HQ78.out)
 have HQE8 := Lib.hid (bB_ca HQE7.out HS7.out HQ78.out)
 have HK8 := Lib.hid (HK7.out.trans (Kept.of_below HQ78.out))
 have HS8 := Lib.hid HQ08.out.size
 clear HW7 HB7 HQ07 HQE7 HK7 HS7
 go_wp2_with fail
 refine (row_any w0.heap.size b w7.heap.size A4 ⟨#[71, 82, 79, 85, 80, 32, 66, 89]⟩ (x.grp.map nmS) XG p0 cG w8 HW8.out HOG.out (by rw [List.length_map, HLG.out]; omega) HS8.out (by rw [nmS_map]; show (rowP A4 wGROUPBY _).length ≤ _; rw [← HA.out.2.2.2.2.2.1]; exact HLN.out.2.2.2.2.2.1)).mono ?_
 rintro e w9 ⟨rfl, h9, q9, k9⟩
 rw [nmS_map] at h9
 have HW9 := Lib.hid (show WB w0.heap.size b A5 w9 from by rw [HA.out.2.2.2.2.2.1]; exact h9)
 have HQE9 := Lib.hid (HQE8.out.trans q9)
 have HQ09 := Lib.hid (HQ08.out.trans q9)
 have HK9 := Lib.hid (HK8.out.trans k9)
 have HB9 := Lib.hid ((k9).blk HB8.out (by decide))
 have HS9 := Lib.hid HQ09.out.size
 clear HW8 HQE8 HQ08 HK8 HB8 HS8 h9 q9 k9 HOG HQ78
 have y9 := HB9.out.cell 7
 go_wp2_with fail
 refine (on_any w0 b F A5 ⟨#[72, 65, 86, 73, 78, 71]⟩ x.hv H0 e0 f0 w9 HQ09.out HW9.out HTB.out HRS.out.2.2.2.1.1 he9 HSEL.out.2.2.2.2 HGS.out.2.2.2 (by show (onP A5 wHAVING _).length ≤ _; rw [← HA.out.2.2.2.2.2.2]; exact HLN.out.2.2.2.2.2.2)).mono ?_
 rintro e w10 ⟨rfl, h9, q9, k9⟩
 have HW10 := Lib.hid (show WB w0.heap.size b A6 w10 from by rw [HA.out.2.2.2.2.2.2]; exact h9)
 have HQE10 := Lib.hid (HQE9.out.trans q9)
 have HQ010 := Lib.hid (HQ09.out.trans q9)
 have HK10 := Lib.hid (HK9.out.trans k9)
 have HB10 := Lib.hid ((k9).blk HB9.out (by decide))
 have HS10 := Lib.hid HQ010.out.size
 clear HW9 HQE9 HQ09 HK9 HB9 HS9 h9 q9 k9 y9
 go_wp2_with fail
 go_end0
 exact ⟨rfl, HW10.out, HQE10.out, HK10.out⟩
end Go.Proofs.YtoaggmldekejoaaGreatDoor
/- The writer's text. Conditions: a writer that has only been written, and holds some bytes. -/
namespace Go.Proofs.YtoaggmldekejoaaGreatDoor
open Go.RowKit
theorem cellsU8 : Tryz.prog.cellsOf 5 = 1 := by kernel_rfl
set_option maxRecDepth 100000 in
set_option maxHeartbeats 4000000 in
theorem wstring_any (B b : Nat) (l : List UInt8) (w : World) (h : WB B b l w) (h0 : l ≠ []) :
 Calls Tryz.prog 58 #[.pointer (some ⟨b, 0, none⟩)] w fun e w' => e = .returned (.string (bS l)) ∧ Below B w w' := by
 obtain ⟨p, hB, v, hbk, hown, hne⟩ : ∃ p, Lib.BuilderAt 106 5 B b p (Lib.byteCells l) w := by
  rcases h with h | h
  · exact ⟨_, h⟩
  · exact ⟨_, h⟩
 have hl0 : l.length ≠ 0 := by simpa using h0
 rw [Lib.byteCells_length] at hown
 obtain ⟨g, cap, cur, rfl, hbg, hg, hnc, hcm, hcs, htake⟩ : ∃ g cap cur, v = .slice (some ⟨g, 0, none⟩) l.length cap ∧ B ≤ g ∧ w.heap[g]? = some (.cells cur 5 (0, 0)) ∧ l.length ≤ cap ∧ cap ≤ maxLen ∧ cur.size = cap * 1 ∧ cur.toList.take (l.length * 1) = Lib.byteCells l := by
  rcases hown.2 with ⟨_, hz⟩ | ⟨g, cap, cur, hv, r⟩
  · exact absurd hz hl0
  · exact ⟨g, cap, cur, hv, r⟩
 have c1 : w.drew.cell? ⟨b, 1, none⟩ = some (.slice (some ⟨g, 0, none⟩) l.length cap) := by
  have : w.drew.heap[b]? = some (.cells #[p, .slice (some ⟨g, 0, none⟩) l.length cap] 106 (0, 0)) := hbk
  rw [Lib.cell_of_heap this]; rfl
 have hSD : (Builtin.unsafeSliceData_ #[102] 138 #[.slice (some ⟨g, 0, none⟩) l.length cap]).run Tryz.prog w.drew = .ok (.pointer (some ⟨g, 0, none⟩)) w.drew :=
  Lib.run_unsafeSliceData_row _ _ _ _ _ _ (by omega)
 have hUS : (Builtin.unsafeString_ #[138, 3] 9 #[.pointer (some ⟨g, 0, none⟩), .int .i64 l.length]).run Tryz.prog w.drew = .ok (.string (bS l)) (w.drew.freeze ⟨g, 0, none⟩ l.length) := by
  refine Lib.run_unsafeString_row w.drew 138 3 9 5 Tryz.underlying138 cellsU8 g cur.size (by have hg' : w.drew.heap[g]? = some (.cells cur 5 (0, 0)) := hg; simp [World.shape?, hg']) l h0 (by omega) (by unfold maxLen at hcm; omega) ?_
  intro j x hx
  have := hown.cells (g := g) rfl j (.int .u8 x.toNat) (by simp [Lib.byteCells, hx])
  exact this
 clear hown hg hbk hcs htake hcm hnc h hl0 h0 hne
 have mixed : Tryz.prog.follows .mixedOrders = true := by kernel_rfl
 go_enter Tryz.func58, Tryz.ntmps58
 go_wp2
 go_region_o
 all_goals (go_wp2; go_ret; exact ⟨rfl, Lib.below_freeze (Below.drew (Below.refl B w)) (p := ⟨g, 0, none⟩) hbg _⟩)
end Go.Proofs.YtoaggmldekejoaaGreatDoor
