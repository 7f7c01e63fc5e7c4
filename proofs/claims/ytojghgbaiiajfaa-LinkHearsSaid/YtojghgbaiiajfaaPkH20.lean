/- slices.Insert of one row into rows of one's own. Conditions: none. -/
import Derived.Test.YtojghgbaiiajfaaPkH19
import Derived.Shelf.RegionOpen
import Derived.Shelf.RegionOpenPlain
import Derived.Lib.SliceRun
import Derived.Lib.Overlaps
import Derived.Lib.AppendZerosOnto
import Derived.Laws.Externs
import Derived.Laws.IdiomCopy
import Derived.Lib.SlicesDelete
import Derived.Deep.RegionLaw
namespace Go.Proofs.Ytojghgbaiiajfaa
open Go.RowKit
theorem run_copy_cellsK {P : Program} (w : World) (dT sT ty elem : TypeId) (b o dLen dCap : Nat) (a : Addr) (sLen sCap sz : Nat) (cs : List Value)
 (hu : P.underlying dT = some (.slice elem)) (hs : (P.info? elem).map (·.size) = some sz) (hn : cs.length = Nat.min sLen dLen * sz)
 (hsrc : ∀ j v, cs[j]? = some v → w.cell? (a.add j) = some v) (hc : ∀ j, j < cs.length → (w.cell? ⟨b, o + j, none⟩).isSome = true) (hf : ∀ j, j < cs.length → w.frozen? ⟨b, o + j, none⟩ = false) (h1 : ∀ v ∈ cs, v.oneCell' = true) :
 (Builtin.copy_ #[dT, sT] ty #[.slice (some ⟨b, o, none⟩) dLen dCap, .slice (some a) sLen sCap]).run P w = .ok (goInt (Nat.min sLen dLen)) (w.setCells b o cs) := by
 have hl := run_loadCells_list (P := P) w a cs hsrc
 have hst := run_storeCells_cells (P := P) b o cs 0 w (by simpa using hc) (by simpa using hf) h1
 cases hq : P.info? elem with
 | none => simp [hq] at hs
 | some i =>
  have hi : i.size = sz := by simpa [hq] using hs
  have hn2 : Nat.min sLen dLen * i.size = cs.length := by rw [hi, hn]
  simp [Builtin.copy_, run_underlying hu, Builtin.lenOf, Builtin.firstCells, sizeOf, typeInfo, hq, hn2, hl, hst]
theorem isSome_setCellsI (b : Nat) (vs : List Value) (o : Nat) (w : World) (h : ∀ j, j < vs.length → (w.cell? ⟨b, o + j, none⟩).isSome = true) (k : Nat) (hk : (w.cell? ⟨b, k, none⟩).isSome = true) : ((w.setCells b o vs).cell? ⟨b, k, none⟩).isSome = true := by
 by_cases hin : o ≤ k ∧ k < o + vs.length
 · have := World.cell?_setCells_in b vs o w h (k - o) (by omega)
   rw [show o + (k - o) = k by omega] at this
   rw [this]; rfl
 · rw [World.cell?_setCells_out b vs o w ⟨b, k, none⟩ (fun _ _ => by show k < o ∨ o + vs.length ≤ k; omega)]
   exact hk
theorem wp_copy_runK {P : Program} (w : World) {o : Oper} {a : Act} {K : Act → World → Prop} {Q : Exit → Act → World → Prop} (d s : Operand) (t t' : TypeId)
 (ho : o.op = .call { callee := .builtin .copy, args := #[d, s], argTypes := #[t, t'] }) (v u : Value) (hd : a.eval d = v) (hs : a.eval s = u) {v' : Value} {w' : World}
 (hr : (Builtin.copy_ #[t, t'] o.type #[v, u]).run P w = .ok v' w') (h : K (a.put o.dst v') w') : o.wp P a w K Q := by
 unfold Oper.wp execOp
 simp only [ho, resolve, invoke, builtin, Sem.run_bind, Sem.run_pure, Result.andThen_ok, List.map_toArray, List.map_cons, List.map_nil, hd, hs, hr]
 exact h
theorem wpList_copy_runK {P : Program} (w : World) {ops : Array Oper} {rest : List Oper} {o : Oper} {a : Act} {Q : Exit → Act → World → Prop} (hgd : o.guard = none) (d s : Operand) (t t' : TypeId)
 (ho : o.op = .call { callee := .builtin .copy, args := #[d, s], argTypes := #[t, t'] }) (v u : Value) (hd : a.eval d = v) (hs : a.eval s = u) {v' : Value} {w' : World}
 (hr : (Builtin.copy_ #[t, t'] o.type #[v, u]).run P w = .ok v' w') (h : wpList P ops Q rest (a.put o.dst v') w') : wpList P ops Q (o :: rest) a w :=
 wpList_plain hgd fun _ hK => wp_copy_runK w d s t t' ho v u hd hs hr (hK _ _ h)
theorem step_copy_runK {P : Program} {ops : Array Oper} {o : Oper} {a : Act} {w : World} {K : Act → World → Prop} {Q : Exit → Act → World → Prop} {E : Prop}
 (hg : o.guard = none) (d x : Operand) (dT sT : TypeId) (hop : o.op = Op.call { callee := Callee.builtin Builtin.copy, args := #[d, x], argTypes := #[dT, sT] })
 (v u : Value) (hd : a.eval d = v) (hx : a.eval x = u) {v' : Value} {w' : World} (hr : (Builtin.copy_ #[dT, sT] o.type #[v, u]).run P w = .ok v' w') (hK : K (a.put o.dst v') w') :
 if Region.wanted o (yielded ops a.tmps) = true then Oper.wp P o a w K Q else E := by
 have hw : Region.wanted o (yielded ops a.tmps) = true := by simp [Region.wanted, hg]
 rw [if_pos hw]
 unfold Oper.wp
 simp [execOp, hop, resolve, invoke, builtin, hd, hx, hr, Result.andThen]
 exact hK
theorem heldI : (Try.prog.info? 81).map (·.size) = some 4 := by kernel_rfl
theorem shape_blk {w : World} {g : Nat} {t : TypeId} {cs : Array Value} (h : Blk w g t cs) : w.shape? g = some (t, cs.size) := by
 unfold World.shape?
 rw [show w.heap[g]? = some (.cells cs t (0, 0)) from h]
theorem cell_list {w : World} {g : Nat} {t : TypeId} {cs : Array Value} (h : Blk w g t cs) {j : Nat} {v : Value} (hj : cs.toList[j]? = some v) : w.cell? ⟨g, j, none⟩ = some v := by
 have := h.cell j
 rw [this]
 simpa using hj
set_option maxHeartbeats 8000000 in
set_option maxRecDepth 100000 in
theorem ins_shift (b n c i vb vc : Nat) (cs vs : List Value) (cur : Array Value) (w : World) (hi : i < n) (hroom : n + 1 ≤ c) (hc63 : c ≤ 9223372036854775807) (hvb : vb ≠ b) (hcl : cs.length = n * 4) (hvl : vs.length = 4)
 (hB : Blk w b 81 cur) (hcur : cur.size = c * 4) (htk : cur.toList.take (n * 4) = cs) (hV : Blk w vb 81 vs.toArray) (h1c : ∀ v ∈ cs, v.oneCell' = true) (h1v : ∀ v ∈ vs, v.oneCell' = true) :
 Calls Try.prog 79 #[.slice (some ⟨b, 0, none⟩) n c, .int .i64 i, .slice (some ⟨vb, 0, none⟩) 1 vc] w fun e w' =>
  e = .returned (.slice (some ⟨b, 0, none⟩) (n + 1) c) ∧ w' = (w.drew.setCells b ((i + 1) * 4) (cs.drop (i * 4))).setCells b (i * 4) vs := by
 have hov : ∀ o lb cb, (callFunc 109 #[.slice (some ⟨vb, 0, none⟩) 1 vc, .slice (some ⟨b, o, none⟩) lb cb]).run Try.prog w = .ok (.value (.bool false)) w := fun o lb cb => by
  rw [run_callFunc_extern Try.func109 (by kernel_rfl) (by kernel_rfl) (by kernel_rfl) (e := Extern.SlicesOverlaps.overlaps #[34, 34] #[4]) (by kernel_rfl)]
  rw [Lib.run_overlaps_apart w 34 4 81 Try.underlying34 4 (fun w => by kernel_rfl) ⟨vb, 0, none⟩ ⟨b, o, none⟩ 1 vc lb cb hvb _ _ _ _ (shape_blk hV) (shape_blk hB) (by omega) (hV.frozen 0) (hV.frozen _)]
  rfl
 have hz2 : ¬ ((i : Int) = (n : Int)) := by omega
 have hw1 : IntKind.i64.wrap ((i : Int) + 1) = (i : Int) + 1 := by rw [IntKind.wrap_i64]; omega
 have hw2 : IntKind.i64.wrap ((n : Int) + 1) = (n : Int) + 1 := by rw [IntKind.wrap_i64]; omega
 have hin : (i : Int) ≤ (n : Int) := by omega
 have hin2 : (i : Int) ≤ (n : Int) + 1 := by omega
 have hin3 : (i : Int) + 1 ≤ (n : Int) + 1 := by omega
 have hnc : (n : Int) + 1 ≤ (c : Int) := by omega
 have htn : ((i : Int) + 1).toNat = i + 1 := by omega
 have htn2 : ((n : Int) + 1).toNat = n + 1 := by omega
 have hb2 : ¬ (c = i + 1) := by omega
 have hb1 : (0 : Int) ≤ (i : Int) + 1 := by omega
 have hin4 : i ≤ n := by omega
 have hin5 : i ≤ n + 1 := by omega
 have hb4 : ¬ (c = i) := by omega
 have hcs : ∀ j v, cs[j]? = some v → w.cell? ⟨b, j, none⟩ = some v := fun j v hj => cell_list hB (by
  rw [← htk, List.getElem?_take] at hj
  split at hj
  · exact hj
  · cases hj)
 have hsp : ∀ j, j < (n + 1) * 4 → (w.cell? ⟨b, j, none⟩).isSome = true := fun j hj => by
  rw [hB.cell j, Array.getElem?_eq_getElem (show j < cur.size by rw [hcur]; omega)]; rfl
 have hdl : (cs.drop (i * 4)).length = (n - i) * 4 := by rw [List.length_drop, hcl]; omega
 have hmin1 : Nat.min (n + 1 - i) (n - i) = n - i := by simp only [Nat.min_def]; split <;> omega
 have hmin2 : Nat.min 1 (n + 1 - i) = 1 := by simp only [Nat.min_def]; split <;> omega
 have hcp1 : ∀ ty dc sc, (Builtin.copy_ #[34, 34] ty #[.slice (some ⟨b, (i + 1) * 4, none⟩) (n - i) dc, .slice (some ⟨b, i * 4, none⟩) (n + 1 - i) sc]).run Try.prog w.drew = .ok (goInt (Nat.min (n + 1 - i) (n - i))) (w.drew.setCells b ((i + 1) * 4) (cs.drop (i * 4))) := fun ty dc sc =>
  run_copy_cellsK w.drew _ _ ty 81 b ((i + 1) * 4) (n - i) dc ⟨b, i * 4, none⟩ (n + 1 - i) sc 4 (cs.drop (i * 4)) Try.underlying34 heldI (by rw [hdl, hmin1])
   (fun j v hj => by rw [Addr.add_lit]; exact hcs (i * 4 + j) v (by rwa [List.getElem?_drop] at hj))
   (fun j hj => hsp ((i + 1) * 4 + j) (by rw [hdl] at hj; omega)) (fun j _ => hB.frozen _) (fun v hv => h1c v (List.mem_of_mem_drop hv))
 obtain ⟨W1, hW1⟩ : ∃ W1, W1 = w.drew.setCells b ((i + 1) * 4) (cs.drop (i * 4)) := ⟨_, rfl⟩
 have hsp1 : ∀ k, k < (n + 1) * 4 → (W1.cell? ⟨b, k, none⟩).isSome = true := fun k hk => by
  rw [hW1]
  exact isSome_setCellsI b _ _ w.drew (fun j hj => hsp ((i + 1) * 4 + j) (by rw [hdl] at hj; omega)) _ (hsp k hk)
 have hcp2 : ∀ (W : World), (∀ x, W.cell? x = W1.cell? x) → (∀ x, W.frozen? x = W1.frozen? x) → ∀ ty dc, (Builtin.copy_ #[34, 34] ty #[.slice (some ⟨b, i * 4, none⟩) (n + 1 - i) dc, .slice (some ⟨vb, 0, none⟩) 1 vc]).run Try.prog W = .ok (goInt (Nat.min 1 (n + 1 - i))) (W.setCells b (i * 4) vs) := fun W hWc hWf ty dc =>
  run_copy_cellsK W _ _ ty 81 b (i * 4) (n + 1 - i) dc ⟨vb, 0, none⟩ 1 vc 4 vs Try.underlying34 heldI (by rw [hvl, hmin2])
   (fun j v hj => by
    rw [Addr.add_lit, hWc, hW1, World.cell?_setCells_out b _ _ _ _ (fun h _ => absurd h hvb)]
    exact cell_list hV (by rw [Nat.zero_add]; simpa using hj))
   (fun j hj => by rw [hWc]; exact hsp1 (i * 4 + j) (by rw [hvl] at hj; omega)) (fun j _ => by rw [hWf, hW1, World.frozen?_setCells]; exact hB.frozen _) h1v
 rw [← hW1] at hcp1
 have mixed : Try.prog.follows Departure.mixedOrders = true := by kernel_rfl
 clear hsp hsp1 hcs htk hcl hvl hdl
 go_enter Try.func79, Try.ntmps79
 go_wp2_with (simp only [hov])
 go_region_law_o (refine step_copy_runK rfl _ _ 34 34 rfl _ _ (by simp [Act.eval, Act.put]) (by simp [Act.eval, Act.put]) (hcp1 _ _ _) ?_)
 go_wp2_with (at_builtin; refine wpList_copy_runK _ rfl _ _ 34 34 rfl _ _ rfl rfl (hcp2 _ (fun _ => rfl) (fun _ => rfl) _ _) ?_)
 go_ret
 first | exact ⟨rfl, rfl⟩ | exact ⟨rfl, by rw [hW1]⟩
set_option maxHeartbeats 8000000 in
set_option maxRecDepth 100000 in
theorem ins_grow (b n c i vb vc : Nat) (cs vs : List Value) (cur : Array Value) (w : World) (hi : i < n) (hnc : n ≤ c) (hroom : c < n + 1) (hbig : n ≤ 1000) (hcl : cs.length = n * 4) (hvl : vs.length = 4)
 (hB : Blk w b 81 cur) (htk : cur.toList.take (n * 4) = cs) (hV : Blk w vb 81 vs.toArray) (h1c : ∀ v ∈ cs, v.oneCell' = true) (h1v : ∀ v ∈ vs, v.oneCell' = true) :
 Calls Try.prog 79 #[.slice (some ⟨b, 0, none⟩) n c, .int .i64 i, .slice (some ⟨vb, 0, none⟩) 1 vc] w fun e w' =>
  ∃ (G : Nat) (ROW : Array Value), n + 1 ≤ G ∧ G ≤ maxLen ∧ ROW.size = G * 4 ∧ ROW.toList.take (i * 4) = cs.take (i * 4) ∧ e = .returned (.slice (some ⟨w.heap.size, 0, none⟩) (n + 1) G) ∧
   w' = (((w.alloc (.cells ROW 81)).drew.setCells w.heap.size (i * 4) vs).drew).setCells w.heap.size ((i + 1) * 4) (cs.drop (i * 4)) := by
 obtain ⟨i0, hi0, hz0, hzs, hzb⟩ := info_parts infoH
 have hz2 : ¬ ((i : Int) = (n : Int)) := by omega
 have hz3 : (c : Int) < (n : Int) + 1 := by omega
 have hbw := hB.lt
 have hvw := hV.lt
 have hkk : (n : Int) + 1 - (i : Int) = ((n + 1 - i : Nat) : Int) := by omega
 have hik : i + (n + 1 - i) = n + 1 := by omega
 have hcs : ∀ j v, cs[j]? = some v → w.cell? ⟨b, j, none⟩ = some v := fun j v hj => cell_list hB (by
  rw [← htk, List.getElem?_take] at hj
  split at hj
  · exact hj
  · cases hj)
 have hold : (Builtin.firstCells i0.size i (.slice (some ⟨b, 0, none⟩) i c)).run Try.prog w.drew = .ok (cs.take (i * 4)).toArray w.drew := by
  rw [hzs]
  exact run_firstCells_some w.drew 4 i ⟨b, 0, none⟩ i c (cs.take (i * 4)) (by rw [List.length_take]; omega) (fun j v hj => by
   rw [Addr.add_lit]
   rw [List.getElem?_take] at hj
   split at hj
   · rw [Nat.zero_add]; exact hcs j v hj
   · cases hj)
 obtain ⟨zz, hzz⟩ : ∃ zz : Value, zz = .agg #[.int .u64 0, .slice none 0 0, .bool false, .int .u64 0] := ⟨_, rfl⟩
 rw [← hzz] at hz0
 have hzc : zz.cells.size = 4 := by rw [hzz]; rfl
 have hrz : ∀ ty, (Builtin.append_ #[34, 3] ty #[.slice (some ⟨b, 0, none⟩) i c, .int .i64 ((n : Int) + 1 - (i : Int))]).run Try.prog w =
  .ok (.slice (some ⟨w.heap.size, 0, none⟩) (n + 1) (grownCap w (n + 1) c 81)) (w.drew.alloc (.cells ((cs.take (i * 4)).toArray ++ Builtin.zeroCells zz.cells (n + 1 - i) ++ Builtin.zeroCells zz.cells (grownCap w (n + 1) c 81 - (n + 1))) 81)) := fun ty => by
  have h := Lib.run_append_grow_zeros w 34 3 ty 81 i0 _ .i64 .i64 Try.underlying34 Try.underlying3 hi0 hz0 (some ⟨b, 0, none⟩) i c (cs.take (i * 4)) hold (n + 1 - i) (by omega) (by omega) (by omega) (by omega) (by rw [hzb]; omega) (by rw [hzb, hik]; exact growslice_fits hroom (by omega))
  rw [hik] at h
  rw [hkk]
  exact h
 obtain ⟨G, hG⟩ : ∃ G, G = grownCap w (n + 1) c 81 := ⟨_, rfl⟩
 obtain ⟨ROW, hROW⟩ : ∃ ROW : Array Value, ROW = (cs.take (i * 4)).toArray ++ Builtin.zeroCells zz.cells (n + 1 - i) ++ Builtin.zeroCells zz.cells (G - (n + 1)) := ⟨_, rfl⟩
 rw [← hG] at hrz
 rw [← hROW] at hrz
 have hGn : n + 1 ≤ G := by rw [hG]; exact grownCap_ge w _ _ _
 have hGm : G ≤ maxLen := by rw [hG]; exact grownCap_le_maxLen w (n + 1) c 81 (by unfold maxLen; omega)
 have hG63 : G ≤ 9223372036854775807 := by have := hGm; unfold maxLen at this; omega
 have hRs : ROW.size = G * 4 := by
  rw [hROW]
  simp only [Array.size_append, size_zeroCells, hzc, List.size_toArray, List.length_take]
  omega
 have hRt : ROW.toList.take (i * 4) = cs.take (i * 4) := by
  rw [hROW]
  simp only [Array.toList_append, List.append_assoc]
  rw [List.take_append_of_le_length (by rw [List.length_take]; omega), List.take_take, Nat.min_self]
 obtain ⟨W1, hW1⟩ : ∃ W1, W1 = w.drew.alloc (.cells ROW 81) := ⟨_, rfl⟩
 rw [← hW1] at hrz
 have hN : ∀ j, j < (n + 1) * 4 → (W1.cell? ⟨w.heap.size, j, none⟩).isSome = true := fun j hj => by
  rw [hW1, World.cell?_alloc_at (w := w.drew) ROW _ w.heap.size j rfl, Array.getElem?_eq_getElem (by omega)]; rfl
 have hNf : ∀ j, W1.frozen? ⟨w.heap.size, j, none⟩ = false := fun j => by rw [hW1]; exact World.frozen?_alloc_at (w := w.drew) ROW _ w.heap.size j rfl
 have hOb : ∀ j v, w.cell? ⟨b, j, none⟩ = some v → W1.cell? ⟨b, j, none⟩ = some v := fun j v h => by rw [hW1, World.cell?_alloc_past (w := w.drew) _ b j hbw]; exact h
 have hOv : ∀ j v, w.cell? ⟨vb, j, none⟩ = some v → W1.cell? ⟨vb, j, none⟩ = some v := fun j v h => by rw [hW1, World.cell?_alloc_past (w := w.drew) _ vb j hvw]; exact h
 have hmin2 : Nat.min 1 (n + 1 - i) = 1 := by simp only [Nat.min_def]; split <;> omega
 have hcpA : ∀ (W : World), (∀ x, W.cell? x = W1.cell? x) → (∀ x, W.frozen? x = W1.frozen? x) → ∀ ty dc, (Builtin.copy_ #[34, 34] ty #[.slice (some ⟨w.heap.size, i * 4, none⟩) (n + 1 - i) dc, .slice (some ⟨vb, 0, none⟩) 1 vc]).run Try.prog W = .ok (goInt (Nat.min 1 (n + 1 - i))) (W.setCells w.heap.size (i * 4) vs) := fun W hWc hWf ty dc =>
  run_copy_cellsK W _ _ ty 81 w.heap.size (i * 4) (n + 1 - i) dc ⟨vb, 0, none⟩ 1 vc 4 vs Try.underlying34 heldI (by rw [hvl, hmin2])
   (fun j v hj => by rw [Addr.add_lit, hWc]; exact hOv _ v (cell_list hV (by rw [Nat.zero_add]; simpa using hj)))
   (fun j hj => by rw [hWc]; exact hN (i * 4 + j) (by rw [hvl] at hj; omega)) (fun j _ => by rw [hWf]; exact hNf _) h1v
 have hbN : b ≠ w.heap.size := by omega
 have hdl : (cs.drop (i * 4)).length = (n - i) * 4 := by rw [List.length_drop, hcl]; omega
 have hmin1 : Nat.min (n - i) (n - i) = n - i := Nat.min_self _
 have hcpB : ∀ (W : World), (∀ x, W.cell? x = (W1.setCells w.heap.size (i * 4) vs).cell? x) → (∀ x, W.frozen? x = (W1.setCells w.heap.size (i * 4) vs).frozen? x) → ∀ ty dc sc, (Builtin.copy_ #[34, 34] ty #[.slice (some ⟨w.heap.size, (i + 1) * 4, none⟩) (n - i) dc, .slice (some ⟨b, i * 4, none⟩) (n - i) sc]).run Try.prog W = .ok (goInt (Nat.min (n - i) (n - i))) (W.setCells w.heap.size ((i + 1) * 4) (cs.drop (i * 4))) := fun W hWc hWf ty dc sc =>
  run_copy_cellsK W _ _ ty 81 w.heap.size ((i + 1) * 4) (n - i) dc ⟨b, i * 4, none⟩ (n - i) sc 4 (cs.drop (i * 4)) Try.underlying34 heldI (by rw [hdl, hmin1])
   (fun j v hj => by
    rw [Addr.add_lit, hWc, World.cell?_setCells_out _ _ _ _ _ (fun h _ => absurd h hbN)]
    exact hOb _ v (hcs (i * 4 + j) v (by rwa [List.getElem?_drop] at hj)))
   (fun j hj => by rw [hWc]; exact isSome_setCellsI _ _ _ _ (fun t ht => hN (i * 4 + t) (by rw [hvl] at ht; omega)) _ (hN ((i + 1) * 4 + j) (by rw [hdl] at hj; omega)))
   (fun j _ => by rw [hWf, World.frozen?_setCells]; exact hNf _) (fun v hv => h1c v (List.mem_of_mem_drop hv))
 subst hW1
 have hE1 : ∀ x, ((w.alloc (.cells ROW 81)).drew).cell? x = (w.drew.alloc (.cells ROW 81)).cell? x := fun x => rfl
 have hE2 : ∀ x, ((w.alloc (.cells ROW 81)).drew).frozen? x = (w.drew.alloc (.cells ROW 81)).frozen? x := fun x => rfl
 have hF1 : ∀ x, (((w.alloc (.cells ROW 81)).drew.setCells w.heap.size (i * 4) vs).drew).cell? x = ((w.drew.alloc (.cells ROW 81)).setCells w.heap.size (i * 4) vs).cell? x := fun x => rfl
 have hF2 : ∀ x, (((w.alloc (.cells ROW 81)).drew.setCells w.heap.size (i * 4) vs).drew).frozen? x = ((w.drew.alloc (.cells ROW 81)).setCells w.heap.size (i * 4) vs).frozen? x := fun x => rfl
 have hw1 : IntKind.i64.wrap ((i : Int) + 1) = (i : Int) + 1 := by rw [IntKind.wrap_i64]; omega
 have hw2 : IntKind.i64.wrap ((n : Int) + 1) = (n : Int) + 1 := by rw [IntKind.wrap_i64]; omega
 have hw3 : IntKind.i64.wrap ((n : Int) + 1 - (i : Int)) = (n : Int) + 1 - (i : Int) := by rw [IntKind.wrap_i64]; omega
 have hb1 : (0 : Int) ≤ (i : Int) + 1 := by omega
 have hin : i ≤ n := by omega
 have hin1 : (i : Int) ≤ (n : Int) := by omega
 have hin2 : (i : Int) ≤ (n : Int) + 1 := by omega
 have htn : ((i : Int) + 1).toNat = i + 1 := by omega
 have hb2 : ¬ (G = i + 1) := by omega
 have hb3 : ¬ (G = i) := by omega
 have hb4 : ¬ (c = i) := by omega
 have mixed : Try.prog.follows Departure.mixedOrders = true := by kernel_rfl
 clear hkk hik hold hROW hG hN hNf hOb hOv hcs htk hdl
 go_enter Try.func79, Try.ntmps79
 go_wp2_with (first
  | (at_builtin; refine Lib.wpList_append_run _ rfl _ _ _ _ rfl _ _ rfl rfl _ _ (hrz _) ?_)
  | (at_builtin; refine wpList_copy_runK _ rfl _ _ 34 34 rfl _ _ rfl rfl (hcpA _ hE1 hE2 _ _) ?_)
  | (at_builtin; refine wpList_copy_runK _ rfl _ _ 34 34 rfl _ _ rfl rfl (hcpB _ (fun _ => rfl) (fun _ => rfl) _ _ _) ?_))
 go_region_law_o (refine step_copy_runK rfl _ _ 34 34 rfl (.slice (some ⟨w.heap.size, (i + 1) * 4, none⟩) (n - i) (G - (i + 1))) (.slice (some ⟨b, i * 4, none⟩) (n - i) (c - i)) (by simp [Act.eval, Act.put]) (by simp [Act.eval, Act.put]) (hcpB _ hF1 hF2 _ (G - (i + 1)) (c - i)) ?_)
 go_wp2
 go_ret
 exact ⟨G, ROW, hGn, hGm, hRs, hRt, rfl, rfl⟩
end Go.Proofs.Ytojghgbaiiajfaa
/- slices.Insert of one row into rows of one's own, whole. Conditions: none. -/
namespace Go.Proofs.Ytojghgbaiiajfaa
open Go.RowKit
set_option maxHeartbeats 8000000 in
set_option maxRecDepth 100000 in
theorem ins_end (B : Nat) (G : Nat → Prop) (A : Option Addr) (n c : Nat) (xs : List HC) (y : HC) (vb vc : Nat) (vs : Array Value) (w : World) (hown : LH4.own 81 w B G A n c xs) (hn : n ≤ 1000) (hV : Blk w vb 81 vs)
 (hy : LH4.rep w (fun b => G b ∧ (Value.slice A n c).ownBlock ≠ some b) y vs.toList) (hG : ∀ b, G b → b < w.heap.size) (hB : B ≤ w.heap.size) :
 Calls Try.prog 79 #[.slice A n c, .int .i64 n, .slice (some ⟨vb, 0, none⟩) 1 vc] w fun e w' =>
  ∃ A' c', e = .returned (.slice A' (n + 1) c') ∧ LH4.own 81 w' B G A' (n + 1) c' (xs ++ [y]) ∧ w.grownBy w' (Value.slice A n c).ownBlock ∧ ((Value.slice A' (n + 1) c').ownBlock = (Value.slice A n c).ownBlock ∨ (Value.slice A' (n + 1) c').ownBlock = some w.heap.size) := by
 obtain ⟨A', c', w', hr, ho, hg, hb⟩ := run_appL (P := Try.prog) (L := LH4) 34 34 (.agg #[.int .u64 0, .slice none 0 0, .bool false, .int .u64 0]) 4 48 Try.underlying34 infoH rfl rfl (by omega) B G A n c xs vb vc 81 vs y hown hV hy hG (by omega) (by simp only [maxLen]; omega) hB
 have HR := Lib.hid hr
 have HO := Lib.hid (And.intro ho (And.intro hg hb))
 have hca := Lay.own_caps hown
 have hfs : ∃ xx : Value, xx = .slice A n c := ⟨_, rfl⟩
 have hlow : A = none → n = 0 := fun e => by
  obtain ⟨_, cs, _, hrow⟩ := hown
  rcases hrow.2 with ⟨_, h⟩ | ⟨g, _, _, h, _⟩
  · exact h
  · injection h with h; rw [e] at h; cases h
 clear hown hV hy hG hB hr ho hg hb
 have hnn : ¬ (c < n) := by omega
 cases A with
 | none =>
  obtain rfl := hlow rfl
  go_enter Try.func79, Try.ntmps79
  go_wp2_with (at_builtin; refine Lib.wpList_append_run _ rfl _ _ _ _ rfl _ _ rfl rfl _ _ HR.out ?_)
  go_ret
  exact ⟨A', c', rfl, HO.out.1, HO.out.2.1, HO.out.2.2⟩
 | some ad =>
  go_enter Try.func79, Try.ntmps79
  go_wp2_with (at_builtin; refine Lib.wpList_append_run _ rfl _ _ _ _ rfl _ _ rfl rfl _ _ HR.out ?_)
  all_goals go_ret
  all_goals exact ⟨A', c', rfl, HO.out.1, HO.out.2.1, HO.out.2.2⟩
theorem shift_list {L cs vs M1 : List Value} {a N : Nat} (hL : L.take N = cs) (hlen : cs.length = N) (ha : a ≤ N) (hb : N + vs.length ≤ L.length) (hM : M1 = L.take (a + vs.length) ++ cs.drop a ++ L.drop (a + vs.length + (cs.drop a).length)) :
 (M1.take a ++ vs ++ M1.drop (a + vs.length)).take (N + vs.length) = cs.take a ++ (vs ++ cs.drop a) := by
 have h1 : M1.take a = cs.take a := by
  rw [hM, List.append_assoc, List.take_append_of_le_length (by rw [List.length_take]; omega), List.take_take, ← hL, List.take_take]
  congr 1
  omega
 have h2 : M1.drop (a + vs.length) = cs.drop a ++ L.drop (a + vs.length + (cs.drop a).length) := by
  rw [hM, List.append_assoc, List.drop_left' (by rw [List.length_take]; omega)]
 rw [h1, h2, ← List.append_assoc, List.append_assoc (cs.take a), List.take_left' (by simp only [List.length_append, List.length_take, List.length_drop]; omega)]
theorem grow_list {R cs vs M1 : List Value} {a N : Nat} (hR : R.take a = cs.take a) (hlen : cs.length = N) (ha : a ≤ N) (hb : N + vs.length ≤ R.length) (hM : M1 = R.take a ++ vs ++ R.drop (a + vs.length)) :
 (M1.take (a + vs.length) ++ cs.drop a ++ M1.drop (a + vs.length + (cs.drop a).length)).take (N + vs.length) = cs.take a ++ (vs ++ cs.drop a) := by
 have h1 : M1.take (a + vs.length) = cs.take a ++ vs := by
  rw [hM, List.take_left' (by simp only [List.length_append, List.length_take]; omega), hR]
 rw [h1, List.take_left' (by simp only [List.length_append, List.length_take, List.length_drop]; omega), List.append_assoc]
set_option maxRecDepth 100000 in
theorem insert_any (B : Nat) (G : Nat → Prop) (A : Option Addr) (n c i : Nat) (xs : List HC) (y : HC) (vb vc : Nat) (vs : Array Value) (w : World) (hown : LH4.own 81 w B G A n c xs) (hi : i ≤ n) (hn : n ≤ 1000) (hV : Blk w vb 81 vs) (hvb : (Value.slice A n c).ownBlock ≠ some vb)
 (hy : LH4.rep w (fun b => G b ∧ (Value.slice A n c).ownBlock ≠ some b) y vs.toList) (hG : ∀ b, G b → b < w.heap.size) (hB : B ≤ w.heap.size) :
 Calls Try.prog 79 #[.slice A n c, .int .i64 i, .slice (some ⟨vb, 0, none⟩) 1 vc] w fun e w' =>
  ∃ A' c', e = .returned (.slice A' (n + 1) c') ∧ LH4.own 81 w' B G A' (n + 1) c' (xs.take i ++ y :: xs.drop i) ∧ w.grownBy w' (Value.slice A n c).ownBlock ∧ ((Value.slice A' (n + 1) c').ownBlock = (Value.slice A n c).ownBlock ∨ (Value.slice A' (n + 1) c').ownBlock = some w.heap.size) := by
 rcases Nat.lt_or_ge i n with hlt | hge
 · obtain ⟨hl, cs, hreps, hrow⟩ := hown
   have hcl := Lay.reps_len hreps
   rw [hl] at hcl
   have hcl4 : cs.length = n * 4 := hcl
   have hvl : vs.toList.length = 4 := LH4.len hy
   have hV2 : Blk w vb 81 vs.toList.toArray := by simpa using hV
   have h1c := Lay.reps_one hreps
   have h1v := LH4.one hy
   rcases hrow.2 with ⟨_, h⟩ | ⟨g, cap, cur, e, hg, hh, hnc, hcm, hcs, htk⟩
   · omega
   injection e with e1 _ e3
   subst e1 e3
   have hcs4 : cur.size = c * 4 := hcs
   have htk4 : cur.toList.take (n * 4) = cs := htk
   have hcm2 : c ≤ 9223372036854775807 := by have := hcm; unfold maxLen at this; omega
   have hne : vb ≠ g := fun e => hvb (by simp [Value.ownBlock, e])
   have hgl : g < w.heap.size := (show Blk w g _ cur from hh).lt
   have hrr : LH4.reps w (fun b => G b ∧ (Value.slice (some ⟨g, 0, none⟩) n c).ownBlock ≠ some b) (xs.take i ++ y :: xs.drop i) (cs.take (i * 4) ++ (vs.toList ++ cs.drop (i * 4))) := by
    refine Lay.reps_append (Lay.reps_take i hreps) ?_
    exact ⟨vs.toList, cs.drop (i * 4), rfl, hy, Lay.reps_drop i hreps⟩
   have hll : (xs.take i ++ y :: xs.drop i).length = n + 1 := by simp only [List.length_append, List.length_take, List.length_cons, List.length_drop]; omega
   have hcl9 : (cs.take (i * 4) ++ (vs.toList ++ cs.drop (i * 4))).length = (n + 1) * 4 := by simp only [List.length_append, List.length_take, List.length_drop]; omega
   rcases Nat.lt_or_ge c (n + 1) with hr | hr
   · refine (ins_grow g n c i vb vc cs vs.toList cur w hlt hnc hr hn hcl4 hvl hh htk4 hV2 h1c h1v).mono ?_
     rintro e w' ⟨C, ROW, hC1, hC2, hRs, hRt, rfl, rfl⟩
     have b0 : Blk (w.alloc (.cells ROW 81)).drew w.heap.size 81 ROW.toList.toArray := by simpa using (Blk.new w 81 ROW).drew
     have b1 := blk_setMid vs.toList (i * 4) _ ROW.toList b0 (by rw [hvl]; simp; omega)
     have b2 := blk_setMid (cs.drop (i * 4)) ((i + 1) * 4) _ _ (Blk.drew b1) (by simp only [List.length_append, List.length_take, List.length_drop, Array.length_toList, hvl]; omega)
     have hgr : w.grownBy ((((w.alloc (.cells ROW 81)).drew.setCells w.heap.size (i * 4) vs.toList).drew).setCells w.heap.size ((i + 1) * 4) (cs.drop (i * 4))) (some w.heap.size) :=
      grown_setCells _ _ _ (only_drew (grown_setCells _ _ _ (only_drew ⟨rfl, rfl, rfl, by simp only [World.size_alloc]; omega, fun k hk _ => Below.heap_alloc w _ k hk⟩)))
     have hgr2 : w.grownBy ((((w.alloc (.cells ROW 81)).drew.setCells w.heap.size (i * 4) vs.toList).drew).setCells w.heap.size ((i + 1) * 4) (cs.drop (i * 4))) (some g) :=
      ⟨hgr.os, hgr.tape, hgr.output, hgr.size, fun k hk _ => hgr.block k hk (fun e => by injection e with e; omega)⟩
     have hs := Lay.reps_weak (G := fun b => G b ∧ (Value.slice (some ⟨w.heap.size, 0, none⟩) (n + 1) C).ownBlock ≠ some b) (fun b hb _ => ⟨hb.1, fun e => by
      have := hG b hb.1
      simp [Value.ownBlock] at e
      omega⟩) (Lay.reps_keep (fun b hb hl => hgr.block b hl (fun e => by injection e with e; omega)) hrr)
     refine ⟨_, _, rfl, ⟨hll, _, hs, hcl9, .inr ⟨_, _, _, rfl, hB, b2, hC1, hC2, ?_, ?_⟩⟩, hgr2, .inr rfl⟩
     · simp only [List.size_toArray, List.length_append, List.length_take, List.length_drop, Array.length_toList, hvl, hRs]
       show _ = C * 4
       omega
     · have := grow_list (vs := vs.toList) (a := i * 4) (N := n * 4) hRt hcl4 (by omega) (by rw [hvl]; simp; omega) rfl
       rw [hvl] at this
       rw [show (n + 1) * LH4.size = n * 4 + 4 from by show (n + 1) * 4 = _; omega]
       rw [show (i + 1) * 4 = i * 4 + 4 from by omega]
       simpa [hvl] using this
   · refine (ins_shift g n c i vb vc cs vs.toList cur w hlt hr hcm2 hne hcl4 hvl hh hcs4 htk4 hV2 h1c h1v).mono ?_
     rintro e w' ⟨rfl, rfl⟩
     have b0 : Blk w.drew g 81 cur.toList.toArray := by simpa using (show Blk w g _ cur from hh).drew
     have b1 := blk_setMid (cs.drop (i * 4)) ((i + 1) * 4) _ cur.toList b0 (by simp only [List.length_drop, Array.length_toList, hcs4]; omega)
     have b2 := blk_setMid vs.toList (i * 4) _ _ b1 (by simp only [List.length_append, List.length_take, List.length_drop, Array.length_toList, hvl, hcs4]; omega)
     have hgr : w.grownBy ((w.drew.setCells g ((i + 1) * 4) (cs.drop (i * 4))).setCells g (i * 4) vs.toList) (some g) := grown_setCells _ _ _ (grown_setCells _ _ _ (only_drew (World.grownBy.refl w _)))
     have hs := Lay.reps_keep (fun b hb hl => hgr.block b hl (fun e => hb.2 (by simp [Value.ownBlock]; injection e with e; exact e.symm))) hrr
     refine ⟨_, _, rfl, ⟨hll, _, hs, hcl9, .inr ⟨_, _, _, rfl, hg, b2, hr, hcm, ?_, ?_⟩⟩, hgr, .inl rfl⟩
     · simp only [List.size_toArray, List.length_append, List.length_take, List.length_drop, Array.length_toList, hvl, hcs4]
       show _ = c * 4
       omega
     · have := shift_list (vs := vs.toList) (a := i * 4) (N := n * 4) htk4 hcl4 (by omega) (by rw [hvl]; simp; omega) rfl
       rw [hvl] at this
       rw [show (n + 1) * LH4.size = n * 4 + 4 from by show (n + 1) * 4 = _; omega]
       rw [show (i + 1) * 4 = i * 4 + 4 from by omega]
       simpa [hvl] using this
 · obtain rfl : i = n := by omega
   have hl := hown.1
   rw [List.take_of_length_le (by omega), List.drop_of_length_le (by omega)]
   exact ins_end B G A i c xs y vb vc vs w hown hn hV hy hG hB
end Go.Proofs.Ytojghgbaiiajfaa
/- slices.Delete of the first ones of rows of one's own. Conditions: none. -/
namespace Go.Proofs.Ytojghgbaiiajfaa
open Go.RowKit
theorem run_clear_sliceK {P : Program} (w : World) (t e ty : TypeId) (z : Value) (ht : P.underlying t = some (.slice e)) (hv : (zeroValue e).run P w = .ok z w) (b o n c : Nat) (hn : 0 < n) (zs : List Value) (hz : (Builtin.zeroCells z.cells n).toList = zs) (h1 : ∀ v ∈ zs, v.oneCell' = true)
 (hc : ∀ j, j < zs.length → (w.cell? ⟨b, o + j, none⟩).isSome = true) (hf : ∀ j, j < zs.length → w.frozen? ⟨b, o + j, none⟩ = false) :
 (Builtin.clear_ #[t] ty #[.slice (some ⟨b, o, none⟩) n c]).run P w = .ok (.tuple #[]) (w.setCells b o zs) := by
 have hst := run_storeCells_cells (P := P) b o zs 0 w (by simpa using hc) (by simpa using hf) h1
 simp only [Nat.add_zero] at hst
 obtain ⟨m, rfl⟩ : ∃ m, n = m + 1 := ⟨n - 1, by omega⟩
 simp [Builtin.clear_, run_underlying ht, hv, hz, hst]
set_option maxHeartbeats 8000000 in
set_option maxRecDepth 100000 in
theorem del_run (b n c j : Nat) (cs : List Value) (cur : Array Value) (w : World) (hj0 : 0 < j) (hj : j ≤ n) (hnc : n ≤ c) (hcl : cs.length = n * 4)
 (hB : Blk w b 81 cur) (hcur : cur.size = c * 4) (htk : cur.toList.take (n * 4) = cs) (h1c : ∀ v ∈ cs, v.oneCell' = true) :
 Calls Try.prog 80 #[.slice (some ⟨b, 0, none⟩) n c, .int .i64 0, .int .i64 j] w fun e w' =>
  ∃ zs : List Value, zs.length = j * 4 ∧ e = .returned (.slice (some ⟨b, 0, none⟩) (n - j) c) ∧ w' = (w.drew.setCells b 0 (cs.drop (j * 4))).setCells b ((n - j) * 4) zs := by
 obtain ⟨i0, hi0, hz0, hzs, hzb⟩ := info_parts infoH
 obtain ⟨news, hnews⟩ : ∃ news, news = cs.drop (j * 4) := ⟨_, rfl⟩
 have hlen : news.length = (n - j) * 4 := by rw [hnews, List.length_drop, hcl]; omega
 have hcs : ∀ k v, cs[k]? = some v → w.cell? ⟨b, k, none⟩ = some v := fun k v hk => cell_list hB (by
  rw [← htk, List.getElem?_take] at hk
  split at hk
  · exact hk
  · cases hk)
 obtain ⟨A, hA, hsrc⟩ : ∃ A : Addr, (if c = j then some (⟨b, 0, none⟩ : Addr) else some ⟨b, j * 4, none⟩) = some A ∧ Hid (∀ t u, news[t]? = some u → w.drew.cell? (A.add t) = some u) := by
  by_cases h : c = j
  · refine ⟨⟨b, 0, none⟩, by simp [h], fun t u hu => ?_⟩
    have h0 : news.length = 0 := by rw [hlen]; omega
    rw [List.length_eq_zero_iff.1 h0] at hu
    simp at hu
  · refine ⟨⟨b, j * 4, none⟩, by simp [h], fun t u hu => ?_⟩
    rw [Addr.add_lit]
    rw [hnews, List.getElem?_drop] at hu
    exact hcs _ _ hu
 have s1 : Hid (news.length = (n - j) * 4) := hlen
 have s2 : Hid (∀ u ∈ news, u.oneCell' = true) := fun u hu => h1c u (by rw [hnews] at hu; exact List.mem_of_mem_drop hu)
 have hsp : ∀ k, k < n * 4 → (w.cell? ⟨b, k, none⟩).isSome = true := fun k hk => by
  rw [hB.cell k, Array.getElem?_eq_getElem (show k < cur.size by rw [hcur]; omega)]; rfl
 have s3 : Hid (∀ t, t < news.length → (w.drew.cell? ⟨b, 0 + 0 * 4 + t, none⟩).isSome = true ∧ w.drew.frozen? ⟨b, 0 + 0 * 4 + t, none⟩ = false) := fun t ht => by
  rw [hlen] at ht
  exact ⟨hsp (0 + 0 * 4 + t) (by omega), hB.frozen _⟩
 obtain ⟨W1, hW1⟩ : ∃ W1, W1 = w.drew.setCells b (0 + 0 * 4) news := ⟨_, rfl⟩
 obtain ⟨zz, hzz⟩ : ∃ zz : Value, zz = .agg #[.int .u64 0, .slice none 0 0, .bool false, .int .u64 0] := ⟨_, rfl⟩
 obtain ⟨zs, hzsd⟩ : ∃ zs, zs = (Builtin.zeroCells zz.cells (n - (n - j))).toList := ⟨_, rfl⟩
 have hzl : zs.length = j * 4 := by
  rw [hzsd, Array.length_toList, size_zeroCells, hzz]
  show (n - (n - j)) * 4 = _
  omega
 have hz1 : ∀ v ∈ zs, v.oneCell' = true := fun v hv => by
  rw [hzsd, hzz] at hv
  simp only [Builtin.zeroCells, Array.toList_map, List.mem_map] at hv
  obtain ⟨i, _, rfl⟩ := hv
  have h4 : i % 4 < 4 := Nat.mod_lt _ (by omega)
  show ((#[.int .u64 0, .slice none 0 0, .bool false, .int .u64 0] : Array Value)[i % 4]!).oneCell' = true
  rcases (show i % 4 = 0 ∨ i % 4 = 1 ∨ i % 4 = 2 ∨ i % 4 = 3 by omega) with h | h | h | h <;> rw [h] <;> rfl
 have hcl : ∀ ty cp, (Builtin.clear_ #[34] ty #[.slice (some ⟨b, (n - j) * 4, none⟩) (n - (n - j)) cp]).run Try.prog W1 = .ok (.tuple #[]) (W1.setCells b ((n - j) * 4) zs) := fun ty cp =>
  run_clear_sliceK W1 _ _ ty zz Try.underlying34 (by rw [hzz]; kernel_rfl) b ((n - j) * 4) (n - (n - j)) cp (by omega) zs hzsd.symm hz1
   (fun t ht => by rw [hW1]; exact isSome_setCellsI b _ _ w.drew (fun k hk => hsp (0 + 0 * 4 + k) (by rw [hlen] at hk; omega)) _ (hsp ((n - j) * 4 + t) (by rw [hzl] at ht; omega)))
   (fun t _ => by rw [hW1, World.frozen?_setCells]; exact hB.frozen _)
 have hW : Hid (W1 = w.drew.setCells b (0 + 0 * 4) news) := hW1
 have hNW : Hid (news = cs.drop (j * 4)) := hnews
 have hjc : j ≤ c := by omega
 have hz2 : ¬ ((0 : Int) = (j : Int)) := by omega
 have hcj : ¬ (c = n - j) := by omega
 have hu0 := Try.underlying34
 have mixed : Try.prog.follows Departure.mixedOrders = true := by kernel_rfl
 clear hW1 hnews hlen hcs hsp hz1 hzsd hzz htk h1c
 go_enter Try.func80, Try.ntmps80
 go_wp2_with fail
 go_region_law_o (refine step_append_room rfl (.tmp 22) (.tmp 25) 34 rfl 81 i0 4 hu0 hi0 hzs b 0 0 c (by simp [Act.eval, Act.put]) A (n - j) (c - j) news (by simp [Act.eval, Act.put]) s1.out hsrc.out s2.out (by omega) s3.out ?_; rw [← hW.out])
 go_wp2
 go_ret
 exact ⟨zs, hzl, by simp, by rw [hW.out, hNW.out]⟩
set_option maxRecDepth 100000 in
theorem del_zero (A : Option Addr) (n c : Nat) (w : World) (hA : A = none → n = 0) (hnc : n ≤ c) :
 Calls Try.prog 80 #[.slice A n c, .int .i64 0, .int .i64 0] w fun e w' => e = .returned (.slice A n c) ∧ w' = w := by
 cases A with
 | none =>
  obtain rfl := hA rfl
  go_enter Try.func80, Try.ntmps80
  go_wp2
  all_goals (go_ret; exact ⟨rfl, rfl⟩)
 | some ad =>
  go_enter Try.func80, Try.ntmps80
  go_wp2
  all_goals (go_ret; exact ⟨rfl, rfl⟩)
set_option maxRecDepth 100000 in
theorem del_any (B : Nat) (G : Nat → Prop) (A : Option Addr) (n c j : Nat) (xs : List HC) (w : World) (hown : LH4.own 81 w B G A n c xs) (hj : j ≤ n) :
 Calls Try.prog 80 #[.slice A n c, .int .i64 0, .int .i64 j] w fun e w' =>
  e = .returned (.slice A (n - j) c) ∧ LH4.own 81 w' B G A (n - j) c (xs.drop j) ∧ w.grownBy w' (Value.slice A n c).ownBlock := by
 obtain ⟨hl, cs, hreps, hrow⟩ := hown
 have hcl := Lay.reps_len hreps
 rw [hl] at hcl
 have hcl4 : cs.length = n * 4 := hcl
 have hdl : (xs.drop j).length = n - j := by rw [List.length_drop, hl]
 have hdc : (cs.drop (j * 4)).length = (n - j) * 4 := by rw [List.length_drop]; omega
 rcases Nat.eq_zero_or_pos j with rfl | hj0
 · have hA : A = none → n = 0 := fun e => by
    rcases hrow.2 with ⟨_, h⟩ | ⟨g, _, _, h, _⟩
    · exact h
    · injection h with h; rw [e] at h; cases h
   have hcap := Lay.own_caps (L := LH4) ⟨hl, cs, hreps, hrow⟩
   refine (del_zero A n c w hA hcap.1).mono ?_
   rintro e w' ⟨rfl, rfl⟩
   exact ⟨rfl, ⟨hl, cs, hreps, hrow⟩, World.grownBy.refl _ _⟩
 · rcases hrow.2 with ⟨_, h⟩ | ⟨g, cap, cur, e, hg, hh, hnc, hcm, hcs, htk⟩
   · omega
   injection e with e1 _ e3
   subst e1 e3
   have hcs4 : cur.size = c * 4 := hcs
   have htk4 : cur.toList.take (n * 4) = cs := htk
   refine (del_run g n c j cs cur w hj0 hj hnc hcl4 hh hcs4 htk4 (Lay.reps_one hreps)).mono ?_
   rintro e w' ⟨zs, hzl, rfl, rfl⟩
   have b0 : Blk w.drew g 81 cur.toList.toArray := by simpa using (show Blk w g _ cur from hh).drew
   have b1 := blk_setMid (cs.drop (j * 4)) 0 _ cur.toList b0 (by rw [hdc, Array.length_toList, hcs4]; omega)
   have b2 := blk_setMid zs ((n - j) * 4) _ _ b1 (by simp only [List.length_append, List.length_take, List.length_drop, Array.length_toList, hcs4, hzl]; omega)
   have hgr : w.grownBy ((w.drew.setCells g 0 (cs.drop (j * 4))).setCells g ((n - j) * 4) zs) (some g) := grown_setCells _ _ _ (grown_setCells _ _ _ (only_drew (World.grownBy.refl w _)))
   have hs := Lay.reps_keep (fun b hb hl => hgr.block b hl (fun e => hb.2 (by simp [Value.ownBlock]; injection e with e; exact e.symm))) (Lay.reps_drop j hreps)
   refine ⟨rfl, ⟨hdl, _, hs, hdc, .inr ⟨_, _, _, rfl, hg, b2, by omega, hcm, ?_, ?_⟩⟩, hgr⟩
   · simp only [List.size_toArray, List.length_append, List.length_take, List.length_drop, Array.length_toList, hcs4, hzl]
     show _ = c * 4
     omega
   · show List.take ((n - j) * 4) _ = cs.drop (j * 4)
     simp only [List.take_zero, List.nil_append]
     rw [List.append_assoc, List.take_append_of_le_length (by rw [List.length_take, List.length_append, hdc]; omega), List.take_take, Nat.min_self, List.take_left' hdc]
end Go.Proofs.Ytojghgbaiiajfaa
