/- slices.Insert of one row into rows of one's own, whole. Conditions: none. -/
import Derived.Test.YtojghgbaiiajfaaPkE13
import Derived.Lib.SlicesDelete
import Derived.Deep.RegionLaw
namespace Go.Proofs.Ytojghgbaiiajfaa
open Go.RowKit
set_option maxHeartbeats 8000000 in
set_option maxRecDepth 100000 in
theorem ins_end (B : Nat) (G : Nat → Prop) (A : Option Addr) (n c : Nat) (xs : List HC) (y : HC) (vb vc : Nat) (vs : Array Value) (w : World) (hown : LH4.own 81 w B G A n c xs) (hn : n ≤ 1000) (hV : Blk w vb 81 vs)
 (hy : LH4.rep w (fun b => G b ∧ (Value.slice A n c).ownBlock ≠ some b) y vs.toList) (hG : ∀ b, G b → b < w.heap.size) (hB : B ≤ w.heap.size) :
 Calls Try.prog 79 #[.slice A n c, .int .i64 n, .slice (some ⟨vb, 0, none⟩) 1 vc] w fun e w' =>
  ∃ A' c', e = .returned (.slice A' (n + 1) c') ∧ LH4.own 81 w' B G A' (n + 1) c' (xs ++ [y]) ∧ w.grownBy w' (Value.slice A n c).ownBlock ∧ ((Value.slice A' (n + 1) c').ownBlock = (Value.slice A n c).ownBlock ∨ (Value.slice A' (n + 1) c').ownBlock = some w.heap.size) := by
 obtain ⟨A', c', w', hr, ho, hg, hb⟩ := run_appL (P := Try.prog) (L := LH4) 34 34 (.agg #[.int .u64 0, .slice none 0 0, .bool false, .int .u64 0]) 4 48 Try.underlying34 infoH rfl rfl (by omega) B G A n c xs vb vc 81 vs y hown hV hy hG (by omega) (by simp only [maxLen]; omega) hB
 have HR := Lib.hid hr
 have HO := Lib.hid (And.intro ho (And.intro hg hb))
 have hca := Lay.own_caps hown
 have hfs : ∃ xx : Value, xx = .slice A n c := ⟨_, rfl⟩
 have hlow : A = none → n = 0 := fun e => by
  obtain ⟨_, cs, _, hrow⟩ := hown
  rcases hrow.2 with ⟨_, h⟩ | ⟨g, _, _, h, _⟩
  · exact h
  · injection h with h; rw [e] at h; cases h
 clear hown hV hy hG hB hr ho hg hb
 have hnn : ¬ (c < n) := by omega
 cases A with
 | none =>
  obtain rfl := hlow rfl
  go_enter Try.func79, Try.ntmps79
  go_wp2_with (at_builtin; refine Lib.wpList_append_run _ rfl _ _ _ _ rfl _ _ rfl rfl _ _ HR.out ?_)
  go_ret
  exact ⟨A', c', rfl, HO.out.1, HO.out.2.1, HO.out.2.2⟩
 | some ad =>
  go_enter Try.func79, Try.ntmps79
  go_wp2_with (at_builtin; refine Lib.wpList_append_run _ rfl _ _ _ _ rfl _ _ rfl rfl _ _ HR.out ?_)
  all_goals go_ret
  all_goals exact ⟨A', c', rfl, HO.out.1, HO.out.2.1, HO.out.2.2⟩
theorem shift_list {L cs vs M1 : List Value} {a N : Nat} (hL : L.take N = cs) (hlen : cs.length = N) (ha : a ≤ N) (hb : N + vs.length ≤ L.length) (hM : M1 = L.take (a + vs.length) ++ cs.drop a ++ L.drop (a + vs.length + (cs.drop a).length)) :
 (M1.take a ++ vs ++ M1.drop (a + vs.length)).take (N + vs.length) = cs.take a ++ (vs ++ cs.drop a) := by
 have h1 : M1.take a = cs.take a := by
  rw [hM, List.append_assoc, List.take_append_of_le_length (by rw [List.length_take]; omega), List.take_take, ← hL, List.take_take]
  congr 1
  omega
 have h2 : M1.drop (a + vs.length) = cs.drop a ++ L.drop (a + vs.length + (cs.drop a).length) := by
  rw [hM, List.append_assoc, List.drop_left' (by rw [List.length_take]; omega)]
 rw [h1, h2, ← List.append_assoc, List.append_assoc (cs.take a), List.take_left' (by simp only [List.length_append, List.length_take, List.length_drop]; omega)]
theorem grow_list {R cs vs M1 : List Value} {a N : Nat} (hR : R.take a = cs.take a) (hlen : cs.length = N) (ha : a ≤ N) (hb : N + vs.length ≤ R.length) (hM : M1 = R.take a ++ vs ++ R.drop (a + vs.length)) :
 (M1.take (a + vs.length) ++ cs.drop a ++ M1.drop (a + vs.length + (cs.drop a).length)).take (N + vs.length) = cs.take a ++ (vs ++ cs.drop a) := by
 have h1 : M1.take (a + vs.length) = cs.take a ++ vs := by
  rw [hM, List.take_left' (by simp only [List.length_append, List.length_take]; omega), hR]
 rw [h1, List.take_left' (by simp only [List.length_append, List.length_take, List.length_drop]; omega), List.append_assoc]
set_option maxRecDepth 100000 in
theorem insert_any (B : Nat) (G : Nat → Prop) (A : Option Addr) (n c i : Nat) (xs : List HC) (y : HC) (vb vc : Nat) (vs : Array Value) (w : World) (hown : LH4.own 81 w B G A n c xs) (hi : i ≤ n) (hn : n ≤ 1000) (hV : Blk w vb 81 vs) (hvb : (Value.slice A n c).ownBlock ≠ some vb)
 (hy : LH4.rep w (fun b => G b ∧ (Value.slice A n c).ownBlock ≠ some b) y vs.toList) (hG : ∀ b, G b → b < w.heap.size) (hB : B ≤ w.heap.size) :
 Calls Try.prog 79 #[.slice A n c, .int .i64 i, .slice (some ⟨vb, 0, none⟩) 1 vc] w fun e w' =>
  ∃ A' c', e = .returned (.slice A' (n + 1) c') ∧ LH4.own 81 w' B G A' (n + 1) c' (xs.take i ++ y :: xs.drop i) ∧ w.grownBy w' (Value.slice A n c).ownBlock ∧ ((Value.slice A' (n + 1) c').ownBlock = (Value.slice A n c).ownBlock ∨ (Value.slice A' (n + 1) c').ownBlock = some w.heap.size) := by
 rcases Nat.lt_or_ge i n with hlt | hge
 · obtain ⟨hl, cs, hreps, hrow⟩ := hown
   have hcl := Lay.reps_len hreps
   rw [hl] at hcl
   have hcl4 : cs.length = n * 4 := hcl
   have hvl : vs.toList.length = 4 := LH4.len hy
   have hV2 : Blk w vb 81 vs.toList.toArray := by simpa using hV
   have h1c := Lay.reps_one hreps
   have h1v := LH4.one hy
   rcases hrow.2 with ⟨_, h⟩ | ⟨g, cap, cur, e, hg, hh, hnc, hcm, hcs, htk⟩
   · omega
   injection e with e1 _ e3
   subst e1 e3
   have hcs4 : cur.size = c * 4 := hcs
   have htk4 : cur.toList.take (n * 4) = cs := htk
   have hcm2 : c ≤ 9223372036854775807 := by have := hcm; unfold maxLen at this; omega
   have hne : vb ≠ g := fun e => hvb (by simp [Value.ownBlock, e])
   have hgl : g < w.heap.size := (show Blk w g _ cur from hh).lt
   have hrr : LH4.reps w (fun b => G b ∧ (Value.slice (some ⟨g, 0, none⟩) n c).ownBlock ≠ some b) (xs.take i ++ y :: xs.drop i) (cs.take (i * 4) ++ (vs.toList ++ cs.drop (i * 4))) := by
    refine Lay.reps_append (Lay.reps_take i hreps) ?_
    exact ⟨vs.toList, cs.drop (i * 4), rfl, hy, Lay.reps_drop i hreps⟩
   have hll : (xs.take i ++ y :: xs.drop i).length = n + 1 := by simp only [List.length_append, List.length_take, List.length_cons, List.length_drop]; omega
   have hcl9 : (cs.take (i * 4) ++ (vs.toList ++ cs.drop (i * 4))).length = (n + 1) * 4 := by simp only [List.length_append, List.length_take, List.length_drop]; omega
   rcases Nat.lt_or_ge c (n + 1) with hr | hr
   · refine (ins_grow g n c i vb vc cs vs.toList cur w hlt hnc hr hn hcl4 hvl hh htk4 hV2 h1c h1v).mono ?_
     rintro e w' ⟨C, ROW, hC1, hC2, hRs, hRt, rfl, rfl⟩
     have b0 : Blk (w.alloc (.cells ROW 81)).drew w.heap.size 81 ROW.toList.toArray := by simpa using (Blk.new w 81 ROW).drew
     have b1 := blk_setMid vs.toList (i * 4) _ ROW.toList b0 (by rw [hvl]; simp; omega)
     have b2 := blk_setMid (cs.drop (i * 4)) ((i + 1) * 4) _ _ (Blk.drew b1) (by simp only [List.length_append, List.length_take, List.length_drop, Array.length_toList, hvl]; omega)
     have hgr : w.grownBy ((((w.alloc (.cells ROW 81)).drew.setCells w.heap.size (i * 4) vs.toList).drew).setCells w.heap.size ((i + 1) * 4) (cs.drop (i * 4))) (some w.heap.size) :=
      grown_setCells _ _ _ (only_drew (grown_setCells _ _ _ (only_drew ⟨rfl, rfl, rfl, by simp only [World.size_alloc]; omega, fun k hk _ => Below.heap_alloc w _ k hk⟩)))
     have hgr2 : w.grownBy ((((w.alloc (.cells ROW 81)).drew.setCells w.heap.size (i * 4) vs.toList).drew).setCells w.heap.size ((i + 1) * 4) (cs.drop (i * 4))) (some g) :=
      ⟨hgr.os, hgr.tape, hgr.output, hgr.size, fun k hk _ => hgr.block k hk (fun e => by injection e with e; omega)⟩
     have hs := Lay.reps_weak (G := fun b => G b ∧ (Value.slice (some ⟨w.heap.size, 0, none⟩) (n + 1) C).ownBlock ≠ some b) (fun b hb _ => ⟨hb.1, fun e => by
      have := hG b hb.1
      simp [Value.ownBlock] at e
      omega⟩) (Lay.reps_keep (fun b hb hl => hgr.block b hl (fun e => by injection e with e; omega)) hrr)
     refine ⟨_, _, rfl, ⟨hll, _, hs, hcl9, .inr ⟨_, _, _, rfl, hB, b2, hC1, hC2, ?_, ?_⟩⟩, hgr2, .inr rfl⟩
     · simp only [List.size_toArray, List.length_append, List.length_take, List.length_drop, Array.length_toList, hvl, hRs]
       show _ = C * 4
       omega
     · have := grow_list (vs := vs.toList) (a := i * 4) (N := n * 4) hRt hcl4 (by omega) (by rw [hvl]; simp; omega) rfl
       rw [hvl] at this
       rw [show (n + 1) * LH4.size = n * 4 + 4 from by show (n + 1) * 4 = _; omega]
       rw [show (i + 1) * 4 = i * 4 + 4 from by omega]
       simpa [hvl] using this
   · refine (ins_shift g n c i vb vc cs vs.toList cur w hlt hr hcm2 hne hcl4 hvl hh hcs4 htk4 hV2 h1c h1v).mono ?_
     rintro e w' ⟨rfl, rfl⟩
     have b0 : Blk w.drew g 81 cur.toList.toArray := by simpa using (show Blk w g _ cur from hh).drew
     have b1 := blk_setMid (cs.drop (i * 4)) ((i + 1) * 4) _ cur.toList b0 (by simp only [List.length_drop, Array.length_toList, hcs4]; omega)
     have b2 := blk_setMid vs.toList (i * 4) _ _ b1 (by simp only [List.length_append, List.length_take, List.length_drop, Array.length_toList, hvl, hcs4]; omega)
     have hgr : w.grownBy ((w.drew.setCells g ((i + 1) * 4) (cs.drop (i * 4))).setCells g (i * 4) vs.toList) (some g) := grown_setCells _ _ _ (grown_setCells _ _ _ (only_drew (World.grownBy.refl w _)))
     have hs := Lay.reps_keep (fun b hb hl => hgr.block b hl (fun e => hb.2 (by simp [Value.ownBlock]; injection e with e; exact e.symm))) hrr
     refine ⟨_, _, rfl, ⟨hll, _, hs, hcl9, .inr ⟨_, _, _, rfl, hg, b2, hr, hcm, ?_, ?_⟩⟩, hgr, .inl rfl⟩
     · simp only [List.size_toArray, List.length_append, List.length_take, List.length_drop, Array.length_toList, hvl, hcs4]
       show _ = c * 4
       omega
     · have := shift_list (vs := vs.toList) (a := i * 4) (N := n * 4) htk4 hcl4 (by omega) (by rw [hvl]; simp; omega) rfl
       rw [hvl] at this
       rw [show (n + 1) * LH4.size = n * 4 + 4 from by show (n + 1) * 4 = _; omega]
       rw [show (i + 1) * 4 = i * 4 + 4 from by omega]
       simpa [hvl] using this
 · obtain rfl : i = n := by omega
   have hl := hown.1
   rw [List.take_of_length_le (by omega), List.drop_of_length_le (by omega)]
   exact ins_end B G A i c xs y vb vc vs w hown hn hV hy hG hB
end Go.Proofs.Ytojghgbaiiajfaa
/- slices.Delete of the first ones of rows of one's own. Conditions: none. -/
namespace Go.Proofs.Ytojghgbaiiajfaa
open Go.RowKit
theorem run_clear_sliceK {P : Program} (w : World) (t e ty : TypeId) (z : Value) (ht : P.underlying t = some (.slice e)) (hv : (zeroValue e).run P w = .ok z w) (b o n c : Nat) (hn : 0 < n) (zs : List Value) (hz : (Builtin.zeroCells z.cells n).toList = zs) (h1 : ∀ v ∈ zs, v.oneCell' = true)
 (hc : ∀ j, j < zs.length → (w.cell? ⟨b, o + j, none⟩).isSome = true) (hf : ∀ j, j < zs.length → w.frozen? ⟨b, o + j, none⟩ = false) :
 (Builtin.clear_ #[t] ty #[.slice (some ⟨b, o, none⟩) n c]).run P w = .ok (.tuple #[]) (w.setCells b o zs) := by
 have hst := run_storeCells_cells (P := P) b o zs 0 w (by simpa using hc) (by simpa using hf) h1
 simp only [Nat.add_zero] at hst
 obtain ⟨m, rfl⟩ : ∃ m, n = m + 1 := ⟨n - 1, by omega⟩
 simp [Builtin.clear_, run_underlying ht, hv, hz, hst]
set_option maxHeartbeats 8000000 in
set_option maxRecDepth 100000 in
theorem del_run (b n c j : Nat) (cs : List Value) (cur : Array Value) (w : World) (hj0 : 0 < j) (hj : j ≤ n) (hnc : n ≤ c) (hcl : cs.length = n * 4)
 (hB : Blk w b 81 cur) (hcur : cur.size = c * 4) (htk : cur.toList.take (n * 4) = cs) (h1c : ∀ v ∈ cs, v.oneCell' = true) :
 Calls Try.prog 80 #[.slice (some ⟨b, 0, none⟩) n c, .int .i64 0, .int .i64 j] w fun e w' =>
  ∃ zs : List Value, zs.length = j * 4 ∧ e = .returned (.slice (some ⟨b, 0, none⟩) (n - j) c) ∧ w' = (w.drew.setCells b 0 (cs.drop (j * 4))).setCells b ((n - j) * 4) zs := by
 obtain ⟨i0, hi0, hz0, hzs, hzb⟩ := info_parts infoH
 obtain ⟨news, hnews⟩ : ∃ news, news = cs.drop (j * 4) := ⟨_, rfl⟩
 have hlen : news.length = (n - j) * 4 := by rw [hnews, List.length_drop, hcl]; omega
 have hcs : ∀ k v, cs[k]? = some v → w.cell? ⟨b, k, none⟩ = some v := fun k v hk => cell_list hB (by
  rw [← htk, List.getElem?_take] at hk
  split at hk
  · exact hk
  · cases hk)
 obtain ⟨A, hA, hsrc⟩ : ∃ A : Addr, (if c = j then some (⟨b, 0, none⟩ : Addr) else some ⟨b, j * 4, none⟩) = some A ∧ Hid (∀ t u, news[t]? = some u → w.drew.cell? (A.add t) = some u) := by
  by_cases h : c = j
  · refine ⟨⟨b, 0, none⟩, by simp [h], fun t u hu => ?_⟩
    have h0 : news.length = 0 := by rw [hlen]; omega
    rw [List.length_eq_zero_iff.1 h0] at hu
    simp at hu
  · refine ⟨⟨b, j * 4, none⟩, by simp [h], fun t u hu => ?_⟩
    rw [Addr.add_lit]
    rw [hnews, List.getElem?_drop] at hu
    exact hcs _ _ hu
 have s1 : Hid (news.length = (n - j) * 4) := hlen
 have s2 : Hid (∀ u ∈ news, u.oneCell' = true) := fun u hu => h1c u (by rw [hnews] at hu; exact List.mem_of_mem_drop hu)
 have hsp : ∀ k, k < n * 4 → (w.cell? ⟨b, k, none⟩).isSome = true := fun k hk => by
  rw [hB.cell k, Array.getElem?_eq_getElem (show k < cur.size by rw [hcur]; omega)]; rfl
 have s3 : Hid (∀ t, t < news.length → (w.drew.cell? ⟨b, 0 + 0 * 4 + t, none⟩).isSome = true ∧ w.drew.frozen? ⟨b, 0 + 0 * 4 + t, none⟩ = false) := fun t ht => by
  rw [hlen] at ht
  exact ⟨hsp (0 + 0 * 4 + t) (by omega), hB.frozen _⟩
 obtain ⟨W1, hW1⟩ : ∃ W1, W1 = w.drew.setCells b (0 + 0 * 4) news := ⟨_, rfl⟩
 obtain ⟨zz, hzz⟩ : ∃ zz : Value, zz = .agg #[.int .u64 0, .slice none 0 0, .bool false, .int .u64 0] := ⟨_, rfl⟩
 obtain ⟨zs, hzsd⟩ : ∃ zs, zs = (Builtin.zeroCells zz.cells (n - (n - j))).toList := ⟨_, rfl⟩
 have hzl : zs.length = j * 4 := by
  rw [hzsd, Array.length_toList, size_zeroCells, hzz]
  show (n - (n - j)) * 4 = _
  omega
 have hz1 : ∀ v ∈ zs, v.oneCell' = true := fun v hv => by
  rw [hzsd, hzz] at hv
  simp only [Builtin.zeroCells, Array.toList_map, List.mem_map] at hv
  obtain ⟨i, _, rfl⟩ := hv
  have h4 : i % 4 < 4 := Nat.mod_lt _ (by omega)
  show ((#[.int .u64 0, .slice none 0 0, .bool false, .int .u64 0] : Array Value)[i % 4]!).oneCell' = true
  rcases (show i % 4 = 0 ∨ i % 4 = 1 ∨ i % 4 = 2 ∨ i % 4 = 3 by omega) with h | h | h | h <;> rw [h] <;> rfl
 have hcl : ∀ ty cp, (Builtin.clear_ #[34] ty #[.slice (some ⟨b, (n - j) * 4, none⟩) (n - (n - j)) cp]).run Try.prog W1 = .ok (.tuple #[]) (W1.setCells b ((n - j) * 4) zs) := fun ty cp =>
  run_clear_sliceK W1 _ _ ty zz Try.underlying34 (by rw [hzz]; kernel_rfl) b ((n - j) * 4) (n - (n - j)) cp (by omega) zs hzsd.symm hz1
   (fun t ht => by rw [hW1]; exact isSome_setCellsI b _ _ w.drew (fun k hk => hsp (0 + 0 * 4 + k) (by rw [hlen] at hk; omega)) _ (hsp ((n - j) * 4 + t) (by rw [hzl] at ht; omega)))
   (fun t _ => by rw [hW1, World.frozen?_setCells]; exact hB.frozen _)
 have hW : Hid (W1 = w.drew.setCells b (0 + 0 * 4) news) := hW1
 have hNW : Hid (news = cs.drop (j * 4)) := hnews
 have hjc : j ≤ c := by omega
 have hz2 : ¬ ((0 : Int) = (j : Int)) := by omega
 have hcj : ¬ (c = n - j) := by omega
 have hu0 := Try.underlying34
 have mixed : Try.prog.follows Departure.mixedOrders = true := by kernel_rfl
 clear hW1 hnews hlen hcs hsp hz1 hzsd hzz htk h1c
 go_enter Try.func80, Try.ntmps80
 go_wp2_with fail
 go_region_law_o (refine step_append_room rfl (.tmp 22) (.tmp 25) 34 rfl 81 i0 4 hu0 hi0 hzs b 0 0 c (by simp [Act.eval, Act.put]) A (n - j) (c - j) news (by simp [Act.eval, Act.put]) s1.out hsrc.out s2.out (by omega) s3.out ?_; rw [← hW.out])
 go_wp2
 go_ret
 exact ⟨zs, hzl, by simp, by rw [hW.out, hNW.out]⟩
set_option maxRecDepth 100000 in
theorem del_zero (A : Option Addr) (n c : Nat) (w : World) (hA : A = none → n = 0) (hnc : n ≤ c) :
 Calls Try.prog 80 #[.slice A n c, .int .i64 0, .int .i64 0] w fun e w' => e = .returned (.slice A n c) ∧ w' = w := by
 cases A with
 | none =>
  obtain rfl := hA rfl
  go_enter Try.func80, Try.ntmps80
  go_wp2
  all_goals (go_ret; exact ⟨rfl, rfl⟩)
 | some ad =>
  go_enter Try.func80, Try.ntmps80
  go_wp2
  all_goals (go_ret; exact ⟨rfl, rfl⟩)
set_option maxRecDepth 100000 in
theorem del_any (B : Nat) (G : Nat → Prop) (A : Option Addr) (n c j : Nat) (xs : List HC) (w : World) (hown : LH4.own 81 w B G A n c xs) (hj : j ≤ n) :
 Calls Try.prog 80 #[.slice A n c, .int .i64 0, .int .i64 j] w fun e w' =>
  e = .returned (.slice A (n - j) c) ∧ LH4.own 81 w' B G A (n - j) c (xs.drop j) ∧ w.grownBy w' (Value.slice A n c).ownBlock := by
 obtain ⟨hl, cs, hreps, hrow⟩ := hown
 have hcl := Lay.reps_len hreps
 rw [hl] at hcl
 have hcl4 : cs.length = n * 4 := hcl
 have hdl : (xs.drop j).length = n - j := by rw [List.length_drop, hl]
 have hdc : (cs.drop (j * 4)).length = (n - j) * 4 := by rw [List.length_drop]; omega
 rcases Nat.eq_zero_or_pos j with rfl | hj0
 · have hA : A = none → n = 0 := fun e => by
    rcases hrow.2 with ⟨_, h⟩ | ⟨g, _, _, h, _⟩
    · exact h
    · injection h with h; rw [e] at h; cases h
   have hcap := Lay.own_caps (L := LH4) ⟨hl, cs, hreps, hrow⟩
   refine (del_zero A n c w hA hcap.1).mono ?_
   rintro e w' ⟨rfl, rfl⟩
   exact ⟨rfl, ⟨hl, cs, hreps, hrow⟩, World.grownBy.refl _ _⟩
 · rcases hrow.2 with ⟨_, h⟩ | ⟨g, cap, cur, e, hg, hh, hnc, hcm, hcs, htk⟩
   · omega
   injection e with e1 _ e3
   subst e1 e3
   have hcs4 : cur.size = c * 4 := hcs
   have htk4 : cur.toList.take (n * 4) = cs := htk
   refine (del_run g n c j cs cur w hj0 hj hnc hcl4 hh hcs4 htk4 (Lay.reps_one hreps)).mono ?_
   rintro e w' ⟨zs, hzl, rfl, rfl⟩
   have b0 : Blk w.drew g 81 cur.toList.toArray := by simpa using (show Blk w g _ cur from hh).drew
   have b1 := blk_setMid (cs.drop (j * 4)) 0 _ cur.toList b0 (by rw [hdc, Array.length_toList, hcs4]; omega)
   have b2 := blk_setMid zs ((n - j) * 4) _ _ b1 (by simp only [List.length_append, List.length_take, List.length_drop, Array.length_toList, hcs4, hzl]; omega)
   have hgr : w.grownBy ((w.drew.setCells g 0 (cs.drop (j * 4))).setCells g ((n - j) * 4) zs) (some g) := grown_setCells _ _ _ (grown_setCells _ _ _ (only_drew (World.grownBy.refl w _)))
   have hs := Lay.reps_keep (fun b hb hl => hgr.block b hl (fun e => hb.2 (by simp [Value.ownBlock]; injection e with e; exact e.symm))) (Lay.reps_drop j hreps)
   refine ⟨rfl, ⟨hdl, _, hs, hdc, .inr ⟨_, _, _, rfl, hg, b2, by omega, hcm, ?_, ?_⟩⟩, hgr⟩
   · simp only [List.size_toArray, List.length_append, List.length_take, List.length_drop, Array.length_toList, hcs4, hzl]
     show _ = c * 4
     omega
   · show List.take ((n - j) * 4) _ = cs.drop (j * 4)
     simp only [List.take_zero, List.nil_append]
     rw [List.append_assoc, List.take_append_of_le_length (by rw [List.length_take, List.length_append, hdc]; omega), List.take_take, Nat.min_self, List.take_left' hdc]
end Go.Proofs.Ytojghgbaiiajfaa
