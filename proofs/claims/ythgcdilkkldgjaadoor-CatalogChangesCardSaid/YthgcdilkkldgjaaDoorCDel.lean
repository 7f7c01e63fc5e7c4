/- slices.Delete of one table of tables of one's own. Conditions: the place is there. -/
import Derived.Test.YthgcdilkkldgjaaDoorCAdd
import Derived.Lib.SlicesDelete
import Derived.Deep.RegionLaw
import Derived.Shelf.RegionOpen
import Derived.Shelf.RegionOpenPlain
namespace Go.Proofs.YthgcdilkkldgjaaDoor
open Go.RowKit
theorem isSome_setCellsI (b : Nat) (vs : List Value) (o : Nat) (w : World) (h : ∀ j, j < vs.length → (w.cell? ⟨b, o + j, none⟩).isSome = true) (k : Nat) (hk : (w.cell? ⟨b, k, none⟩).isSome = true) : ((w.setCells b o vs).cell? ⟨b, k, none⟩).isSome = true := by
  by_cases hin : o ≤ k ∧ k < o + vs.length
  · have := World.cell?_setCells_in b vs o w h (k - o) (by omega)
    rw [show o + (k - o) = k by omega] at this
    rw [this]; rfl
  · rw [World.cell?_setCells_out b vs o w ⟨b, k, none⟩ (fun _ _ => by show k < o ∨ o + vs.length ≤ k; omega)]
    exact hk
theorem cell_list {w : World} {g : Nat} {t : TypeId} {cs : Array Value} (h : Blk w g t cs) {j : Nat} {v : Value} (hj : cs.toList[j]? = some v) : w.cell? ⟨g, j, none⟩ = some v := by
  have := h.cell j
  rw [this]
  simpa using hj
theorem run_clear_sliceK {P : Program} (w : World) (t e ty : TypeId) (z : Value) (ht : P.underlying t = some (.slice e)) (hv : (zeroValue e).run P w = .ok z w) (b o n c : Nat) (hn : 0 < n) (zs : List Value) (hz : (Builtin.zeroCells z.cells n).toList = zs) (h1 : ∀ v ∈ zs, v.oneCell' = true)
    (hc : ∀ j, j < zs.length → (w.cell? ⟨b, o + j, none⟩).isSome = true) (hf : ∀ j, j < zs.length → w.frozen? ⟨b, o + j, none⟩ = false) :
    (Builtin.clear_ #[t] ty #[.slice (some ⟨b, o, none⟩) n c]).run P w = .ok (.tuple #[]) (w.setCells b o zs) := by
  have hst := run_storeCells_cells (P := P) b o zs 0 w (by simpa using hc) (by simpa using hf) h1
  simp only [Nat.add_zero] at hst
  obtain ⟨m, rfl⟩ : ∃ m, n = m + 1 := ⟨n - 1, by omega⟩
  simp [Builtin.clear_, run_underlying ht, hv, hz, hst]
set_option maxHeartbeats 8000000 in
set_option maxRecDepth 100000 in
theorem del_run (b n c i j : Nat) (cs : List Value) (cur : Array Value) (w : World) (hi : i < j) (hi2 : j ≤ i + 1) (hj : j ≤ n) (hnc : n ≤ c) (hbig : n ≤ 100000) (hcl : cs.length = n * 3)
    (hB : Blk w b 28 cur) (hcur : cur.size = c * 3) (htk : cur.toList.take (n * 3) = cs) (h1c : ∀ v ∈ cs, v.oneCell' = true) :
    Calls Tryd.prog 32 #[.slice (some ⟨b, 0, none⟩) n c, .int .i64 i, .int .i64 j] w fun e w' =>
      ∃ zs : List Value, zs.length = 3 ∧ e = .returned (.slice (some ⟨b, 0, none⟩) (n - 1) c) ∧ w' = (w.drew.setCells b (i * 3) (cs.drop (j * 3))).setCells b ((n - 1) * 3) zs := by
  obtain ⟨i0, hi0, hz0, hzs, hzb⟩ := info_parts Tryd.tableInfo
  obtain ⟨news, hnews⟩ : ∃ news, news = cs.drop (j * 3) := ⟨_, rfl⟩
  have hlen : news.length = (n - j) * 3 := by rw [hnews, List.length_drop, hcl]; omega
  have hcs : ∀ k v, cs[k]? = some v → w.cell? ⟨b, k, none⟩ = some v := fun k v hk => cell_list hB (by
    rw [← htk, List.getElem?_take] at hk
    split at hk
    · exact hk
    · cases hk)
  obtain ⟨A, hA, hsrc⟩ : ∃ A : Addr, (if c = j then some (⟨b, 0, none⟩ : Addr) else some ⟨b, j * 3, none⟩) = some A ∧ Hid (∀ t u, news[t]? = some u → w.drew.cell? (A.add t) = some u) := by
    by_cases h : c = j
    · refine ⟨⟨b, 0, none⟩, by simp [h], fun t u hu => ?_⟩
      have h0 : news.length = 0 := by rw [hlen]; omega
      rw [List.length_eq_zero_iff.1 h0] at hu
      simp at hu
    · refine ⟨⟨b, j * 3, none⟩, by simp [h], fun t u hu => ?_⟩
      rw [Addr.add_lit]
      rw [hnews, List.getElem?_drop] at hu
      exact hcs _ _ hu
  have s1 : Hid (news.length = (n - j) * 3) := hlen
  have s2 : Hid (∀ u ∈ news, u.oneCell' = true) := fun u hu => h1c u (by rw [hnews] at hu; exact List.mem_of_mem_drop hu)
  have hsp : ∀ k, k < n * 3 → (w.cell? ⟨b, k, none⟩).isSome = true := fun k hk => by
    rw [hB.cell k, Array.getElem?_eq_getElem (show k < cur.size by rw [hcur]; omega)]; rfl
  have s3 : Hid (∀ t, t < news.length → (w.drew.cell? ⟨b, 0 + i * 3 + t, none⟩).isSome = true ∧ w.drew.frozen? ⟨b, 0 + i * 3 + t, none⟩ = false) := fun t ht => by
    rw [hlen] at ht
    exact ⟨hsp (0 + i * 3 + t) (by omega), hB.frozen _⟩
  obtain ⟨W1, hW1⟩ : ∃ W1, W1 = w.drew.setCells b (0 + i * 3) news := ⟨_, rfl⟩
  obtain ⟨zz, hzz⟩ : ∃ zz : Value, zz = .agg #[.string ByteArray.empty, .slice none 0 0, .slice none 0 0] := ⟨_, rfl⟩
  obtain ⟨zs, hzsd⟩ : ∃ zs, zs = (Builtin.zeroCells zz.cells (n - (i + (n - j)))).toList := ⟨_, rfl⟩
  have hzl : zs.length = 3 := by
    rw [hzsd, Array.length_toList, size_zeroCells, hzz]
    show (n - (i + (n - j))) * 3 = _
    omega
  have hz1 : ∀ v ∈ zs, v.oneCell' = true := fun v hv => by
    rw [hzsd, hzz] at hv
    simp only [Builtin.zeroCells, Array.toList_map, List.mem_map] at hv
    obtain ⟨i, _, rfl⟩ := hv
    have h4 : i % 3 < 3 := Nat.mod_lt _ (by omega)
    show ((#[.string ByteArray.empty, .slice none 0 0, .slice none 0 0] : Array Value)[i % 3]!).oneCell' = true
    rcases (show i % 3 = 0 ∨ i % 3 = 1 ∨ i % 3 = 2 by omega) with h | h | h <;> rw [h] <;> rfl
  have hcl : ∀ ty cp, (Builtin.clear_ #[22] ty #[.slice (some ⟨b, (i + (n - j)) * 3, none⟩) (n - (i + (n - j))) cp]).run Tryd.prog W1 = .ok (.tuple #[]) (W1.setCells b ((i + (n - j)) * 3) zs) := fun ty cp =>
    run_clear_sliceK W1 _ _ ty zz Tryd.underlying22 (by rw [hzz]; kernel_rfl) b ((i + (n - j)) * 3) (n - (i + (n - j))) cp (by omega) zs hzsd.symm hz1
      (fun t ht => by rw [hW1]; exact isSome_setCellsI b _ _ w.drew (fun k hk => hsp (0 + i * 3 + k) (by rw [hlen] at hk; omega)) _ (hsp ((i + (n - j)) * 3 + t) (by rw [hzl] at ht; omega)))
      (fun t _ => by rw [hW1, World.frozen?_setCells]; exact hB.frozen _)
  have hW : Hid (W1 = w.drew.setCells b (0 + i * 3) news) := hW1
  have hNW : Hid (news = cs.drop (j * 3)) := hnews
  have hjc : j ≤ c := by omega
  have hic : i ≤ c := by omega
  have hz2 : ¬ ((i : Int) = (j : Int)) := by omega
  have hcj : ¬ (c = i + (n - j)) := by omega
  have hu0 := Tryd.underlying22
  have mixed : Tryd.prog.follows Departure.mixedOrders = true := by kernel_rfl
  clear hW1 hnews hlen hcs hsp hz1 hzsd hzz htk h1c
  go_enter Tryd.func32, Tryd.ntmps32
  go_wp2_with fail
  go_region_law_o (refine step_append_room rfl (.tmp 22) (.tmp 25) 22 rfl 28 i0 3 hu0 hi0 hzs b 0 i c (by simp [Act.eval, Act.put]) A (n - j) (c - j) news (by simp [Act.eval, Act.put]) s1.out hsrc.out s2.out (by omega) s3.out ?_; rw [← hW.out])
  go_wp2
  go_ret
  exact ⟨zs, hzl, by simp; omega, by rw [hW.out, hNW.out, show i + (n - j) = n - 1 by omega, Nat.zero_add]⟩
set_option maxRecDepth 100000 in
theorem del_any (B : Nat) (G : Nat → Prop) (A : Option Addr) (n c i j : Nat) (xs : List TC) (w : World) (hown : LT3.own 28 w B G A n c xs) (hi : i < j) (hi2 : j ≤ i + 1) (hj : j ≤ n) (hbig : n ≤ 100000) :
    Calls Tryd.prog 32 #[.slice A n c, .int .i64 i, .int .i64 j] w fun e w' =>
      e = .returned (.slice A (n - 1) c) ∧ LT3.own 28 w' B G A (n - 1) c (xs.eraseIdx i) ∧ w.grownBy w' (Value.slice A n c).ownBlock := by
  obtain ⟨hl, cs, hreps, hrow⟩ := hown
  have hcl := Lay.reps_len hreps
  rw [hl] at hcl
  have hcl4 : cs.length = n * 3 := hcl
  have hdc : (cs.drop (j * 3)).length = (n - j) * 3 := by rw [List.length_drop]; omega
  rcases hrow.2 with ⟨_, h⟩ | ⟨g, cap, cur, e, hg, hh, hnc, hcm, hcs, htk⟩
  · omega
  injection e with e1 _ e3
  subst e1 e3
  have hcs4 : cur.size = c * 3 := hcs
  have htk4 : cur.toList.take (n * 3) = cs := htk
  refine (del_run g n c i j cs cur w hi hi2 hj hnc hbig hcl4 hh hcs4 htk4 (Lay.reps_one hreps)).mono ?_
  rintro e w' ⟨zs, hzl, rfl, rfl⟩
  have b0 : Blk w.drew g 28 cur.toList.toArray := by simpa using (show Blk w g _ cur from hh).drew
  have b1 := blk_setMid (cs.drop (j * 3)) (i * 3) _ cur.toList b0 (by rw [hdc, Array.length_toList, hcs4]; omega)
  have b2 := blk_setMid zs ((n - 1) * 3) _ _ b1 (by simp only [List.length_append, List.length_take, List.length_drop, Array.length_toList, hcs4, hzl, hdc]; omega)
  have hgr : w.grownBy ((w.drew.setCells g (i * 3) (cs.drop (j * 3))).setCells g ((n - 1) * 3) zs) (some g) := grown_setCells _ _ _ (grown_setCells _ _ _ (only_drew (World.grownBy.refl w _)))
  have hs0 := Lay.reps_keep (fun b hb hl => hgr.block b hl (fun e => hb.2 (by simp [Value.ownBlock]; injection e with e; exact e.symm))) hreps
  have hij : j = i + 1 := by omega
  have herase : xs.eraseIdx i = xs.take i ++ xs.drop j := by rw [hij]; exact List.eraseIdx_eq_take_drop_succ xs i
  have hs := Lay.reps_append (Lay.reps_take i hs0) (Lay.reps_drop j hs0)
  rw [← herase] at hs
  have hel : (xs.eraseIdx i).length = n - 1 := by rw [herase, List.length_append, List.length_take, List.length_drop, hl]; omega
  have hdl : (cs.take (i * 3) ++ cs.drop (j * 3)).length = (n - 1) * 3 := by rw [List.length_append, List.length_take, hdc, hcl4]; omega
  refine ⟨rfl, ⟨hel, _, hs, hdl, .inr ⟨_, _, _, rfl, hg, b2, by omega, hcm, ?_, ?_⟩⟩, hgr⟩
  · simp only [List.size_toArray, List.length_append, List.length_take, List.length_drop, Array.length_toList, hcs4, hzl, hdc]
    show _ = c * 3
    omega
  · show List.take ((n - 1) * 3) _ = _
    have h9 : cur.toList.take (i * 3) = cs.take (i * 3) := by rw [← htk4, List.take_take, Nat.min_eq_left (by omega)]
    have hlc : cur.toList.length = c * 3 := by rw [Array.length_toList]; exact hcs4
    have h8 : (n - 1) * 3 ≤ (List.take ((n - 1) * 3) (List.take (i * 3) cs ++ List.drop (j * 3) cs ++ List.drop (i * 3 + (List.drop (j * 3) cs).length) cur.toList)).length := by
      simp only [List.length_append, List.length_take, List.length_drop, hlc, hcl4]
      omega
    rw [h9, List.append_assoc, List.take_append_of_le_length h8, List.take_take, Nat.min_self]
    exact List.take_left' hdl
end Go.Proofs.YthgcdilkkldgjaaDoor
