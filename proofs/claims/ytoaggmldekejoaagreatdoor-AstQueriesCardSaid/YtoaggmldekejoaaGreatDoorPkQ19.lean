/- (*strings.Builder).WriteByte at this program (the shelf's own contract does not lie down here: the text of a panic is left out). Conditions: a builder that has only been written. -/
import Derived.Test.YtoaggmldekejoaaGreatDoorPkQ18
import Derived.Lib.Builder
import Derived.Lib.UnsafeStr
import Derived.Lib.Strings
import Derived.Laws.Externs
import Derived.Shelf.Strings.OnBuilder
import Derived.Shelf.Strconv.Itoa4
import Derived.Test.YtoaggmldekejoaaGreatDoorProg
namespace Go.Proofs.YtoaggmldekejoaaGreatDoor
open Go.RowKit
/-! ### what stays: blocks whose type is none of these -/
def Kept (X : TypeId → Bool) (w w' : World) : Prop := ∀ (k : Nat) (cs : Array Value) (T : TypeId) (fr : Nat × Nat), X T = false → w.heap[k]? = some (.cells cs T fr) → w'.heap[k]? = some (.cells cs T fr)
theorem Kept.refl (X : TypeId → Bool) (w : World) : Kept X w w := fun _ _ _ _ _ h => h
theorem Kept.trans {X : TypeId → Bool} {w w' w'' : World} (h : Kept X w w') (h2 : Kept X w' w'') : Kept X w w'' := fun k cs T fr hX e => h2 k cs T fr hX (h k cs T fr hX e)
theorem Kept.mono {X Y : TypeId → Bool} {w w' : World} (h : Kept X w w') (hs : ∀ T, Y T = false → X T = false) : Kept Y w w' := fun k cs T fr hY e => h k cs T fr (hs T hY) e
theorem lt_of_some {w : World} {k : Nat} {o : Obj} (e : w.heap[k]? = some o) : k < w.heap.size := by
 rcases Nat.lt_or_ge k w.heap.size with h | h
 · exact h
 · simp [Array.getElem?_eq_none h] at e
theorem Kept.of_below {X : TypeId → Bool} {w w' : World} (q : Below w.heap.size w w') : Kept X w w' := fun k _ _ _ _ e => (q.block k (lt_of_some e)).trans e
theorem Kept.grown {X : TypeId → Bool} {w w' : World} {o : Option Nat} (h : w.grownBy w' o) (ho : ∀ (k : Nat) (cs : Array Value) (T : TypeId) (fr : Nat × Nat), X T = false → w.heap[k]? = some (.cells cs T fr) → o ≠ some k) : Kept X w w' := fun k cs T fr hX e => (h.block k (lt_of_some e) (fun e2 => ho k cs T fr hX e e2.symm)).trans e
theorem Kept.set {X : TypeId → Bool} {w : World} {g : Nat} {cs : Array Value} {T : TypeId} {fr : Nat × Nat} (h : w.heap[g]? = some (.cells cs T fr)) (hX : X T = true) (i : Nat) (v : Value) : Kept X w (w.setCell ⟨g, i, none⟩ v) := by
 refine Kept.grown (only_setCell (World.grownBy.refl w (some g)) (.inl rfl) v) ?_
 intro k cs2 T2 fr2 h2 e2 e
 injection e with e
 subst e
 rw [h] at e2
 injection e2 with e2
 injection e2 with _ e2 _
 subst e2
 rw [hX] at h2
 cases h2
theorem Kept.blk {X : TypeId → Bool} {w w' : World} {g : Nat} {t : TypeId} {cs : Array Value} (h : Kept X w w') (hB : Blk w g t cs) (ht : X t = false) : Blk w' g t cs := h g cs t (0, 0) ht hB
/-- what a writer changes -/
def uw (T : TypeId) : Bool := T == 5 || T == 106
theorem uw_ne {T : TypeId} (h : uw T = false) : T ≠ 5 := by
 rintro rfl
 exact absurd h (by decide)
theorem Kept.row {w w' : World} {B n : Nat} {v : Value} {bs : List Value} (hown : w.ownsRow B 5 1 v n bs) (h : w.grownBy w' v.ownBlock) : Kept uw w w' := Kept.grown h fun _ _ _ _ hX e => Lib.ownBlock_ne hown e (uw_ne hX)
theorem Tryz.sizeB : (Tryz.prog.info? 104).map (·.size) = some 2 := by kernel_rfl
theorem Tryz.liesB : liesAt Tryz.prog Tryz.prog.depth 106 (2 / Tryz.prog.cellsOf 106) 0 104 1 = true := by kernel_rfl
theorem Tryz.infoB : (Tryz.prog.info? 5).map (fun i => (i.zero, i.size, i.bytes)) = some (some (.int .u8 0), 1, 1) := by kernel_rfl
set_option maxHeartbeats 1000000 in
set_option maxRecDepth 100000 in
theorem copyCheck_used (b : Nat) (w : World) (h0 : w.cell? ⟨b, 0, none⟩ = some (.pointer (some ⟨b, 0, none⟩))) :
 Calls Tryz.prog 106 #[.pointer (some ⟨b, 0, none⟩)] w fun e w' => e = .returned (.tuple #[]) ∧ w' = w := by
 obtain ⟨j, hj, _⟩ := Option.map_eq_some_iff.1 Tryz.sizeB
 go_enter Tryz.func106, Tryz.ntmps106
 go_wp2
 try rw [Lib.run_neq_ptr_same w _ Tryz.underlying101 hj]
 try go_wp2
 go_end0
 exact ⟨rfl, rfl⟩
set_option maxHeartbeats 1000000 in
set_option maxRecDepth 100000 in
theorem copyCheck_fresh (b : Nat) (w : World) (h0 : w.cell? ⟨b, 0, none⟩ = some (.pointer none)) (hsh : w.shape? b = some (106, 2)) (hfz : w.frozen? ⟨b, 0, none⟩ = false) :
 Calls Tryz.prog 106 #[.pointer (some ⟨b, 0, none⟩)] w fun e w' => e = .returned (.tuple #[]) ∧ w' = w.setCell ⟨b, 0, none⟩ (.pointer (some ⟨b, 0, none⟩)) := by
 obtain ⟨j, hj, hjs⟩ := Option.map_eq_some_iff.1 Tryz.sizeB
 go_enter Tryz.func106, Tryz.ntmps106
 go_wp2
 rw [Lib.run_to_unsafe w ⟨b, 0, none⟩ Tryz.underlying101 Tryz.underlying166 hj (by rw [hjs]; decide) hsh (Nat.zero_lt_succ 1)]
 simp only [Result.andThen]
 rw [Oper.upon_value]
 go_wp2
 rw [run_callFunc_extern Tryz.func120 (by kernel_rfl) (by kernel_rfl) (by kernel_rfl) (e := Extern.AbiNoEscape.same) (by kernel_rfl)]
 rw [Lib.run_noEscape]
 simp only [Result.andThen]
 rw [Oper.upon_value]
 go_wp2
 rw [Lib.run_from_unsafe w ⟨b, 0, none⟩ Tryz.underlying166 Tryz.underlying101 hj hsh Tryz.liesB]
 simp only [Result.andThen]
 rw [Oper.upon_value]
 go_wp2
 go_end0
 exact ⟨rfl, rfl⟩
theorem copyCheck_any (B b : Nat) (bs : List Value) (w : World) (h : Lib.IsBuilder 106 5 B b bs w) :
 Calls Tryz.prog 106 #[.pointer (some ⟨b, 0, none⟩)] w fun e w' => e = .returned (.tuple #[]) ∧ (Lib.BuilderAt 106 5 B b (.pointer (some ⟨b, 0, none⟩)) bs w' ∧ Below B w w' ∧ Kept uw w w') := by
 rcases h with h | h
 · refine (copyCheck_fresh b w h.cell0 h.shape h.frozen0).mono ?_
   rintro e w' ⟨rfl, rfl⟩
   exact ⟨rfl, h.used _, (Below.refl B w).setCell (p := ⟨b, 0, none⟩) h.1 _, by obtain ⟨_, v, hb, _⟩ := h; exact Kept.set hb (by decide) 0 _⟩
 · refine (copyCheck_used b w h.cell0).mono ?_
   rintro e w' ⟨rfl, rfl⟩
   exact ⟨rfl, h, Below.refl B _, Kept.refl _ _⟩
set_option maxHeartbeats 2000000 in
set_option maxRecDepth 100000 in
theorem writeByte_any (B b : Nat) (bs : List Value) (c : Int) (w : World) (h : Lib.IsBuilder 106 5 B b bs w) (hlen : bs.length + 1 ≤ 140737488355328) (hBw : B ≤ w.heap.size) :
 Calls Tryz.prog 85 #[.pointer (some ⟨b, 0, none⟩), .int .u8 c] w fun e w' => e = .returned .nilIface ∧ (Lib.BuilderAt 106 5 B b (.pointer (some ⟨b, 0, none⟩)) (bs ++ [.int .u8 c]) w' ∧ Below B w w' ∧ Kept uw w w') := by
 obtain ⟨i0, hi, hz0, hz1, hz2⟩ := info_parts Tryz.infoB
 go_enter Tryz.func85, Tryz.ntmps85
 go_wp2_with fail
 refine (copyCheck_any B b bs _ h).mono ?_
 rintro e w1 ⟨rfl, h1, hb1, hk1⟩
 obtain ⟨hB, v, hbk, hown, hne⟩ := h1
 have c0 : w1.cell? ⟨b, 0, none⟩ = some (.pointer (some ⟨b, 0, none⟩)) := by rw [Lib.cell_of_heap hbk]; rfl
 have c1 : w1.cell? ⟨b, 1, none⟩ = some v := by rw [Lib.cell_of_heap hbk]; rfl
 go_wp2_with (at_builtin; refine wpList_append_own _ rfl _ _ 102 rfl B 5 i0 (.int .u8 0) 1 1 Tryz.underlying102 hi hz0 hz1 hz2 rfl (by decide) _ _ _ rfl (hown.alloc _) ⟨w1.heap.size, 0, none⟩ 1 1 [.int .u8 c] rfl rfl ?c1 ?c2 ?c3 ?c4 ?c5 ?_)
 case c1 =>
  intro j u hj
  match j, hj with
  | 0, hj => simp at hj; subst hj; simp [Addr.add]
 case c2 => intro u hu; simp at hu; subst hu; rfl
 case c3 => unfold maxLen; omega
 case c4 => omega
 case c5 => have := hb1.size; simp; omega
 intro v' w2 hown' hgrow _
 have hlt : b < w1.heap.size := by
  rcases Nat.lt_or_ge b w1.heap.size with h' | h'
  · exact h'
  · simp [Array.getElem?_eq_none h'] at hbk
 have hb2 : w2.heap[b]? = some (.cells #[.pointer (some ⟨b, 0, none⟩), v] 106 (0, 0)) := by
  rw [hgrow.block b (by simp; omega) (fun e => hne e.symm), Lib.alloc_old w1 _ b hlt]
  exact hbk
 have d0 : w2.cell? ⟨b, 0, none⟩ = some (.pointer (some ⟨b, 0, none⟩)) := by rw [Lib.cell_of_heap hb2]; rfl
 have d1 : w2.cell? ⟨b, 1, none⟩ = some v := by rw [Lib.cell_of_heap hb2]; rfl
 have f1 : w2.frozen? ⟨b, 1, none⟩ = false := Lib.frozen_of_heap hb2 1
 obtain ⟨g, cap, rfl⟩ : ∃ g cap, v' = .slice (some ⟨g, 0, none⟩) (bs.length + 1) cap := by
  rcases hown'.2 with ⟨_, h0⟩ | ⟨g, cap, cur, hv, _⟩
  · omega
  · exact ⟨g, cap, hv⟩
 go_wp2
 go_ret
 refine ⟨rfl, ?_, ?_, hk1.trans ((Kept.of_below (bl_al (Below.refl _ _) _)).trans ((Kept.row (hown.alloc _) hgrow).trans (Kept.set hb2 (by decide) 1 _)))⟩
 · exact Lib.BuilderAt.put (T := 106) (e := 5) hB hb2 (bs' := bs ++ [.int .u8 c]) (by simpa using hown') (by decide)
 · exact ((hb1.alloc (by have := hb1.size; omega) _).grown hgrow (by have := hb1.size; simp; omega) (fun k hk => (hown.lt k hk).1)).setCell (p := ⟨b, 1, none⟩) hB _
set_option maxHeartbeats 2000000 in
set_option maxRecDepth 100000 in
theorem writeString_any (B b : Nat) (bs : List Value) (s : ByteArray) (w : World) (h : Lib.IsBuilder 106 5 B b bs w) (hlen : bs.length + s.size ≤ 140737488355328) (hBw : B ≤ w.heap.size) :
 Calls Tryz.prog 86 #[.pointer (some ⟨b, 0, none⟩), .string s] w fun e w' => e = .returned (.tuple #[.int .i64 s.size, .nilIface]) ∧ (Lib.BuilderAt 106 5 B b (.pointer (some ⟨b, 0, none⟩)) (bs ++ Lib.strCells s) w' ∧ Below B w w' ∧ Kept uw w w') := by
 obtain ⟨i0, hi, hz0, hz1, hz2⟩ := info_parts Tryz.infoB
 go_enter Tryz.func86, Tryz.ntmps86
 go_wp2_with fail
 refine (copyCheck_any B b bs _ h).mono ?_
 rintro e w1 ⟨rfl, h1, hb1, hk1⟩
 obtain ⟨hB, v, hbk, hown, hne⟩ := h1
 have c0 : w1.cell? ⟨b, 0, none⟩ = some (.pointer (some ⟨b, 0, none⟩)) := by rw [Lib.cell_of_heap hbk]; rfl
 have c1 : w1.cell? ⟨b, 1, none⟩ = some v := by rw [Lib.cell_of_heap hbk]; rfl
 go_wp2_with (at_builtin; refine Lib.wpList_append_own_string _ rfl _ _ 102 9 rfl B 5 i0 Tryz.underlying102 Tryz.underlying9 hi hz0 hz1 hz2 _ _ _ rfl hown s rfl ?c3 ?c4 ?c5 ?_)
 case c3 => unfold maxLen; omega
 case c4 => omega
 case c5 => have := hb1.size; omega
 intro v' w2 hown' hgrow _
 have hlt : b < w1.heap.size := by
  rcases Nat.lt_or_ge b w1.heap.size with h' | h'
  · exact h'
  · simp [Array.getElem?_eq_none h'] at hbk
 have hb2 : w2.heap[b]? = some (.cells #[.pointer (some ⟨b, 0, none⟩), v] 106 (0, 0)) := by
  rw [hgrow.block b hlt (fun e => hne e.symm)]
  exact hbk
 have d0 : w2.cell? ⟨b, 0, none⟩ = some (.pointer (some ⟨b, 0, none⟩)) := by rw [Lib.cell_of_heap hb2]; rfl
 have d1 : w2.cell? ⟨b, 1, none⟩ = some v := by rw [Lib.cell_of_heap hb2]; rfl
 have f1 : w2.frozen? ⟨b, 1, none⟩ = false := Lib.frozen_of_heap hb2 1
 obtain ⟨ao, n', cap, rfl⟩ : ∃ ao n' cap, v' = .slice ao n' cap := by
  rcases hown'.2 with ⟨hv, _⟩ | ⟨g, cap, cur, hv, _⟩
  · exact ⟨_, _, _, hv⟩
  · exact ⟨_, _, _, hv⟩
 go_wp2
 refine bodyPost_ret (results_tmp2 Tryz.results86 _ _ _) rfl ⟨rfl, ?_, ?_, hk1.trans ((Kept.row hown hgrow).trans (Kept.set hb2 (by decide) 1 _))⟩
 · exact Lib.BuilderAt.put (T := 106) (e := 5) hB hb2 (bs' := bs ++ Lib.strCells s) (by simpa [Lib.strCells_length] using hown') (by decide)
 · exact (hb1.grown hgrow (by have := hb1.size; omega) (fun k hk => (hown.lt k hk).1)).setCell (p := ⟨b, 1, none⟩) hB _
theorem isb_below {T e : TypeId} {B b : Nat} {bs : List Value} {w w' : World} (h : Lib.IsBuilder T e B b bs w) (q : Below w.heap.size w w') : Lib.IsBuilder T e B b bs w' := by
 have k : ∀ p, Lib.BuilderAt T e B b p bs w → Lib.BuilderAt T e B b p bs w' := fun p ⟨hB, v, hb, ho, hne⟩ => by
  have hlt : b < w.heap.size := by
   rcases Nat.lt_or_ge b w.heap.size with h' | h'
   · exact h'
   · simp [Array.getElem?_eq_none h'] at hb
  exact ⟨hB, v, (q.block b hlt).trans hb, ownsRow_below ho q, hne⟩
 rcases h with h | h
 · exact .inl (k _ h)
 · exact .inr (k _ h)
end Go.Proofs.YtoaggmldekejoaaGreatDoor
/- The writer's length. Conditions: a builder that has only been written. -/
namespace Go.Proofs.YtoaggmldekejoaaGreatDoor
open Go.RowKit
set_option maxRecDepth 100000 in
theorem wlen_any (B b : Nat) (bs : List Value) (w : World) (h : Lib.IsBuilder 106 5 B b bs w) :
 Calls Tryz.prog 84 #[.pointer (some ⟨b, 0, none⟩)] w fun e w' => e = .returned (.int .i64 bs.length) ∧ w = w' := by
 obtain ⟨v, c1, hown⟩ : ∃ v, w.cell? ⟨b, 1, none⟩ = some v ∧ w.ownsRow B 5 1 v bs.length bs := by
  rcases h with h | h <;> obtain ⟨_, v, hbk, hown, _⟩ := h
  · exact ⟨v, by rw [Lib.cell_of_heap hbk]; rfl, hown⟩
  · exact ⟨v, by rw [Lib.cell_of_heap hbk]; rfl, hown⟩
 clear h
 generalize bs.length = n at *
 obtain ⟨A, cp, rfl⟩ : ∃ A cp, v = .slice A n cp := by
  rcases hown.2 with ⟨rfl, rfl⟩ | ⟨g, cap, _, rfl, _⟩
  · exact ⟨none, 0, rfl⟩
  · exact ⟨_, cap, rfl⟩
 clear hown
 go_enter Tryz.func84, Tryz.ntmps84
 go_wp2
 go_ret
 exact ⟨rfl, rfl⟩
end Go.Proofs.YtoaggmldekejoaaGreatDoor
/- The writer's words. Conditions: a writer that has only been written; words of the call's own, not too long. -/
namespace Go.Proofs.YtoaggmldekejoaaGreatDoor
open Go.RowKit
/-- a writer that holds these bytes -/
def WB (B b : Nat) (bs : List UInt8) (w : World) : Prop := Lib.IsBuilder 106 5 B b (Lib.byteCells bs) w
theorem WB.keep {B b : Nat} {bs : List UInt8} {w w' : World} (h : WB B b bs w) (q : Below w.heap.size w w') : WB B b bs w' := isb_below h q
theorem addW_len (acc s : List UInt8) : acc.length ≤ (addW acc s).length := by
 unfold addW
 split
 · omega
 · split
   · next h => rw [h]; simp
   · rw [List.length_append]; omega
theorem wordsP_len : ∀ (l : List (List UInt8)) (acc : List UInt8), acc.length ≤ (wordsP acc l).length
 | [], _ => Nat.le_refl _
 | s :: l, acc => Nat.le_trans (addW_len acc s) (wordsP_len l (addW acc s))
theorem wordsP_take {l : List (List UInt8)} {i : Nat} {s acc : List UInt8} (h : l[i]? = some s) : wordsP acc (l.take (i + 1)) = addW (wordsP acc (l.take i)) s := by
 unfold wordsP
 rw [List.take_add_one, h, List.foldl_append]; rfl
theorem wordsP_takeLen (l : List (List UInt8)) (i : Nat) (acc : List UInt8) : (wordsP acc (l.take i)).length ≤ (wordsP acc l).length := by
 have h : wordsP acc l = wordsP (wordsP acc (l.take i)) (l.drop i) := by unfold wordsP; rw [← List.foldl_append, List.take_append_drop]
 rw [h]; exact wordsP_len _ _
theorem byteCells_app (a b : List UInt8) : Lib.byteCells (a ++ b) = Lib.byteCells a ++ Lib.byteCells b := List.map_append
/-- what each round yields -/
theorem addW_cases {acc s : List UInt8} (h : s ≠ []) : addW acc s = (if acc = [] then acc else acc ++ [32]) ++ s := by
 unfold addW
 rw [if_neg h]
 split
 · next h2 => rw [h2]; rfl
 · rw [List.append_assoc]; rfl
set_option maxRecDepth 100000 in
set_option maxHeartbeats 4000000 in
theorem words_any (B b g : Nat) (bs : List UInt8) (l : List ByteArray) (w : World) (h : WB B b bs w) (hs : Blk w g 9 (l.map Value.string).toArray) (hl : l.length ≤ 1000) (hBw : B ≤ w.heap.size)
 (hlen : (wordsP bs (l.map (·.data.toList))).length ≤ 140737488355328) :
 Calls Tryz.prog 53 #[.pointer (some ⟨b, 0, none⟩), .slice (some ⟨g, 0, none⟩) l.length l.length] w fun e w' => e = .returned (.tuple #[]) ∧ (WB B b (wordsP bs (l.map (·.data.toList))) w' ∧ Below B w w' ∧ Kept uw w w') := by
 have HH := Lib.hid h
 have HLEN := Lib.hid hlen
 have HC := Lib.hid (show ∀ (i : Nat) (x : ByteArray) (wr : World), l[i]? = some x → Kept uw w wr → wr.cell? ((⟨g, 0, none⟩ : Addr).add i) = some (.string x) from fun i x wr hx hk => by
  have hB := hk.blk hs (by decide)
  rw [show ((⟨g, 0, none⟩ : Addr).add i) = ⟨g, i, none⟩ from by simp [Addr.add]; intro e; exact e.symm, Lib.cell_of_heap hB]
  simp [hx])
 clear h hs hlen
 obtain ⟨n, hn⟩ : ∃ n, n = l.length := ⟨_, rfl⟩
 have HN := Lib.hid hn
 rw [← hn] at hl ⊢
 clear hn
 obtain ⟨ad, had⟩ : ∃ ad : Addr, ad = ⟨g, 0, none⟩ := ⟨_, rfl⟩
 rw [← had] at HC ⊢
 clear had
 obtain ⟨ws, hws⟩ : ∃ ws, ws = l.map (·.data.toList) := ⟨_, rfl⟩
 rw [← hws] at HLEN ⊢
 have HWS := Lib.hid (show ∀ (i : Nat) (x : ByteArray), l[i]? = some x → ws[i]? = some x.data.toList from fun i x hx => by rw [hws, List.getElem?_map, hx]; rfl)
 have HWL := Lib.hid (show ws.length = n from by rw [hws, List.length_map, ← HN.out])
 clear hws
 go_enter Tryz.func53, Tryz.ntmps53
 go_wp2_with fail
 go_loopg [8] n (fun gk a wr => ∃ i : Nat, i + gk = n ∧ a = .int .i64 i ∧ Hid (WB B b (wordsP bs (ws.take i)) wr) ∧ Hid (Below B w wr) ∧ Hid (Kept uw w wr))
 case atStart => exact ⟨0, by omega, rfl, Lib.hid HH.out, Lib.hid (Below.refl _ _), Lib.hid (Kept.refl _ _)⟩
 case round =>
  obtain ⟨i, hig, rfl, HWr, HQr, HKr⟩ := hrel
  by_cases hlt : i < n
  · have hi1 : (i : Int) < (n : Int) := by omega
    obtain ⟨x, hx⟩ : ∃ x : ByteArray, l[i]? = some x := ⟨_, List.getElem?_eq_getElem (by rw [← HN.out]; exact hlt)⟩
    have x0 := HC.out i x wr hx HKr.out
    have HT := Lib.hid (wordsP_take (acc := bs) (HWS.out i x hx))
    have HTL := Lib.hid (Nat.le_trans (wordsP_takeLen ws (i + 1) bs) HLEN.out)
    have hBr : B ≤ wr.heap.size := Nat.le_trans hBw HQr.out.size
    clear hx
    obtain ⟨acc2, ha2⟩ : ∃ a, a = wordsP bs (ws.take (i + 1)) := ⟨_, rfl⟩
    rw [← ha2] at HT HTL
    have HA2 := Lib.hid ha2
    clear ha2
    generalize wordsP bs (ws.take i) = acc at *
    by_cases h0 : x.data.toList = []
    · have ht := ba_e h0
      subst ht
      have HE := Lib.hid (show acc2 = acc from by rw [HT.out]; exact addW_nil)
      clear h0
      go_wp2_with fail
      go_roundg (gk - 1)
      · exact ⟨i + 1, by omega, by go_num, Lib.hid (by rw [← HA2.out, HE.out]; exact HWr.out), HQr, HKr⟩
      · omega
    · have e0 := ne_list h0
      have e1 : ¬ x.toList = [] := by rw [toList_data]; exact h0
      have e2 : x.toList.isEmpty = false := by rw [toList_data]; cases hh : x.data.toList with | nil => exact absurd hh h0 | cons => rfl
      have e3 : (x.toList == []) = false := by rw [toList_data]; simpa using h0
      have HE := Lib.hid (show acc2 = (if acc = [] then acc else acc ++ [32]) ++ x.data.toList from by rw [HT.out]; exact addW_cases h0)
      have hxs : x.data.toList.length = x.size := rfl
      clear h0 HT
      go_wp2_with fail
      refine (wlen_any B b _ wr HWr.out).mono ?_
      rintro e w2 ⟨rfl, rfl⟩
      rw [Lib.byteCells_length]
      by_cases ha : acc = []
      · subst ha
        have HE2 := Lib.hid (show acc2 = x.data.toList from by rw [HE.out]; rfl)
        have hzl : ([] : List UInt8).length = 0 := rfl
        go_wp2_with fail
        refine (writeString_any B b _ x wr HWr.out (by rw [Lib.byteCells_length]; have := HTL.out; rw [HE2.out] at this; simp; omega) hBr).mono ?_
        rintro e w3 ⟨rfl, h3, q3, k3⟩
        have HW3 := Lib.hid h3
        clear h3
        go_wp2_with fail
        go_roundg (gk - 1)
        · exact ⟨i + 1, by omega, by go_num, Lib.hid (by rw [← HA2.out, HE2.out]; exact .inr (by have := HW3.out; rwa [Lib.strCells_eq, ← byteCells_app] at this)), Lib.hid (HQr.out.trans q3), Lib.hid (HKr.out.trans k3)⟩
        · omega
      · have HE2 := Lib.hid (show acc2 = (acc ++ [32]) ++ x.data.toList from by rw [HE.out, if_neg ha])
        have hal : 0 < (acc.length : Int) := by have := List.length_pos_iff.2 ha; omega
        have hbd : acc.length + 1 + x.size ≤ 140737488355328 := by have := HTL.out; rw [HE2.out] at this; simp at this; omega
        clear HE HTL
        go_wp2_with fail
        refine (writeByte_any B b _ 32 wr HWr.out (by rw [Lib.byteCells_length]; omega) hBr).mono ?_
        rintro e w3 ⟨rfl, h3, q3, k3⟩
        have HW3 := Lib.hid (show WB B b (acc ++ [32]) w3 from .inr (by rw [byteCells_app]; exact h3))
        have HQ3 := Lib.hid (HQr.out.trans q3)
        have HK3 := Lib.hid (HKr.out.trans k3)
        have hB3 : B ≤ w3.heap.size := Nat.le_trans hBr q3.size
        clear h3 q3 k3
        go_wp2_with fail
        refine (writeString_any B b _ x w3 HW3.out (by rw [Lib.byteCells_length, List.length_append]; show acc.length + 1 + x.size ≤ _; omega) hB3).mono ?_
        rintro e w4 ⟨rfl, h4, q4, k4⟩
        have HW4 := Lib.hid h4
        clear h4
        go_wp2_with fail
        go_roundg (gk - 1)
        · exact ⟨i + 1, by omega, by go_num, Lib.hid (by rw [← HA2.out, HE2.out]; exact .inr (by have := HW4.out; rwa [Lib.strCells_eq, ← byteCells_app] at this)), Lib.hid (HQ3.out.trans q4), Lib.hid (HK3.out.trans k4)⟩
        · omega
  · have hi1 : ¬ ((i : Int) < (n : Int)) := by omega
    have hie : i = n := by omega
    have HF := Lib.hid (show WB B b (wordsP bs ws) wr from by have h9 := HWr.out; rwa [List.take_of_length_le (by rw [HWL.out]; omega)] at h9)
    clear hie HWr
    go_wp2_with fail
    go_end0
    exact ⟨rfl, HF.out, HQr.out, HKr.out⟩
end Go.Proofs.YtoaggmldekejoaaGreatDoor
/- The library's contracts at this dump, plain (lay-plain.mjs, pruned, by name). Conditions: as each says. -/
namespace Go.Proofs
open Go.Shelf
def Tryz.lays156_ren : Go.Shelf.Ren := ⟨fun | 156 => 89 | 165 => 101 | 166 => 86 | 169 => 58 | 240 => 106 | 241 => 113 | 276 => 120 | 277 => 127 | n => n, fun | 31 => 110 | 9 => 9 | 3 => 3 | 4 => 4 | 0 => 0 | 20 => 20 | 72 => 104 | 76 => 134 | 70 => 101 | 37 => 102 | 75 => 132 | 127 => 138 | 164 => 166 | 5 => 5 | 80 => 113 | n => n, fun | n => n⟩
theorem Tryz.lays156 : Go.Proofs.Lays.n156 Tryz.prog Tryz.lays156_ren := {
 mixed := by kernel_rfl
 f156 := Tryz.func89.trans (congrArg some (by kernel_rfl))
 f165 := Tryz.func101.trans (congrArg some (by kernel_rfl))
 f166 := Tryz.func86.trans (congrArg some (by kernel_rfl))
 f169 := Tryz.func58.trans (congrArg some (by kernel_rfl))
 f240 := Tryz.func106.trans (congrArg some (by kernel_rfl))
 f241 := Tryz.func113.trans (congrArg some (by kernel_rfl))
 f276 := Tryz.func120.trans (congrArg some (by kernel_rfl))
 f277 := Tryz.func127.trans (congrArg some (by kernel_rfl))
 t0 := Tryz.underlying0
 a0 := Tryz.isAgg0
 z0 := Tryz.sizeOf0
 v0 := Tryz.zeroValue0
 t3 := Tryz.underlying3
 a3 := Tryz.isAgg3
 z3 := Tryz.sizeOf3
 v3 := Tryz.zeroValue3
 t4 := Tryz.underlying4
 a4 := Tryz.isAgg4
 z4 := Tryz.sizeOf4
 v4 := Tryz.zeroValue4
 t9 := Tryz.underlying9
 a9 := Tryz.isAgg9
 z9 := Tryz.sizeOf9
 v9 := Tryz.zeroValue9
 t20 := Tryz.underlying20
 a20 := Tryz.isAgg20
 z20 := Tryz.sizeOf20
 v20 := Tryz.zeroValue20
 t31 := Tryz.underlying110
 a31 := Tryz.isAgg110
 z31 := Tryz.sizeOf110
 v31 := Tryz.zeroValue110
 t37 := Tryz.underlying102
 a37 := Tryz.isAgg102
 z37 := Tryz.sizeOf102
 v37 := Tryz.zeroValue102
 t70 := Tryz.underlying101
 a70 := Tryz.isAgg101
 z70 := Tryz.sizeOf101
 v70 := Tryz.zeroValue101
 t72 := Tryz.underlying104
 a72 := Tryz.isAgg104
 z72 := Tryz.sizeOf104
 v72 := Tryz.zeroValue104
 t75 := Tryz.underlying132
 a75 := Tryz.isAgg132
 z75 := Tryz.sizeOf132
 v75 := Tryz.zeroValue132
 t76 := Tryz.underlying134
 a76 := Tryz.isAgg134
 z76 := Tryz.sizeOf134
 v76 := Tryz.zeroValue134
 t127 := Tryz.underlying138
 a127 := Tryz.isAgg138
 z127 := Tryz.sizeOf138
 v127 := Tryz.zeroValue138
 t164 := Tryz.underlying166
 a164 := Tryz.isAgg166
 z164 := Tryz.sizeOf166
 v164 := Tryz.zeroValue166 }
theorem Tryz.Builder_Extra_156 : Builder.Extra Tryz.prog Tryz.lays156_ren := {
 sizeBuilder := by kernel_rfl
 liesBuilder := by kernel_rfl
 t5 := Tryz.underlying5
 a5 := Tryz.isAgg5
 z5 := Tryz.sizeOf5
 v5 := Tryz.zeroValue5
 infoByte := by kernel_rfl
 cellsByte := by kernel_rfl
 sizeByte := by kernel_rfl
 neB5 := by decide }
open Go.RowKit in
open Go.RowKit in
/-- strings.Join: "Join concatenates the elements of its first argument to create a single string. The separator string sep is placed between elements in the resulting string.": HOWEVER MANY ELEMENTS. Below the heap's end the world is as it was. (LAID: no walk: one application.) -/
theorem Tryz.strings_Join (bk o c : Nat) (xs : List ByteArray) (sep : ByteArray) (w : World) (hcells : ∀ (j : Nat) x, xs[j]? = some x → w.cell? ⟨bk, o + j, none⟩ = some (.string x)) (hbk : bk < w.heap.size) (hN : xs.length ≤ 140737488355328) (hcap : xs.length ≤ c) (hlen : (Lib.join (xs.map (·.data.toList)) sep.data.toList).length ≤ 140737488355328) :
 Calls Tryz.prog 89 #[.slice (some ⟨bk, o, none⟩) xs.length c, .string sep] w fun e w' => e = .returned (.string ⟨(Lib.join (xs.map (·.data.toList)) sep.data.toList).toArray⟩) ∧ Below w.heap.size w w' := Any.strings_Join Tryz.lays156 Tryz.Builder_Extra_156 bk o c xs sep w hcells hbk hN hcap hlen
def Tryz.laysM171_ren : Go.Shelf.Ren := ⟨fun | 171 => 56 | 243 => 88 | 246 => 107 | 283 => 121 | 284 => 122 | 285 => 123 | 286 => 124 | 129 => 132 | 317 => 131 | 318 => 133 | 319 => 134 | 320 => 135 | 337 => 142 | 338 => 143 | n => n, fun | 3 => 3 | 9 => 9 | 2 => 2 | 4 => 4 | 171 => 168 | 0 => 0 | 53 => 53 | 37 => 102 | 5 => 5 | 173 => 171 | 212 => 180 | 51 => 181 | 20 => 20 | 213 => 182 | 46 => 183 | 232 => 199 | 233 => 200 | n => n, fun | 17 => 4 | 18 => 8 | 19 => 9 | n => n⟩
theorem Tryz.laysM171 : Go.Proofs.LaysM.n171 Tryz.prog Tryz.laysM171_ren := {
 mixed := by kernel_rfl
 f129 := Tryz.func132.trans (congrArg some (by kernel_rfl))
 f171 := Tryz.func56.trans (congrArg some (by kernel_rfl))
 f243 := Tryz.func88.trans (congrArg some (by kernel_rfl))
 f246 := Tryz.func107.trans (congrArg some (by kernel_rfl))
 f283 := Tryz.func121.trans (congrArg some (by kernel_rfl))
 f284 := Tryz.func122.trans (congrArg some (by kernel_rfl))
 f285 := Tryz.func123.trans (congrArg some (by kernel_rfl))
 f286 := Tryz.func124.trans (congrArg some (by kernel_rfl))
 f317 := Tryz.func131.trans (congrArg some (by kernel_rfl))
 f318 := Tryz.func133.trans (congrArg some (by kernel_rfl))
 f319 := Tryz.func134.trans (congrArg some (by kernel_rfl))
 f320 := Tryz.func135.trans (congrArg some (by kernel_rfl))
 f337 := Tryz.func142.trans (congrArg some (by kernel_rfl))
 f338 := Tryz.func143.trans (congrArg some (by kernel_rfl))
 t0 := Tryz.underlying0
 a0 := Tryz.isAgg0
 z0 := Tryz.sizeOf0
 v0 := Tryz.zeroValue0
 t2 := Tryz.underlying2
 a2 := Tryz.isAgg2
 z2 := Tryz.sizeOf2
 v2 := Tryz.zeroValue2
 t3 := Tryz.underlying3
 a3 := Tryz.isAgg3
 z3 := Tryz.sizeOf3
 v3 := Tryz.zeroValue3
 t4 := Tryz.underlying4
 a4 := Tryz.isAgg4
 z4 := Tryz.sizeOf4
 v4 := Tryz.zeroValue4
 t5 := Tryz.underlying5
 a5 := Tryz.isAgg5
 z5 := Tryz.sizeOf5
 v5 := Tryz.zeroValue5
 t9 := Tryz.underlying9
 a9 := Tryz.isAgg9
 z9 := Tryz.sizeOf9
 v9 := Tryz.zeroValue9
 t20 := Tryz.underlying20
 a20 := Tryz.isAgg20
 z20 := Tryz.sizeOf20
 v20 := Tryz.zeroValue20
 t37 := Tryz.underlying102
 a37 := Tryz.isAgg102
 z37 := Tryz.sizeOf102
 v37 := Tryz.zeroValue102
 t46 := Tryz.underlying183
 a46 := Tryz.isAgg183
 z46 := Tryz.sizeOf183
 v46 := Tryz.zeroValue183
 t51 := Tryz.underlying181
 a51 := Tryz.isAgg181
 z51 := Tryz.sizeOf181
 v51 := Tryz.zeroValue181
 t53 := Tryz.underlying53
 a53 := Tryz.isAgg53
 z53 := Tryz.sizeOf53
 v53 := Tryz.zeroValue53
 t171 := Tryz.underlying168
 a171 := Tryz.isAgg168
 z171 := Tryz.sizeOf168
 v171 := Tryz.zeroValue168
 t173 := Tryz.underlying171
 a173 := Tryz.isAgg171
 z173 := Tryz.sizeOf171
 v173 := Tryz.zeroValue171
 t212 := Tryz.underlying180
 a212 := Tryz.isAgg180
 z212 := Tryz.sizeOf180
 v212 := Tryz.zeroValue180
 t213 := Tryz.underlying182
 a213 := Tryz.isAgg182
 z213 := Tryz.sizeOf182
 t232 := Tryz.underlying199
 a232 := Tryz.isAgg199
 z232 := Tryz.sizeOf199
 v232 := Tryz.zeroValue199
 t233 := Tryz.underlying200
 a233 := Tryz.isAgg200
 z233 := Tryz.sizeOf200
 v233 := Tryz.zeroValue200
 g17 := by kernel_rfl
 g18 := by kernel_rfl
 g19 := by kernel_rfl
 i0 := by kernel_rfl
 i2 := by kernel_rfl
 i3 := by kernel_rfl
 i4 := by kernel_rfl
 i5 := by kernel_rfl
 i9 := by kernel_rfl
 i20 := by kernel_rfl
 i37 := by kernel_rfl
 i46 := by kernel_rfl
 i51 := by kernel_rfl
 i53 := by kernel_rfl
 i171 := by kernel_rfl
 i173 := by kernel_rfl
 i212 := by kernel_rfl
 i232 := by kernel_rfl
 i233 := by kernel_rfl
 m17 := by kernel_rfl
 m18 := by kernel_rfl
 m19 := by kernel_rfl }
open Go.RowKit Go.Sort Go.Lib in
/-- strconv.Itoa: "Itoa is equivalent to FormatInt(int64(i), 10).": i's DECIMAL NUMERAL ('Lib.itoa': a '-' where i is negative, then the digits), FOR EVERY int. The world behind the call: the world before it, new blocks behind the heap (the library's 'var a [24]byte'), draws. (LAID: no walk: one application.) -/
theorem Tryz.strconv_Itoa (n : Int) (h0 : -9223372036854775808 ≤ n) (h1 : n ≤ 9223372036854775807) (w : World) (htab : Lib.TabIs Tryz.prog w "internal/strconv.uint64pow10" .u64 Lib.pow10Tab) :
 Calls Tryz.prog 56 #[.int .i64 n] w fun e w' => e = .returned (.string ⟨(Lib.itoa n).toArray⟩) ∧ ∃ k os, w' = grow (w.drewN k) os := Any.strconv_Itoa Tryz.laysM171 n h0 h1 w htab
end Go.Proofs
/- The writer's row and on. Conditions: a writer that has only been written; a row of the call's own; a tree that may be, or none. -/
namespace Go.Proofs.YtoaggmldekejoaaGreatDoor
open Go.RowKit
theorem bB_ca {B : Nat} {w w1 w2 : World} (h : Below B w w1) (hB : B ≤ w1.heap.size) (q : Below w1.heap.size w1 w2) : Below B w w2 := h.trans (q.mono hB)
theorem bB_al {B : Nat} {w w1 : World} (h : Below B w w1) (hB : B ≤ w1.heap.size) (o : Obj) : Below B w (w1.alloc o) := h.alloc hB o
theorem joinC_lib : ∀ l : List (List UInt8), Lib.join l [44, 32] = joinC l
 | [] => rfl
 | [x] => Lib.join_one x _
 | x :: y :: l => by
  have h := joinC_lib (y :: l)
  rw [joinC, ← h]
  simp [Lib.join, List.intercalate, List.intersperse]
theorem addW_ge (acc s : List UInt8) : s.length ≤ (addW acc s).length := by
 unfold addW
 split
 · next h => rw [h]; exact Nat.zero_le _
 · split
   · exact Nat.le_refl _
   · rw [List.length_append, List.length_cons]; omega
theorem wordsP_two (bs a c : List UInt8) : c.length ≤ (wordsP bs [a, c]).length := addW_ge (addW bs a) c
theorem row_cells {w : World} {D n c : Nat} {e : TypeId} {A : Option Addr} {l : List ByteArray} (h : w.ownsRow D e 1 (.slice A n c) n (l.map Value.string)) (hl : l ≠ []) : ∃ g, A = some ⟨g, 0, none⟩ ∧ n = l.length ∧ n ≤ c ∧ g < w.heap.size ∧ ∀ (j : Nat) (x : ByteArray), l[j]? = some x → w.cell? ⟨g, 0 + j, none⟩ = some (.string x) := by
 have hn : l.length = n := by have := h.1; rw [List.length_map] at this; omega
 rcases h.2 with ⟨_, h0⟩ | ⟨g, cap, cur, hv, _, hg, hc, _, hs, ht⟩
 · exact absurd (List.eq_nil_of_length_eq_zero (hn.trans h0)) hl
 · injection hv with h1 _ h3
   refine ⟨g, h1, hn.symm, by omega, ?_, fun j x hx => ?_⟩
   · rcases Nat.lt_or_ge g w.heap.size with h' | h'
     · exact h'
     · simp [Array.getElem?_eq_none h'] at hg
   · rw [Lib.cell_of_heap hg, Nat.zero_add]
     have hj : j < l.length := by
      rcases Nat.lt_or_ge j l.length with h' | h'
      · exact h'
      · rw [List.getElem?_eq_none h'] at hx; cases hx
     have h2 : (cur.toList.take (n * 1))[j]? = some (.string x) := by rw [ht, List.getElem?_map, hx]; rfl
     rw [List.getElem?_take, if_pos (by omega)] at h2
     simpa using h2
set_option maxRecDepth 100000 in
set_option maxHeartbeats 4000000 in
theorem row_any (B b D : Nat) (bs : List UInt8) (word : ByteArray) (l : List ByteArray) (A : Option Addr) (n c : Nat) (w : World) (h : WB B b bs w) (hr : w.ownsRow D 9 1 (.slice A n c) n (l.map Value.string)) (hl : l.length ≤ 1000) (hBw : B ≤ w.heap.size)
 (hlen : (rowP bs word.data.toList (l.map (·.data.toList))).length ≤ 140737488355328) :
 Calls Tryz.prog 57 #[.pointer (some ⟨b, 0, none⟩), .string word, .slice A n c] w fun e w' => e = .returned (.tuple #[]) ∧ (WB B b (rowP bs word.data.toList (l.map (·.data.toList))) w' ∧ Below B w w' ∧ Kept uw w w') := by
 have hn : n = l.length := by have := hr.1; rw [List.length_map] at this; omega
 by_cases h0 : l = []
 · subst h0
   have hn0 : n = 0 := hn
   subst hn0
   clear hr hlen hn hl
   have HH := Lib.hid h
   clear h
   go_enter Tryz.func57, Tryz.ntmps57
   go_wp2_with fail
   go_end0
   exact ⟨rfl, HH.out, Below.refl _ _, Kept.refl _ _⟩
 · obtain ⟨g, rfl, _, hnc, hg, hc⟩ := row_cells hr h0
   have hR : rowP bs word.data.toList (l.map (·.data.toList)) = wordsP bs [word.data.toList, joinC (l.map (·.data.toList))] := by
    unfold rowP
    rw [if_neg (by simpa using h0)]
   rw [hR] at hlen ⊢
   have hjl := Nat.le_trans (wordsP_two bs word.data.toList (joinC (l.map (·.data.toList)))) hlen
   have HJ := Lib.hid (Tryz.strings_Join g 0 c l ⟨#[44, 32]⟩ w hc hg (by omega) (by omega) (by show (Lib.join _ [44, 32]).length ≤ _; rw [joinC_lib]; exact hjl))
   have HJE := Lib.hid (show (⟨(Lib.join (l.map (·.data.toList)) [44, 32]).toArray⟩ : ByteArray).data.toList = joinC (l.map (·.data.toList)) from by rw [joinC_lib])
   have hn1 : 0 < (n : Int) := by have := List.length_pos_iff.2 h0; omega
   have HH := Lib.hid h
   have HLEN := Lib.hid hlen
   rw [← hn] at HJ
   clear hc hr hR hjl h0 h hlen
   generalize joinC (l.map (·.data.toList)) = jc at *
   obtain ⟨js, hjs⟩ : ∃ js : ByteArray, js = ⟨(Lib.join (l.map (·.data.toList)) [44, 32]).toArray⟩ := ⟨_, rfl⟩
   have HJ2 := Lib.hid (show Calls Tryz.prog 89 #[.slice (some ⟨g, 0, none⟩) n c, .string ⟨#[44, 32]⟩] w fun e w' => e = .returned (.string js) ∧ Below w.heap.size w w' from by rw [hjs]; exact HJ.out)
   rw [← hjs] at HJE
   clear HJ hjs
   have HE := Lib.hid (HJE.out)
   clear HJE
   subst hn
   go_enter Tryz.func57, Tryz.ntmps57
   go_wp2_with fail
   refine HJ2.out.mono ?_
   rintro e w2 ⟨rfl, q2⟩
   have HW2 := Lib.hid (HH.out.keep q2)
   have HQ2 := Lib.hid q2
   clear q2 HJ2
   have HBN := Lib.hid (Blk.new w2 9 #[.string word, .string js])
   have HQ3 := Lib.hid (bl_al (Below.refl w2.heap.size w2) (.cells #[.string word, .string js] 9))
   have HB2 := Lib.hid (Nat.le_trans hBw HQ2.out.size)
   have HWC := Lib.hid (words_any B b w2.heap.size bs [word, js] _ (HW2.out.keep HQ3.out) HBN.out (by simp) (Nat.le_trans HB2.out HQ3.out.size) (by show (wordsP bs [word.data.toList, js.data.toList]).length ≤ _; rw [HE.out]; exact HLEN.out))
   have HX := Lib.hid (show wordsP bs [word.data.toList, jc] = wordsP bs ([word, js].map (·.data.toList)) from by show _ = wordsP bs [word.data.toList, js.data.toList]; rw [HE.out])
   go_wp2_with fail
   refine HWC.out.mono ?_
   rintro e w4 ⟨rfl, h4, q4, k4⟩
   have HF := Lib.hid (show WB B b (wordsP bs [word.data.toList, jc]) w4 from by rw [HX.out]; exact h4)
   have HQF := Lib.hid (((HQ2.out.mono hBw).trans (HQ3.out.mono HB2.out)).trans q4)
   have HKF := Lib.hid (((Kept.of_below HQ2.out).trans (Kept.of_below HQ3.out)).trans k4)
   clear h4 q4 k4
   go_wp2_with fail
   go_end0
   exact ⟨rfl, HF.out, HQF.out, HKF.out⟩
set_option maxRecDepth 100000 in
set_option maxHeartbeats 4000000 in
theorem on_any (w0 : World) (b : Nat) (F : Nat → Prop) (bs : List UInt8) (word : ByteArray) (xs : List Nd) (A : Option Addr) (n c : Nat) (w : World) (q0 : Below w0.heap.size w0 w) (h : WB w0.heap.size b bs w) (hT : Tab w0) (hr : LN.rd w0 F A n xs) (hn : n ≤ 100000) (hx : noneB xs = true) (hg : ∀ x ∈ xs, RgP x.p)
 (hlen : (onP bs word.data.toList xs).length ≤ 140737488355328) :
 Calls Tryz.prog 87 #[.pointer (some ⟨b, 0, none⟩), .string word, .agg #[.slice A n c]] w fun e w' => e = .returned (.tuple #[]) ∧ (WB w0.heap.size b (onP bs word.data.toList xs) w' ∧ Below w0.heap.size w w' ∧ Kept uw w w') := by
 have hln := Lay.rd_len hr
 have HQ1 := Lib.hid (bl_al (Below.refl w.heap.size w) (.cells #[.slice A n c] 26))
 have HB1 := Lib.hid (Blk.new w 26 #[.slice A n c])
 have HW1 := Lib.hid (h.keep HQ1.out)
 have HQ01 := Lib.hid (bl_ca q0 HQ1.out)
 have HS0 := Lib.hid q0.size
 have HK1 := Lib.hid (Kept.of_below (X := uw) HQ1.out)
 have HBB1 := Lib.hid ((HQ1.out).mono q0.size)
 have HTR := Lib.hid (Lay.rd_below hr HQ01.out)
 have HT1 := Lib.hid (hT.below HQ01.out)
 have HG := Lib.hid hg
 have HLEN := Lib.hid hlen
 clear h q0 hr hT hg hlen
 by_cases h0 : xs = []
 · subst h0
   have hn0 : n = 0 := by rw [List.length_nil] at hln; omega
   subst hn0
   have x0 := HB1.out.cell 0
   clear HLEN HG
   go_enter Tryz.func87, Tryz.ntmps87
   go_wp2_with fail
   go_end0
   exact ⟨rfl, HW1.out, HBB1.out, HK1.out⟩
 · have hO : onP bs word.data.toList xs = wordsP bs [word.data.toList, prN xs] := by unfold onP; rw [if_neg h0]
   rw [hO] at HLEN ⊢
   have hok : okF xs = true := (by unfold noneB at hx; rw [Bool.or_eq_true, decide_eq_true_eq] at hx; exact hx.resolve_left fun e => h0 (List.eq_nil_of_length_eq_zero e))
   obtain ⟨t, ht⟩ := okF_ex hok
   have HE := Lib.hid (show (bS (prT t)).data.toList = prN xs from by unfold prN; rw [ht])
   have hn1 : 0 < (n : Int) := by have := List.length_pos_iff.2 h0; omega
   have HC := Lib.hid (tree_any F xs t A n c _ HTR.out hn HT1.out ht HG.out)
   have x0 := HB1.out.cell 0
   clear hO hok ht HG HT1 HTR hx h0 hln
   generalize prN xs = px at *
   generalize bS (prT t) = js at *
   go_enter Tryz.func87, Tryz.ntmps87
   go_wp2_with fail
   generalize w.alloc (.cells #[.slice A n c] 26) = w1 at *
   refine HC.out.mono ?_
   rintro e w2 ⟨rfl, q2⟩
   have HW2 := Lib.hid (HW1.out.keep q2)
   have HQ2 := Lib.hid (HBB1.out.trans (q2.mono HQ01.out.size))
   have HB2 := Lib.hid (Nat.le_trans HQ01.out.size q2.size)
   have HK2 := Lib.hid (HK1.out.trans (Kept.of_below q2))
   clear q2 HC HW1 HBB1 HK1
   have HBN := Lib.hid (Blk.new w2 9 #[.string word, .string js])
   have HQ3 := Lib.hid (bl_al (Below.refl w2.heap.size w2) (.cells #[.string word, .string js] 9))
   have HWC := Lib.hid (words_any w0.heap.size b w2.heap.size bs [word, js] _ (HW2.out.keep HQ3.out) HBN.out (by simp) (Nat.le_trans HB2.out HQ3.out.size) (by show (wordsP bs [word.data.toList, js.data.toList]).length ≤ _; rw [HE.out]; exact HLEN.out))
   have HX := Lib.hid (show wordsP bs [word.data.toList, px] = wordsP bs ([word, js].map (·.data.toList)) from by show _ = wordsP bs [word.data.toList, js.data.toList]; rw [HE.out])
   go_wp2_with fail
   refine HWC.out.mono ?_
   rintro e w4 ⟨rfl, h4, q4, k4⟩
   have HF := Lib.hid (show WB w0.heap.size b (wordsP bs [word.data.toList, px]) w4 from by rw [HX.out]; exact h4)
   have HQF := Lib.hid ((HQ2.out.trans (HQ3.out.mono HB2.out)).trans q4)
   have HKF := Lib.hid ((HK2.out.trans (Kept.of_below HQ3.out)).trans k4)
   clear h4 q4 k4
   go_wp2_with fail
   go_end0
   exact ⟨rfl, HF.out, HQF.out, HKF.out⟩
end Go.Proofs.YtoaggmldekejoaaGreatDoor
