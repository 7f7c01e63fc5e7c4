/- (*Reader).Raw: the next bytes, in new memory. Conditions: the reader lies at a block of its own. -/
import Derived.Test.YtfpodalnnchnoaaRead
namespace Go.Proofs.Ytfpodalnnchnoaa
open Go.RowKit
set_option maxHeartbeats 1000000 in
theorem raw1_any (l : List UInt8) (b : UInt8) (X B : Nat) (A : Option Addr) (n c : Nat) (w : World) (h : Blk w X 29 #[.slice A n c]) (ho : OwnB w B A n c l) (hX : X < B) (hB : B ≤ w.heap.size) (hn : n + 1 ≤ 140737488355328) :
    Calls Try.prog 55 #[vb b, .pointer (some ⟨X, 0, none⟩)] w fun e w' => e = .returned (.tuple #[]) ∧
      ∃ A' c' w1, w' = w1.setCell ⟨X, 0, none⟩ (.slice A' (n + 1) c') ∧ OwnB w1 B A' (n + 1) c' (l ++ [b]) ∧ Below B w w1 := by
  have h0 : w.cell? ⟨X, 0, none⟩ = some (.slice A n c) := h.cell 0
  have hXl := h.lt
  have hv : Value.int .u8 (b.toNat : Int) = vb b := rfl
  have HV := Lib.hid hv
  clear hv
  unfold vb
  go_enter Try.func55, Try.ntmps55
  go_wp2_with (at_builtin; refine wpList_appB rfl (.tmp 3) (.tmp 5) rfl B A n c l (some ⟨w.heap.size, 0, none⟩) 1 1 [b] rfl rfl (OwnB.alloc ho _) (RdB.one w b _ HV.out _) (by omega) (by simp; omega) ?_; intro A1 c1 w1 ho1 hb1; have hb2 : Below B w w1 := ((Below.refl _ _).alloc hB _).trans hb1; have hc1 : w1.cell? ⟨X, 0, none⟩ = some (.slice A n c) := (hb2.cell (p := ⟨X, 0, none⟩) hX).trans h0; have hf1 : w1.frozen? ⟨X, 0, none⟩ = false := (h.below hb2 hX).frozen 0)
  go_end0
  exact ⟨rfl, A1, c1, w1, rfl, ho1, hb2⟩
theorem OwnB.belowB {w w' : World} {A : Option Addr} {B B' n c : Nat} {bs : List UInt8} (h : OwnB w B A n c bs) (hb : Below B' w w') (hg : ∀ g, (Value.slice A n c).ownBlock = some g → g < B') : OwnB w' B A n c bs := by
  refine ⟨h.1, ?_⟩
  rcases h.2 with h2 | ⟨g, cap, cur, e, hB, hh, r⟩
  · exact .inl h2
  · refine .inr ⟨g, cap, cur, e, hB, (hb.block g (hg g ?_)).trans hh, r⟩
    injection e with e1; subst e1; simp [Value.ownBlock]
theorem Rdr.belowB {w w' : World} {R : Nat} {O : Option Addr} {n c : Nat} {bs : List UInt8} {p : Nat} {why : Int} {B : Nat} (h : Rdr w R O n c bs p why) (hb : Below B w w') (hR : R < B) (hg : ∀ g, (Value.slice O n c).ownBlock = some g → g < B) : Rdr w' R O n c bs p why :=
  ⟨h.blk.below hb hR, h.own.belowB hb hg, h.le, h.lim⟩
theorem grownBy_below {a w w' : World} {row : Option Nat} {B : Nat} (h : a.grownBy w row) (hb : Below B w w') (hB : a.heap.size ≤ B) : a.grownBy w' row :=
  ⟨hb.os.trans h.os, hb.tape.trans h.tape, hb.output.trans h.output, Nat.le_trans h.size hb.size, fun i hi hn => (hb.block i (Nat.lt_of_lt_of_le hi hB)).trans (h.block i hi hn)⟩
theorem raw_tells (R : Nat) (O : Option Addr) (n c : Nat) (bs : List UInt8) (w : World) (X : Nat) (hX : X = w.heap.size) :
    Tells 55 #[.pointer (some ⟨X, 0, none⟩)] R O n c bs (fun l W => (∃ A c', Blk W X 29 #[.slice A l.length c'] ∧ OwnB W (X + 1) A l.length c' l) ∧ w.grownBy W (some R) ∧ R < X ∧ X + 1 ≤ W.heap.size ∧ (∀ g, (Value.slice O n c).ownBlock = some g → g < X)) where
  tell := by
    rintro l b W p ⟨⟨A, c', h1, h2⟩, h4, h5, h6, h7⟩ hr hlp hpn
    have hlim := hr.lim
    refine (raw1_any l b X (X + 1) A l.length c' W h1 h2 (Nat.lt_succ_self _) h6 (by omega)).mono ?_
    rintro e w' ⟨rfl, A1, c1, w1, rfl, ho1, hb1⟩
    have hw := h4
    have hr1 := hr.belowB hb1 (by omega) (fun g e => by have := h7 g e; omega)
    have hX1 : Blk w1 X 29 #[.slice A l.length c'] := h1.below hb1 (by omega)
    have hr2 := hr1.grown (row := some X) (only_setCell (World.grownBy.refl w1 (some X)) (p := ⟨X, 0, none⟩) (.inl rfl) (.slice A1 (l.length + 1) c1)) (by intro e; injection e with e; omega) (.inr (by intro e; have := h7 X e; omega))
    refine ⟨rfl, ⟨⟨A1, c1, ?_, ?_⟩, only_setCell (grownBy_below h4 hb1 (by omega)) (p := ⟨X, 0, none⟩) (.inr (by simp [hX])) _, h5, ?_, h7⟩, hr2⟩
    · have := hX1.set_ 0 (.slice A1 (l.length + 1) c1)
      simpa using this
    · have := ho1.far (p := ⟨X, 0, none⟩) (by simp) (.slice A1 (l.length + 1) c1)
      simpa using this
    · have := hb1.size
      simp [World.setCell]; omega
  enters := Go.Proofs.enters_of Try.func55 (by kernel_rfl) rfl
  set := by
    rintro l W i v ⟨⟨A, c', h1, h2⟩, h4, h5, h6, h7⟩
    exact ⟨⟨A, c', h1.far (p := ⟨R, i, none⟩) (by simp; omega) v, h2.far (p := ⟨R, i, none⟩) (by simp; omega) v⟩, only_setCell h4 (p := ⟨R, i, none⟩) (.inl rfl) v, h5, by simpa [World.setCell] using h6, h7⟩
  drew := by
    rintro l W ⟨⟨A, c', h1, h2⟩, h4, h5, h6, h7⟩
    exact ⟨⟨A, c', h1.drew, h2.below (Below.refl _ _).drew⟩, only_drew h4, h5, h6, h7⟩
set_option maxRecDepth 100000 in
set_option maxHeartbeats 1000000 in
theorem raw_any (R : Nat) (O : Option Addr) (n c : Nat) (bs : List UInt8) (p : Nat) (why : Int) (m : Int) (w : World) (h : Rdr w R O n c bs p why) (hm : m ≤ 9223372036854775807) :
    Calls Try.prog 52 #[.pointer (some ⟨R, 0, none⟩), .int .i64 m] w fun e w' => ∃ A' c', 
      e = .returned (.slice A' (rdO bs p why m).length c') ∧ OwnB w' w.heap.size A' (rdO bs p why m).length c' (rdO bs p why m) ∧ Rdr w' R O n c bs (rdP bs p why m) (rdW bs p why m) ∧ w.grownBy w' (some R) := by
  have hR := h.lt
  have hOl : ∀ g, (Value.slice O n c).ownBlock = some g → g < w.heap.size := by
    intro g e
    rcases h.own.2 with ⟨e1, _⟩ | ⟨g', cap, cur, e1, _, hh, _⟩
    · injection e1 with e1; subst e1; simp [Value.ownBlock] at e
    · injection e1 with e1; subst e1
      simp [Value.ownBlock] at e
      subst e
      rcases Nat.lt_or_ge g' w.heap.size with h | h
      · exact h
      · rw [Array.getElem?_eq_none h] at hh; cases hh
  have h0 := h.below ((Below.refl _ _).alloc (Nat.le_refl _) (.cells #[.slice none 0 0] 29))
  have hX := Blk.new w 29 #[.slice none 0 0]
  have hg : w.grownBy (w.alloc (.cells #[.slice none 0 0] 29)) (some R) := only_alloc (World.grownBy.refl w _) _
  have HT := Lib.hid (raw_tells R O n c bs w w.heap.size rfl)
  have hoN : OwnB (w.alloc (.cells #[.slice none 0 0] 29)) (w.heap.size + 1) none 0 0 [] := OwnB.none_ _ _
  clear h
  go_enter Try.func52, Try.ntmps52
  go_wp2_with fail
  refine (next_any R O n c bs p why m _ _ _ _ h0 HT.out ⟨⟨none, 0, hX, hoN⟩, hg, hR, by simp, hOl⟩ hm).mono ?_
  rintro e w1 ⟨rfl, hr, ⟨A1, c1, hx, ho1⟩, hg1, _, hs1, _⟩
  generalize hl : rdO bs p why m = l at *
  have HL := Lib.hid hl
  clear hl
  have hc : w1.cell? ⟨w.heap.size, 0, none⟩ = some (.slice A1 l.length c1) := hx.cell 0
  have hf : w1.frozen? ⟨w.heap.size, 0, none⟩ = false := hx.frozen 0
  have hx2 := hx.set_ 0 (.slice A1 l.length c1)
  have hc2 : (w1.setCell ⟨w.heap.size, 0, none⟩ (.slice A1 l.length c1)).cell? ⟨w.heap.size, 0, none⟩ = some (.slice A1 l.length c1) := hx2.cell 0
  have hr2 := hr.grown (row := some w.heap.size) (only_setCell (World.grownBy.refl w1 (some w.heap.size)) (p := ⟨w.heap.size, 0, none⟩) (.inl rfl) (.slice A1 l.length c1)) (by intro e; injection e with e; omega) (.inr (by intro e; have := hOl _ e; omega))
  have hg2 := only_setCell hg1 (p := ⟨w.heap.size, 0, none⟩) (.inr (Nat.le_refl _)) (.slice A1 l.length c1)
  have ho2 := ho1.far (p := ⟨w.heap.size, 0, none⟩) (by simp) (.slice A1 l.length c1)
  clear hr hx hg1 h0 hX hg hoN ho1
  go_wp2
  rw [HL.out]
  exact bodyPost_ret (v := .slice A1 l.length c1) (by simp [results, Try.results52, go_sem, hc2]) rfl ⟨A1, c1, rfl, ho2.less (by omega), hr2, hg2⟩
end Go.Proofs.Ytfpodalnnchnoaa
