/- What catalog.read keeps in memory while it reads. Conditions: none. -/
import Derived.Test.YthgcdilkkldgjaaDoorPkC13
namespace Go.Proofs.YthgcdilkkldgjaaDoor
open Go.RowKit
theorem LCO_reps_any {w w' : World} {F F' : Nat → Prop} : ∀ {xs : List CO} {cs : List Value}, LCO.reps w F xs cs → LCO.reps w' F' xs cs
  | [], _, h => h
  | _ :: _, _, ⟨c, d, e, hx, hr⟩ => ⟨c, d, e, hx, LCO_reps_any hr⟩
theorem LK_reps_any {w w' : World} {F F' : Nat → Prop} : ∀ {xs : List Int} {cs : List Value}, LK.reps w F xs cs → LK.reps w' F' xs cs
  | [], _, h => h
  | _ :: _, _, ⟨c, d, e, hx, hr⟩ => ⟨c, d, e, hx, LK_reps_any hr⟩
theorem row_same {w w' : World} {B s n : Nat} {e : TypeId} {v : Value} {xs : List Value} (h : w.ownsRow B e s v n xs) (hk : ∀ k, v.ownBlock = some k → w'.heap[k]? = w.heap[k]?) : w'.ownsRow B e s v n xs := by
  refine ⟨h.1, ?_⟩
  rcases h.2 with h2 | ⟨g, cap, cur, rfl, hg, hh, r⟩
  · exact .inl h2
  · exact .inr ⟨g, cap, cur, rfl, hg, (hk g (by simp [Value.ownBlock])).trans hh, r⟩
theorem LCO_own_to {e : TypeId} {w w' : World} {B n c : Nat} {G G' : Nat → Prop} {A : Option Addr} {xs : List CO} (h : LCO.own e w B G A n c xs) (hk : ∀ k, (Value.slice A n c).ownBlock = some k → w'.heap[k]? = w.heap[k]?) : LCO.own e w' B G' A n c xs := by
  obtain ⟨hl, cs, hr, ho⟩ := h
  exact ⟨hl, cs, LCO_reps_any hr, row_same ho hk⟩
theorem LK_own_to {e : TypeId} {w w' : World} {B n c : Nat} {G G' : Nat → Prop} {A : Option Addr} {xs : List Int} (h : LK.own e w B G A n c xs) (hk : ∀ k, (Value.slice A n c).ownBlock = some k → w'.heap[k]? = w.heap[k]?) : LK.own e w' B G' A n c xs := by
  obtain ⟨hl, cs, hr, ho⟩ := h
  exact ⟨hl, cs, LK_reps_any hr, row_same ho hk⟩
theorem own_lt {α : Type} {L : Lay α} {e : TypeId} {w : World} {B n c : Nat} {G : Nat → Prop} {A : Option Addr} {xs : List α} (h : L.own e w B G A n c xs) : ∀ k, (Value.slice A n c).ownBlock = some k → B ≤ k ∧ k < w.heap.size := by
  obtain ⟨hl, cs, hr, ho⟩ := h
  exact own_base' ho
theorem set_grown (w : World) (g o : Nat) (v : Value) : w.grownBy (w.setCell ⟨g, o, none⟩ v) (some g) := only_setCell (p := ⟨g, o, none⟩) (World.grownBy.refl w _) (.inl rfl) v
/-- what read keeps -/
structure RdS (w0 wr : World) (ad : Addr) (ws : List ByteArray) (nm : ByteArray) (A : Option Addr) (n c : Nat) (K : Option Addr) (m d : Nat) (cs : List CO) (ks : List Int) : Prop where
  ws : LS.rd wr (fun b => b = w0.heap.size + 1) (some ad) ws.length ws
  t : Blk wr (w0.heap.size + 2) 28 #[.string nm, .slice A n c, .slice K m d]
  co : LCO.own 59 wr (w0.heap.size + 3) (fun _ => True) A n c cs
  ko : LK.own 3 wr (w0.heap.size + 3) (fun _ => True) K m d ks
  ap : ∀ k, (Value.slice A n c).ownBlock = some k → (Value.slice K m d).ownBlock ≠ some k
  r : Blk wr w0.heap.size 28 #[.string ⟨#[]⟩, .slice none 0 0, .slice none 0 0]
  q : Below w0.heap.size w0 wr
  sz : w0.heap.size + 3 ≤ wr.heap.size
section
variable {w0 wr w' : World} {ad : Addr} {ws : List ByteArray} {nm : ByteArray} {A : Option Addr} {n c : Nat} {K : Option Addr} {m d : Nat} {cs : List CO} {ks : List Int}
theorem RdS.below (h : RdS w0 wr ad ws nm A n c K m d cs ks) (q : Below wr.heap.size wr w') : RdS w0 w' ad ws nm A n c K m d cs ks :=
  ⟨Lay.rd_below h.ws q, h.t.ca q, Lay.own_below h.co q, Lay.own_below h.ko q, h.ap, h.r.ca q, bl_ca h.q q, Nat.le_trans h.sz q.size⟩
theorem RdS.keyed (h : RdS w0 wr ad ws nm A n c K m d cs ks) {K2 : Option Addr} {m2 d2 : Nat} {ks2 : List Int} {w2 : World} (ho : LK.own 3 w2 (w0.heap.size + 3) (fun _ => True) K2 m2 d2 ks2)
    (hg : wr.grownBy w2 (Value.slice K m d).ownBlock) (hat : (Value.slice K2 m2 d2).ownBlock = (Value.slice K m d).ownBlock ∨ (Value.slice K2 m2 d2).ownBlock = some wr.heap.size) : RdS w0 (w2.setCell ⟨w0.heap.size + 2, 2, none⟩ (.slice K2 m2 d2)) ad ws nm A n c K2 m2 d2 cs ks2 := by
  have hs := set_grown w2 (w0.heap.size + 2) 2 (.slice K2 m2 d2)
  have hK := own_lt h.ko
  have hC := own_lt h.co
  have hB := h.sz
  have hz := hg.size
  have low : ∀ g, g < w0.heap.size + 3 → (Value.slice K m d).ownBlock ≠ some g := fun g hl e => by have := (hK g e).1; omega
  have k1 : ∀ g, g < w0.heap.size + 3 → g ≠ w0.heap.size + 2 → (w2.setCell ⟨w0.heap.size + 2, 2, none⟩ (.slice K2 m2 d2)).heap[g]? = wr.heap[g]? := fun g hl hne =>
    (hs.block g (by omega) (fun e => hne (by injection e))).trans (hg.block g (by omega) (fun e => low g hl e.symm))
  have ht2 : Blk w2 (w0.heap.size + 2) 28 #[.string nm, .slice A n c, .slice K m d] := h.t.grown hg (fun e => low _ (by omega) e.symm)
  refine ⟨Lay.rd_keep (fun b hb hl => ?_) h.ws, by simpa using ht2.set_ 2 (.slice K2 m2 d2), LCO_own_to h.co (fun k hk => ?_), LK_own_to ho (fun k hk => ?_), fun k hk e => ?_, blk_same h.r (k1 _ (by omega) (by omega)), ?_, by rw [World.size_setCell]; omega⟩
  · subst hb
    exact k1 _ (by omega) (by omega)
  · have := hC k hk
    exact (hs.block k (by omega) (fun e => by injection e with e; omega)).trans (hg.block k this.2 (fun e => h.ap k hk e.symm))
  · have := own_lt ho k hk
    exact hs.block k this.2 (fun e => by injection e with e; omega)
  · rcases hat with hat | hat
    · rw [hat] at e; exact h.ap k hk e
    · rw [hat] at e
      injection e with e
      have := (hC k hk).2
      omega
  · exact (h.q.grown hg (by omega) (fun k e => by have := (hK k e).1; omega)).grown hs (by omega) (fun k e => by injection e with e; omega)
theorem RdS.coled (h : RdS w0 wr ad ws nm A n c K m d cs ks) {A2 : Option Addr} {n2 c2 : Nat} {cs2 : List CO} {w2 : World} (ho : LCO.own 59 w2 (w0.heap.size + 3) (fun _ => True) A2 n2 c2 cs2)
    (hg : wr.grownBy w2 (Value.slice A n c).ownBlock) (hat : (Value.slice A2 n2 c2).ownBlock = (Value.slice A n c).ownBlock ∨ (Value.slice A2 n2 c2).ownBlock = some wr.heap.size) : RdS w0 (w2.setCell ⟨w0.heap.size + 2, 1, none⟩ (.slice A2 n2 c2)) ad ws nm A2 n2 c2 K m d cs2 ks := by
  have hs := set_grown w2 (w0.heap.size + 2) 1 (.slice A2 n2 c2)
  have hK := own_lt h.ko
  have hC := own_lt h.co
  have hB := h.sz
  have hz := hg.size
  have low : ∀ g, g < w0.heap.size + 3 → (Value.slice A n c).ownBlock ≠ some g := fun g hl e => by have := (hC g e).1; omega
  have k1 : ∀ g, g < w0.heap.size + 3 → g ≠ w0.heap.size + 2 → (w2.setCell ⟨w0.heap.size + 2, 1, none⟩ (.slice A2 n2 c2)).heap[g]? = wr.heap[g]? := fun g hl hne =>
    (hs.block g (by omega) (fun e => hne (by injection e))).trans (hg.block g (by omega) (fun e => low g hl e.symm))
  have ht2 : Blk w2 (w0.heap.size + 2) 28 #[.string nm, .slice A n c, .slice K m d] := h.t.grown hg (fun e => low _ (by omega) e.symm)
  refine ⟨Lay.rd_keep (fun b hb hl => ?_) h.ws, by simpa using ht2.set_ 1 (.slice A2 n2 c2), LCO_own_to ho (fun k hk => ?_), LK_own_to h.ko (fun k hk => ?_), fun k hk e => ?_, blk_same h.r (k1 _ (by omega) (by omega)), ?_, by rw [World.size_setCell]; omega⟩
  · subst hb
    exact k1 _ (by omega) (by omega)
  · have := own_lt ho k hk
    exact hs.block k this.2 (fun e => by injection e with e; omega)
  · have := hK k hk
    exact (hs.block k (by omega) (fun e => by injection e with e; omega)).trans (hg.block k this.2 (fun e => h.ap k e.symm hk))
  · rcases hat with hat | hat
    · rw [hat] at hk; exact h.ap k hk e
    · rw [hat] at hk
      injection hk with hk
      have := (hK k e).2
      omega
  · exact (h.q.grown hg (by omega) (fun k e => by have := (hC k e).1; omega)).grown hs (by omega) (fun k e => by injection e with e; omega)
theorem RdS.named (h : RdS w0 wr ad ws nm A n c K m d cs ks) (v : ByteArray) : RdS w0 (wr.setCell ⟨w0.heap.size + 2, 0, none⟩ (.string v)) ad ws v A n c K m d cs ks := by
  have hs := set_grown wr (w0.heap.size + 2) 0 (.string v)
  have hK := own_lt h.ko
  have hC := own_lt h.co
  have hB := h.sz
  have k1 : ∀ g, g < wr.heap.size → g ≠ w0.heap.size + 2 → (wr.setCell ⟨w0.heap.size + 2, 0, none⟩ (.string v)).heap[g]? = wr.heap[g]? := fun g hl hne => hs.block g hl (fun e => hne (by injection e))
  exact ⟨Lay.rd_keep (fun b hb hl => k1 _ hl (by omega)) h.ws, by simpa using h.t.set_ 0 (.string v), LCO_own_to h.co (fun k hk => k1 k (hC k hk).2 (by have := (hC k hk).1; omega)), LK_own_to h.ko (fun k hk => k1 k (hK k hk).2 (by have := (hK k hk).1; omega)), h.ap, blk_same h.r (k1 _ (by omega) (by omega)), h.q.grown hs (by omega) (fun k e => by injection e with e; omega), by rw [World.size_setCell]; exact hB⟩
theorem RdS.aside (h : RdS w0 wr ad ws nm A n c K m d cs ks) {g : Nat} (hg : wr.grownBy w' (some g)) (h3 : w0.heap.size + 3 ≤ g) (hA : (Value.slice A n c).ownBlock ≠ some g) (hK : (Value.slice K m d).ownBlock ≠ some g) : RdS w0 w' ad ws nm A n c K m d cs ks := by
  have k1 : ∀ b, b < wr.heap.size → b ≠ g → w'.heap[b]? = wr.heap[b]? := fun b hl hne => hg.block b hl (fun e => hne (by injection e))
  have hB := h.sz
  exact ⟨Lay.rd_keep (fun b hb hl => k1 _ hl (by omega)) h.ws, blk_same h.t (k1 _ (by omega) (by omega)), LCO_own_to h.co (fun k hk => k1 k (own_lt h.co k hk).2 (fun e => hA (e ▸ hk))), LK_own_to h.ko (fun k hk => k1 k (own_lt h.ko k hk).2 (fun e => hK (e ▸ hk))), h.ap, blk_same h.r (k1 _ (by omega) (by omega)), h.q.grown hg (by omega) (fun k e => by injection e with e; omega), Nat.le_trans hB hg.size⟩
end
end Go.Proofs.YthgcdilkkldgjaaDoor
