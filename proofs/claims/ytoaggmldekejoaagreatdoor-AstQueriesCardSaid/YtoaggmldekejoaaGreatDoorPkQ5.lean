/- append(out, x) of whatever data in a region that draws its order; the memory that changes. Conditions: none. -/
import Derived.Test.YtoaggmldekejoaaGreatDoorPkQ4
import Derived.Deep.AppendLies
import Derived.ArgAppend
namespace Go.Proofs.YtoaggmldekejoaaGreatDoor
open Go.RowKit
section
variable {α : Type} {L : Lay α} {e : TypeId} {P : Program}
theorem run_appL {w : World} (t ty : TypeId)
 (z : Value) (k bytes : Nat) (ht : P.underlying t = some (.slice e)) (hi : (P.info? e).map (fun i => (i.zero, i.size, i.bytes)) = some (some z, k, bytes)) (hk : L.size = k) (hzs : z.cells.size = k) (hk0 : 0 < k)
 (B : Nat) (G : Nat → Prop) (A : Option Addr) (n c : Nat) (xs : List α) (g c2 : Nat) (t' : TypeId) (vs : Array Value) (y : α)
 (hown : L.own e w B G A n c xs) (hr : Blk w g t' vs)
 (hy : L.rep w (fun b => G b ∧ (Value.slice A n c).ownBlock ≠ some b) y vs.toList) (hG : ∀ b, G b → b < w.heap.size) (hb : (n + 1) * bytes ≤ 140737488355328) (hn : n + 1 ≤ maxLen) (hB : B ≤ w.heap.size) :
 ∃ A' c' w', (Builtin.append_ #[t, t] ty #[.slice A n c, .slice (some ⟨g, 0, none⟩) 1 c2]).run P w = .ok (.slice A' (n + 1) c') w' ∧ L.own e w' B G A' (n + 1) c' (xs ++ [y]) ∧ w.grownBy w' (Value.slice A n c).ownBlock ∧ ((Value.slice A' (n + 1) c').ownBlock = (Value.slice A n c).ownBlock ∨ (Value.slice A' (n + 1) c').ownBlock = some w.heap.size) := by
 obtain ⟨hl, cs, hreps, hrow⟩ := hown
 obtain ⟨i0, hi0, hz0, hz1, hz2⟩ := info_parts hi
 subst hk
 have hR := reads_blk (s := L.size) (m := 1) hr rfl (by rw [L.len hy]; omega)
 obtain ⟨ad, e1, _, hcl⟩ := hR.2 (by omega)
 injection e1 with e1
 subst e1
 obtain ⟨g8, c8, w8, hrun, hown', hgr, hat, _⟩ := run_append_lies (P := P) (w := w) t ty B e i0 _ L.size bytes ht hi0 hz0 hz1 hz2 hzs hk0 (.slice A n c) n cs hrow ⟨g, 0, none⟩ 1 c2 vs.toList (by rw [L.len hy]; omega) hcl (L.one hy) (by omega) hn hb hB w.heap.size rfl
 have hat' : (Value.slice (some ⟨g8, 0, none⟩) (n + 1) c8).ownBlock = (Value.slice A n c).ownBlock ∨ (Value.slice (some ⟨g8, 0, none⟩) (n + 1) c8).ownBlock = some w.heap.size := by
  rcases hat with h | h
  · exact .inl (by rw [h]; simp [Value.ownBlock])
  · exact .inr (by rw [h]; simp [Value.ownBlock])
 have hne : ∀ b, G b → (Value.slice A n c).ownBlock ≠ some b → (Value.slice (some ⟨g8, 0, none⟩) (n + 1) c8).ownBlock ≠ some b := fun b hb hne => by
  rcases hat' with hat | hat
  · rw [hat]; exact hne
  · rw [hat]; intro e; injection e with e; have := hG b hb; omega
 have hkeep : ∀ b, (G b ∧ (Value.slice A n c).ownBlock ≠ some b) → b < w.heap.size → w8.heap[b]? = w.heap[b]? := fun b hb hlt => hgr.block b hlt (fun e => hb.2 e.symm)
 exact ⟨some ⟨g8, 0, none⟩, c8, w8, hrun, ⟨by rw [List.length_append, hl]; rfl, cs ++ vs.toList, Lay.reps_append (Lay.reps_weak (fun b hb _ => ⟨hb.1, hne b hb.1 hb.2⟩) (Lay.reps_keep hkeep hreps)) (Lay.reps_single (L.weak (fun b hb _ => ⟨hb.1, hne b hb.1 hb.2⟩) (L.keep hkeep hy))), hown'⟩, hgr, hat'⟩
end
theorem Lay.reads {α : Type} {L : Lay α} {w : World} {F : Nat → Prop} {A : Option Addr} {m : Nat} {ys : List α} (h : L.rd w F A m ys) : ∃ cs, L.reps w F ys cs ∧ Reads w w.heap.size L.size A m cs := by
 obtain ⟨hl, cs, hr, hc⟩ := h
 refine ⟨cs, hr, by rw [Lay.reps_len hr, hl], fun hn => ?_⟩
 obtain ⟨ad, e, hb, _, hh⟩ := hc hn
 exact ⟨ad, e, hb, hh⟩
theorem wpList_appLs {α : Type} {L : Lay α} {e : TypeId} {P : Program} {ops : Array Oper} {rest : List Oper} {o : Oper} {a : Act} {w : World} {Q : Exit → Act → World → Prop} (hgd : o.guard = none) (s x : Operand) (t : TypeId)
 (ho : o.op = .call { callee := .builtin .append, args := #[s, x], argTypes := #[t, t] })
 (z : Value) (k bytes : Nat) (ht : P.underlying t = some (.slice e)) (hi : (P.info? e).map (fun i => (i.zero, i.size, i.bytes)) = some (some z, k, bytes)) (hk : L.size = k) (hzs : z.cells.size = k) (hk0 : 0 < k)
 (B : Nat) (G F : Nat → Prop) (A : Option Addr) (n c : Nat) (xs : List α) (A2 : Option Addr) (m c2 : Nat) (ys : List α) (k2 : Nat) (hk2 : k2 = n + m)
 (hs : a.eval s = .slice A n c) (hx : a.eval x = .slice A2 m c2) (hown : L.own e w B G A n c xs) (hr : L.rd w F A2 m ys)
 (hFG : ∀ b, F b → b < w.heap.size → G b ∧ (Value.slice A n c).ownBlock ≠ some b) (hG : ∀ b, G b → b < w.heap.size) (hb : (n + m) * bytes ≤ 140737488355328) (hn : n + m ≤ maxLen) (hB : B ≤ w.heap.size)
 (h : ∀ A' c' w', L.own e w' B G A' k2 c' (xs ++ ys) → w.grownBy w' (Value.slice A n c).ownBlock → ((Value.slice A' k2 c').ownBlock = (Value.slice A n c).ownBlock ∨ (Value.slice A' k2 c').ownBlock = some w.heap.size) → wpList P ops Q rest (a.put o.dst (.slice A' k2 c')) w') : wpList P ops Q (o :: rest) a w := by
 subst hk2
 obtain ⟨hl, cs, hreps, hrow⟩ := hown
 obtain ⟨ds, hys, hrd⟩ := Lay.reads hr
 obtain ⟨i0, hi0, hz0, hz1, hz2⟩ := info_parts hi
 subst hk
 have hyl := Lay.rd_len hr
 refine wpList_append_any w hgd s x t ho B e i0 _ L.size bytes ht hi0 hz0 hz1 hz2 hzs hk0 (.slice A n c) n cs hs hrow w.heap.size A2 m c2 ds hx hrd (Lay.reps_one hys) hn hb hB ?_
 intro v' w' hown' hg hat
 obtain ⟨A', c', rfl⟩ := own_form' hown'
 have hne : ∀ b, G b → (Value.slice A n c).ownBlock ≠ some b → (Value.slice A' (n + m) c').ownBlock ≠ some b := fun b hb hne => by
  rcases hat with hat | hat
  · rw [hat]; exact hne
  · rw [hat]; intro e; injection e with e; have := hG b hb; omega
 have hkeep : ∀ b, (G b ∧ (Value.slice A n c).ownBlock ≠ some b) → b < w.heap.size → w'.heap[b]? = w.heap[b]? := fun b hb hlt => hg.block b hlt (fun e => hb.2 e.symm)
 have hys2 := Lay.reps_keep hkeep (Lay.reps_weak hFG hys)
 exact h A' c' w' ⟨by rw [List.length_append, hl, hyl], cs ++ ds, Lay.reps_append (Lay.reps_weak (fun b hb _ => ⟨hb.1, hne b hb.1 hb.2⟩) (Lay.reps_keep hkeep hreps)) (Lay.reps_weak (fun b hb _ => ⟨hb.1, hne b hb.1 hb.2⟩) hys2), hown'⟩ hg hat
/-- a literal without elements -/
theorem Lay.own_empty {α : Type} (L : Lay α) (w : World) (e : TypeId) (G : Nat → Prop) (_hz : 0 < L.size) : L.own e (w.alloc (.cells #[] e)) w.heap.size G (some ⟨w.heap.size, 0, none⟩) 0 0 [] :=
 ⟨rfl, [], rfl, by simp, .inr ⟨w.heap.size, 0, #[], rfl, Nat.le_refl _, heap_alloc_new w _, Nat.le_refl _, by decide, by simp, by simp⟩⟩
theorem run_appLs {α : Type} {L : Lay α} {e : TypeId} {P : Program} {w : World} (t ty : TypeId)
 (z : Value) (k bytes : Nat) (ht : P.underlying t = some (.slice e)) (hi : (P.info? e).map (fun i => (i.zero, i.size, i.bytes)) = some (some z, k, bytes)) (hk : L.size = k) (hzs : z.cells.size = k) (hk0 : 0 < k)
 (B : Nat) (G F : Nat → Prop) (A : Option Addr) (n c : Nat) (xs : List α) (A2 : Option Addr) (m c2 : Nat) (ys : List α)
 (hown : L.own e w B G A n c xs) (hr : L.rd w F A2 m ys)
 (hFG : ∀ b, F b → b < w.heap.size → G b ∧ (Value.slice A n c).ownBlock ≠ some b) (hG : ∀ b, G b → b < w.heap.size) (hb : (n + m) * bytes ≤ 140737488355328) (hn : n + m ≤ maxLen) (hB : B ≤ w.heap.size) :
 ∃ A' c' w', (Builtin.append_ #[t, t] ty #[.slice A n c, .slice A2 m c2]).run P w = .ok (.slice A' (n + m) c') w' ∧ L.own e w' B G A' (n + m) c' (xs ++ ys) ∧ w.grownBy w' (Value.slice A n c).ownBlock := by
 obtain ⟨hl, cs, hreps, hrow⟩ := hown
 obtain ⟨ds, hys, hrd⟩ := Lay.reads hr
 obtain ⟨i0, hi0, hz0, hz1, hz2⟩ := info_parts hi
 subst hk
 have hyl := Lay.rd_len hr
 obtain ⟨v', w', hrun, hown', hg, hat⟩ := run_append_any (P := P) w B t ty e i0 _ L.size bytes ht hi0 hz0 hz1 hz2 hzs hk0 (.slice A n c) n cs hrow w.heap.size A2 m c2 ds hrd (Lay.reps_one hys) hn hb hB
 obtain ⟨A', c', rfl⟩ := own_form' hown'
 have hne : ∀ b, G b → (Value.slice A n c).ownBlock ≠ some b → (Value.slice A' (n + m) c').ownBlock ≠ some b := fun b hb hne => by
  rcases hat with hat | hat
  · rw [hat]; exact hne
  · rw [hat]; intro e; injection e with e; have := hG b hb; omega
 have hkeep : ∀ b, (G b ∧ (Value.slice A n c).ownBlock ≠ some b) → b < w.heap.size → w'.heap[b]? = w.heap[b]? := fun b hb hlt => hg.block b hlt (fun e => hb.2 e.symm)
 have hys2 := Lay.reps_keep hkeep (Lay.reps_weak hFG hys)
 exact ⟨A', c', w', hrun, ⟨by rw [List.length_append, hl, hyl], cs ++ ds, Lay.reps_append (Lay.reps_weak (fun b hb _ => ⟨hb.1, hne b hb.1 hb.2⟩) (Lay.reps_keep hkeep hreps)) (Lay.reps_weak (fun b hb _ => ⟨hb.1, hne b hb.1 hb.2⟩) hys2), hown'⟩, hg⟩
theorem ownsRow_same {w w' : World} {B s n : Nat} {e : TypeId} {v : Value} {xs : List Value} (h : w.ownsRow B e s v n xs) (hk : ∀ k, v.ownBlock = some k → w'.heap[k]? = w.heap[k]?) : w'.ownsRow B e s v n xs := by
 refine ⟨h.1, ?_⟩
 rcases h.2 with h2 | ⟨g, cap, cur, rfl, hg, hh, r⟩
 · exact .inl h2
 · exact .inr ⟨g, cap, cur, rfl, hg, (hk g (by simp [Value.ownBlock])).trans hh, r⟩
theorem Lay.own_same {α : Type} {L : Lay α} {e : TypeId} {w w' : World} {B n c : Nat} {G : Nat → Prop} {A : Option Addr} {xs : List α} (h : L.own e w B G A n c xs) (hk : ∀ k, (Value.slice A n c).ownBlock = some k → w'.heap[k]? = w.heap[k]?) (hG : ∀ b, G b → (Value.slice A n c).ownBlock ≠ some b → b < w.heap.size → w'.heap[b]? = w.heap[b]?) : L.own e w' B G A n c xs := by
 obtain ⟨hl, cs, hr, ho⟩ := h
 exact ⟨hl, cs, Lay.reps_keep (fun b hb hlt => hG b hb.1 hb.2 hlt) hr, ownsRow_same ho hk⟩
theorem Lay.own_base {α : Type} {L : Lay α} {e : TypeId} {w : World} {B n c : Nat} {G : Nat → Prop} {A : Option Addr} {xs : List α} (h : L.own e w B G A n c xs) : ∀ k, (Value.slice A n c).ownBlock = some k → B ≤ k ∧ k < w.heap.size := by
 obtain ⟨hl, cs, hr, ho⟩ := h
 exact own_base' ho
theorem Lay.own_caps {α : Type} {L : Lay α} {e : TypeId} {w : World} {B n c : Nat} {G : Nat → Prop} {A : Option Addr} {xs : List α} (h : L.own e w B G A n c xs) : n ≤ c ∧ c ≤ 9223372036854775807 := by
 obtain ⟨hl, cs, hr, ho⟩ := h
 rcases ho.2 with ⟨e, _⟩ | ⟨g, cap, _, e, _, _, h1, h2, _⟩
 · injection e with _ e1 e2; omega
 · injection e with _ _ e2; unfold maxLen at h2; omega
/-- from w to w' at most blocks of X change -/
structure Chg (X : Nat → Prop) (w w' : World) : Prop where
 os : w'.os = w.os
 tape : w'.tape = w.tape
 output : w'.output = w.output
 size : w.heap.size ≤ w'.heap.size
 block : ∀ b, b < w.heap.size → ¬ X b → w'.heap[b]? = w.heap[b]?
theorem Chg.refl (X : Nat → Prop) (w : World) : Chg X w w := ⟨rfl, rfl, rfl, Nat.le_refl _, fun _ _ _ => rfl⟩
theorem Chg.below {X : Nat → Prop} {w w1 w2 : World} {B : Nat} (h : Chg X w w1) (q : Below B w1 w2) (hB : w.heap.size ≤ B) : Chg X w w2 :=
 ⟨q.os.trans h.os, q.tape.trans h.tape, q.output.trans h.output, Nat.le_trans h.size q.size, fun b hb hx => (q.block b (by omega)).trans (h.block b hb hx)⟩
theorem Chg.of_below {X : Nat → Prop} {w w1 : World} (q : Below w.heap.size w w1) : Chg X w w1 := (Chg.refl X w).below q (Nat.le_refl _)
theorem Chg.grown {X : Nat → Prop} {w w1 w2 : World} {r : Option Nat} (h : Chg X w w1) (hg : w1.grownBy w2 r) (hr : ∀ k, r = some k → X k ∨ w.heap.size ≤ k) : Chg X w w2 :=
 ⟨hg.os.trans h.os, hg.tape.trans h.tape, hg.output.trans h.output, Nat.le_trans h.size hg.size, fun b hb hx => (hg.block b (Nat.lt_of_lt_of_le hb h.size) (fun e => by rcases hr b e.symm with h9 | h9; exact hx h9; omega)).trans (h.block b hb hx)⟩
theorem Chg.trans {X : Nat → Prop} {w w1 w2 : World} (h : Chg X w w1) (k : Chg X w1 w2) : Chg X w w2 :=
 ⟨k.os.trans h.os, k.tape.trans h.tape, k.output.trans h.output, Nat.le_trans h.size k.size, fun b hb hx => (k.block b (Nat.lt_of_lt_of_le hb h.size) hx).trans (h.block b hb hx)⟩
theorem Chg.weak {X Y : Nat → Prop} {w w1 : World} (h : Chg X w w1) (hxy : ∀ b, b < w.heap.size → X b → Y b) : Chg Y w w1 := ⟨h.os, h.tape, h.output, h.size, fun b hb hy => h.block b hb (fun hx => hy (hxy b hb hx))⟩
theorem Chg.bel {X : Nat → Prop} {w0 w w' : World} {B : Nat} (h : Below B w0 w) (k : Chg X w w') (hX : ∀ b, b < w.heap.size → X b → B ≤ b) (hB : B ≤ w.heap.size) : Below B w0 w' :=
 ⟨k.os.trans h.os, k.tape.trans h.tape, k.output.trans h.output, Nat.le_trans h.size k.size, fun b hb => (k.block b (by omega) (fun hx => by have := hX b (by omega) hx; omega)).trans (h.block b hb)⟩
theorem Blk.chg {X : Nat → Prop} {w w' : World} {g : Nat} {t : TypeId} {cs : Array Value} (h : Blk w g t cs) (k : Chg X w w') (hx : ¬ X g) : Blk w' g t cs := (k.block g h.lt hx).trans h
theorem rd_chg {α : Type} {L : Lay α} {X F : Nat → Prop} {w w' : World} {A : Option Addr} {m : Nat} {xs : List α} (h : L.rd w F A m xs) (k : Chg X w w') (hF : ∀ b, F b → b < w.heap.size → ¬ X b) : L.rd w' F A m xs :=
 Lay.rd_keep (fun b hb hl => k.block b hl (hF b hb hl)) h
theorem ce {w w' : World} {a : Addr} {v : Value} (e : w.cell? a = some v) (b : Below w.heap.size w w') : w'.cell? a = some v := (b.cell (World.block_lt_of_cell? w a e)).trans e
theorem rd_grownH {α : Type} {L : Lay α} {w w' : World} {F : Nat → Prop} {A : Option Addr} {n g : Nat} {xs : List α} (h : L.rd w F A n xs) (q : w.grownBy w' (some g)) (hF : ∀ b, F b → b ≠ g) : L.rd w' F A n xs := Lay.rd_keep (fun b hb hl => q.block b hl (fun e => by injection e with e; exact hF b hb e)) h
theorem own_grownH {α : Type} {L : Lay α} {e : TypeId} {w w' : World} {B n c g : Nat} {G : Nat → Prop} {A : Option Addr} {xs : List α} (h : L.own e w B G A n c xs) (q : w.grownBy w' (some g)) (hg : g < B) (hF : ∀ b, G b → b ≠ g) : L.own e w' B G A n c xs :=
 Lay.own_same h (fun k e => q.block k (Lay.own_base h k e).2 (fun e2 => by injection e2 with e2; have := (Lay.own_base h k e).1; omega)) (fun b hb _ hl => q.block b hl (fun e2 => by injection e2 with e2; exact hF b hb e2))
theorem SeqN.z01 {k1 k2 k3 : Nat} {B : Nat → (Nat → Value) → World → Prop} {L : Array Bool} {m : Nat → Value} {w : World} {md : Region.Mode} {ops : Array Oper} {T : World → Prop} (hsh : Shut md ops L) (h2 : Dn L k2 = false) (hr : ([k3].all fun x => reach md ops ops.size x k2) = true)
 (t0 : ∀ m w, B 0 m w → T w) (t1 : ∀ m w, B 1 m w → T w) (hS : SeqN [k1, k2, k3] B L m w) : T w := by
 have hn := post_no hsh h2 hr
 unfold SeqN cntD cntD at hS
 rw [h2, cntD_none hn] at hS
 cases h7 : Dn L k1
 · rw [h7] at hS; exact t0 _ _ hS
 · rw [h7] at hS; exact t1 _ _ hS
theorem Chg.trans' {X Z : Nat → Prop} {w w1 w2 : World} (h : Chg X w w1) (k : Chg Z w1 w2) (hz : ∀ b, b < w.heap.size → Z b → X b) : Chg X w w2 :=
 ⟨k.os.trans h.os, k.tape.trans h.tape, k.output.trans h.output, Nat.le_trans h.size k.size, fun b hb hx => (k.block b (Nat.lt_of_lt_of_le hb h.size) (fun e => hx (hz b hb e))).trans (h.block b hb hx)⟩
theorem cntD_lt {L : Array Bool} {k : Nat} : ∀ {ks : List Nat}, k ∈ ks → Dn L k = false → cntD L ks < ks.length
 | [], h, _ => by cases h
 | j :: ks, h, hd => by
  have hle : ∀ l : List Nat, cntD L l ≤ l.length := fun l => by
   induction l with
   | nil => exact Nat.le_refl _
   | cons a l ih => unfold cntD; rw [List.length_cons]; split <;> omega
  unfold cntD
  rw [List.length_cons]
  rcases List.mem_cons.1 h with rfl | h
  · rw [hd]; have := hle ks; simp; omega
  · have := cntD_lt h hd; split <;> omega
theorem SeqN.zero {ks : List Nat} {B : Nat → (Nat → Value) → World → Prop} {L : Array Bool} {m : Nat → Value} {w : World} (h : ∀ x ∈ ks, Dn L x = false) (hS : SeqN ks B L m w) : B 0 m w := by
 unfold SeqN at hS
 rw [cntD_none h] at hS
 exact hS
theorem SeqN.lt {T : World → Prop} {ks : List Nat} {k : Nat} {B : Nat → (Nat → Value) → World → Prop} {L : Array Bool} {m : Nat → Value} {w : World} (hk : k ∈ ks) (hd : Dn L k = false) (t : ∀ j m w, j < ks.length → B j m w → T w) (hS : SeqN ks B L m w) : T w := t _ _ _ (cntD_lt hk hd) hS
theorem Lay.own_rd2 {α : Type} {L : Lay α} {e : TypeId} {w : World} {B n c : Nat} {G F : Nat → Prop} {A : Option Addr} {xs : List α} (h : L.own e w B G A n c xs) (hB : ∀ b, (Value.slice A n c).ownBlock = some b → F b) (hG : ∀ b, G b → b < w.heap.size → F b) : L.rd w F A n xs := by
 obtain ⟨hl, cs, hr, ho⟩ := h
 refine ⟨hl, cs, Lay.reps_weak (fun b hb hl => hG b hb.1 hl) hr, fun hn => ?_⟩
 obtain ⟨g, cap, hv, _, hlt⟩ := ho.form hn
 have hA : A = some ⟨g, 0, none⟩ := by injection hv
 subst hA
 exact ⟨_, rfl, hlt, hB g (by rw [hv]; simp [Value.ownBlock]), ho.cells (g := g) rfl⟩
theorem ownsRow_less {w : World} {B B' s n : Nat} {e : TypeId} {v : Value} {xs : List Value} (h : w.ownsRow B e s v n xs) (hB : B' ≤ B) : w.ownsRow B' e s v n xs := by
 refine ⟨h.1, ?_⟩
 rcases h.2 with h2 | ⟨g, cap, cur, rfl, hg, r⟩
 · exact .inl h2
 · exact .inr ⟨g, cap, cur, rfl, Nat.le_trans hB hg, r⟩
theorem Lay.own_less {α : Type} {L : Lay α} {e : TypeId} {w : World} {B B' n c : Nat} {G : Nat → Prop} {A : Option Addr} {xs : List α} (h : L.own e w B G A n c xs) (hB : B' ≤ B) : L.own e w B' G A n c xs := by
 obtain ⟨hl, cs, hr, ho⟩ := h
 exact ⟨hl, cs, hr, ownsRow_less ho hB⟩
end Go.Proofs.YtoaggmldekejoaaGreatDoor
/- What counts of a node. Conditions: what the tables hold. -/
namespace Go.Proofs.YtoaggmldekejoaaGreatDoor
open Go.RowKit
theorem plainV_eq (k n u : Int) (s : ByteArray) : plainV k n u s = plainB k n u s := by
 unfold plainV plainB rightB
 rw [toList_data]
 by_cases h0 : k = 0
 · subst h0; simp
 · rw [if_neg h0, if_neg h0]
   by_cases h1 : k = 1
   · subst h1; simp
   · rw [if_neg h1, if_neg h1]
     by_cases h2 : k = 2
     · subst h2; simp
     · rw [if_neg h2, if_neg h2]
       by_cases h3 : k = 3
       · subst h3; simp
       · rw [if_neg h3, Bool.eq_iff_iff]
         simp only [decide_eq_true_eq, Bool.and_eq_true, bne_iff_ne]
         omega
def zvB (p : Py) : Bool := decide (p.k = 0 ∧ p.n = 0 ∧ p.u = 0 ∧ p.s.data.toList = [])
theorem run_eqZ (k n u : Int) (s : ByteArray) : ∀ W, (Op.equalIn 10000 55 (.agg #[.int .i64 k, .int .i64 n, .int .u64 u, .string s]) (.agg #[.int .i64 0, .int .i64 0, .int .u64 0, .string ⟨#[]⟩])).run Tryz.prog W = .ok (decide (k = 0 ∧ n = 0 ∧ u = 0 ∧ s.data.toList = [])) W := by
 intro W
 rw [run_equalIn_agg W 9999 _ _ _ (by kernel_rfl) (by kernel_rfl)]
 have e : (s.toList = (⟨#[]⟩ : ByteArray).toList) ↔ s.data.toList = [] := by rw [toList_data, toList_data]
 go_simp
 by_cases h1 : k = 0 <;> by_cases h2 : n = 0 <;> by_cases h3 : u = 0 <;> by_cases h4 : s.data.toList = [] <;> simp_all [toList_data]
theorem eB_eq : (eB.toList == (⟨#[]⟩ : ByteArray).toList) = true := beq_self_eq_true _
theorem ne_list {s : ByteArray} (h : s.data.toList ≠ []) : (s.toList == (⟨#[]⟩ : ByteArray).toList) = false := by
 rw [toList_data, toList_data]
 cases hs : s.data.toList with
 | nil => exact absurd hs h
 | cons b r => rfl
set_option maxRecDepth 100000 in
set_option maxHeartbeats 8000000 in
theorem counts_any (p : Py) (l r : Int) (w : World) (hT : Tab w) (h1 : p.s.size ≤ 9223372036854775807) (h2 : p.tb.size ≤ 9223372036854775807) (h3 : p.nm.size ≤ 9223372036854775807) :
 Calls Tryz.prog 63 #[.agg (Nd.cells ⟨p, l, r⟩)] w fun e w' => e = .returned (.bool (cntB p)) ∧ Below w.heap.size w w' := by
 have HC := Lib.hid (show cntB p = if p.tag = 1 then decide (p.tb.data.toList = []) && (decide (p.nm.data.toList = []) && (plainV p.k p.n p.u p.s && (decide (0 ≤ p.n) && p.s.data.toList.all plU))) else if p.tag = 2 then zvB p && (nameB p.nm && (decide (p.tb.data.toList = []) || nameB p.tb)) else zvB p && (decide (p.tb.data.toList = []) && decide (p.nm.data.toList = [])) from rfl)
 have HZ := Lib.hid (show ∀ W, (Op.equalIn 10000 55 (.agg #[.int .i64 p.k, .int .i64 p.n, .int .u64 p.u, .string p.s]) (.agg #[.int .i64 0, .int .i64 0, .int .u64 0, .string ⟨#[]⟩])).run Tryz.prog W = .ok (zvB p) W from run_eqZ p.k p.n p.u p.s)
 obtain ⟨t, k, n, u, s, tb, nm⟩ := p
 generalize cntB ⟨t, k, n, u, s, tb, nm⟩ = res at *
 generalize zvB ⟨t, k, n, u, s, tb, nm⟩ = zv at *
 simp only at HC HZ h1 h2 h3 ⊢
 rw [plainV_eq] at HC
 have HQ := Lib.hid (bl_al (Below.refl w.heap.size w) (.cells (Nd.cells ⟨⟨t, k, n, u, s, tb, nm⟩, l, r⟩) 57))
 have HB := Lib.hid (Blk.new w 57 (Nd.cells ⟨⟨t, k, n, u, s, tb, nm⟩, l, r⟩))
 have HT := Lib.hid (hT.below HQ.out)
 have HS := Lib.hid (And.intro h1 (And.intro h2 h3))
 clear hT h1 h2 h3
 go_enter Tryz.func63, Tryz.ntmps63
 go_upto_region 1 with fail
 generalize w.alloc (.cells #[.int .i64 t, .int .i64 l, .int .i64 r, .int .i64 k, .int .i64 n, .int .u64 u, .string s, .string tb, .string nm] 57) = w1 at *
 by_cases htb : tb.data.toList = []
 case neg =>
  have etb := ne_list htb
  refine wp_region_ps (S := fun _ _ w' => Below w1.heap.size w1 w') (by kernel_rfl) ?spswg1 ?ppswg1
  case spswg1 =>
   exact (Below.refl w1.heap.size w1).drew
  refine Pz 0 (some 5) (.pointer (some ⟨w.heap.size, 7, none⟩)) rfl rfl (by exact StepS.pure nP rfl fun _ => rfl) ?_
  try simp only [Act.put, sA, sZ, sS]
  refine Pz 1 (some 6) (.string tb) rfl rfl ?ywg1_3 ?rwg1_3
  case ywg1_3 =>
   refine StepS.read [] (by kernel_rfl) nP (by rfl) (fun L9 m9 w9 hSh hAt hDn hS => ?_)
   have hT : Below _ _ w9 := hS
   have x0 : w9.cell? ⟨w.heap.size, 7, none⟩ = some (.string tb) := (HB.out.ca hT).cell 7
   clear hT hS
   go_simp
   try rfl
  try simp only [Act.put, sA, sZ, sS]
  refine Pz 2 (some 7) (.bool (true)) rfl rfl ?ywg1_4 ?rwg1_4
  case ywg1_4 =>
   refine StepS.pure nP (by rfl) (fun w9 => ?_)
   refine Eq.trans ?_ (congrArg (fun b => Result.ok (Next.value (Value.bool b)) w9) (show (!(tb.toList == (⟨#[]⟩ : ByteArray).toList)) = true from by rw [etb]; rfl))
   first | rfl | (go_simp; done) | (go_simp; rfl)
  try simp only [Act.put, sA, sZ, sS]
  refine Pz 3 (some 8) (.bool (true)) rfl rfl (by exact StepS.pure nP rfl fun _ => rfl) ?_
  try simp only [Act.put, sA, sZ, sS]
  refine Pz 4 (some 9) undef rfl rfl (by  exact StepS.skip nP rfl) ?_
  try simp only [Act.put, sA, sZ, sS]
  refine Pz 5 (some 10) undef rfl rfl (by  exact StepS.skip nP rfl) ?_
  try simp only [Act.put, sA, sZ, sS]
  refine Pz 6 (some 11) undef rfl rfl (by  exact StepS.skip nP rfl) ?_
  try simp only [Act.put, sA, sZ, sS]
  refine Pz 7 (some 12) (.bool (true)) rfl rfl (by exact StepS.pure nP rfl fun _ => rfl) ?_
  try simp only [Act.put, sA, sZ, sS]
  refine Pz 8 (some 13) (.pointer (some ⟨w.heap.size, 3, none⟩)) rfl rfl (by exact StepS.pure nP rfl fun _ => rfl) ?_
  try simp only [Act.put, sA, sZ, sS]
  refine Pz 9 (some 14) (.agg #[.int .i64 (k), .int .i64 (n), .int .u64 (u), .string s]) rfl rfl ?ywg1_11 ?rwg1_11
  case ywg1_11 =>
   refine StepS.read [] (by kernel_rfl) nP (by rfl) (fun L9 m9 w9 hSh hAt hDn hS => ?_)
   have hT : Below _ _ w9 := hS
   have x0 : w9.cell? ⟨w.heap.size, 3, none⟩ = some (.int .i64 (k)) := (HB.out.ca hT).cell 3
   have x1 : w9.cell? ⟨w.heap.size, 4, none⟩ = some (.int .i64 (n)) := (HB.out.ca hT).cell 4
   have x2 : w9.cell? ⟨w.heap.size, 5, none⟩ = some (.int .u64 (u)) := (HB.out.ca hT).cell 5
   have x3 : w9.cell? ⟨w.heap.size, 6, none⟩ = some (.string s) := (HB.out.ca hT).cell 6
   clear hT hS
   go_simp
   try rfl
  try simp only [Act.put, sA, sZ, sS]
  refine Pz 10 (some 15) (.agg #[.int .i64 (0), .int .i64 (0), .int .u64 (0), .string ⟨#[]⟩]) rfl rfl (by exact StepS.pure nP rfl fun _ => by first | rfl | (go_simp; done) | (go_simp; rfl)) ?_
  try simp only [Act.put, sA, sZ, sS]
  refine Pz 11 (some 16) (.bool (!zv)) rfl rfl ?ywg1_13 ?rwg1_13
  case ywg1_13 =>
   refine StepS.pure nP (by rfl) (fun w9 => ?_)
   have heq := HZ.out
   first | rfl | (go_simp; done) | (go_simp; rfl)
  try simp only [Act.put, sA, sZ, sS]
  refine Pz 12 (some 3) (.bool (true)) rfl rfl (by exact StepS.pure nP rfl fun _ => rfl) ?_
  try simp only [Act.put, sA, sZ, sS]
  refine Pz 13 (some 4) (.bool (!zv)) rfl rfl (by exact StepS.pure nP rfl fun _ => rfl) ?_
  try simp only [Act.put, sA, sZ, sS]
  refine Ps.done (by kernel_rfl) (fun wg1 hS => ?_) _
  have HW2 := Lib.hid (show Below w1.heap.size w1 wg1 from hS)
  clear hS
  obtain ⟨w2, rfl⟩ : ∃ x, x = wg1 := ⟨_, rfl⟩
  clear etb
  have HTB := Lib.hid htb
  clear htb
  have HQ2 := Lib.hid (bl_ca HQ.out HW2.out)
  have HT2 := Lib.hid (HT.out.below HW2.out)
  have HB2 := Lib.hid (HB.out.ca HW2.out)
  have x0 := HB2.out.cell 0
  have x3 := HB2.out.cell 3
  have x4 := HB2.out.cell 4
  have x5 := HB2.out.cell 5
  have x6 := HB2.out.cell 6
  have x7 := HB2.out.cell 7
  have x8 := HB2.out.cell 8
  simp at x0 x3 x4 x5 x6 x7 x8
  by_cases t1 : t = 1
  · subst t1
    have HF := Lib.hid (show res = false from by rw [HC.out, if_pos rfl]; rw [decide_eq_false HTB.out]; rfl)
    clear HC
    go_wp2
    go_ret
    exact ⟨ret_bool HF.out.symm, HQ2.out⟩
  have g1 : (t == 1) = false := by simpa using t1
  by_cases t2 : t = 2
  · subst t2
    have HF := Lib.hid (show res = (zv && (nameB nm && (decide (tb.data.toList = []) || nameB tb))) from by rw [HC.out, if_neg t1, if_pos rfl])
    clear HC g1 t1
    cases zv
    · go_wp2
      go_ret
      exact ⟨ret_bool (by rw [HF.out]; rfl), HQ2.out⟩
    · go_wp2_with fail
      refine (isname_any nm _ HT2.out HS.out.2.2).mono ?_
      rintro e w3 ⟨rfl, q3⟩
      have HQ3 := Lib.hid (bl_ca HQ2.out q3)
      have HT3 := Lib.hid (HT2.out.below q3)
      have y7 := (HB2.out.ca q3).cell 7
      simp at y7
      clear q3 x0 x3 x4 x5 x6 x7 x8
      cases hnn : nameB nm
      · have HF2 := Lib.hid (show res = false from by rw [HF.out, hnn]; rfl)
        clear hnn
        go_wp2
        go_ret
        exact ⟨ret_bool HF2.out.symm, HQ3.out⟩
      · have HF2 := Lib.hid (show res = mayB tb from by rw [HF.out, hnn]; rfl)
        clear hnn
        go_wp2_with fail
        refine (maybe_any tb _ HT3.out HS.out.2.1).mono ?_
        rintro e w4 ⟨rfl, q4⟩
        have HQ4 := Lib.hid (bl_ca HQ3.out q4)
        clear q4
        go_wp2
        go_ret
        exact ⟨ret_bool HF2.out.symm, HQ4.out⟩
  have g2 : (t == 2) = false := by simpa using t2
  have HF := Lib.hid (show res = (zv && false) from by rw [HC.out, if_neg t1, if_neg t2]; rw [decide_eq_false HTB.out]; rfl)
  clear HC t1 t2
  cases zv
  · go_wp2
    go_ret
    exact ⟨ret_bool (by rw [HF.out]; rfl), HQ2.out⟩
  · go_wp2
    go_ret
    exact ⟨ret_bool (by rw [HF.out]; rfl), HQ2.out⟩
 case pos =>
 have htb2 := ba_e htb
 by_cases hnm : nm.data.toList = []
 case neg =>
  have enm := ne_list hnm
  refine wp_region_ps (S := fun _ _ w' => Below w1.heap.size w1 w') (by kernel_rfl) ?spswg16 ?ppswg16
  case spswg16 =>
   exact (Below.refl w1.heap.size w1).drew
  refine Pz 0 (some 5) (.pointer (some ⟨w.heap.size, 7, none⟩)) rfl rfl (by exact StepS.pure nP rfl fun _ => rfl) ?_
  try simp only [Act.put, sA, sZ, sS]
  refine Pz 1 (some 6) (.string tb) rfl rfl ?ywg16_18 ?rwg16_18
  case ywg16_18 =>
   refine StepS.read [] (by kernel_rfl) nP (by rfl) (fun L9 m9 w9 hSh hAt hDn hS => ?_)
   have hT : Below _ _ w9 := hS
   have x0 : w9.cell? ⟨w.heap.size, 7, none⟩ = some (.string tb) := (HB.out.ca hT).cell 7
   clear hT hS
   go_simp
   try rfl
  try simp only [Act.put, sA, sZ, sS]
  refine Pz 2 (some 7) (.bool (false)) rfl rfl ?ywg16_19 ?rwg16_19
  case ywg16_19 =>
   refine StepS.pure nP (by rfl) (fun w9 => ?_)
   refine Eq.trans ?_ (congrArg (fun b => Result.ok (Next.value (Value.bool b)) w9) (show (!(tb.toList == (⟨#[]⟩ : ByteArray).toList)) = false from by rw [htb2, eB_eq]; rfl))
   first | rfl | (go_simp; done) | (go_simp; rfl)
  try simp only [Act.put, sA, sZ, sS]
  refine Pz 3 (some 8) (.bool (false)) rfl rfl (by exact StepS.pure nP rfl fun _ => rfl) ?_
  try simp only [Act.put, sA, sZ, sS]
  refine Pz 4 (some 9) (.pointer (some ⟨w.heap.size, 8, none⟩)) rfl rfl (by exact StepS.pure nP rfl fun _ => rfl) ?_
  try simp only [Act.put, sA, sZ, sS]
  refine Pz 5 (some 10) (.string nm) rfl rfl ?ywg16_22 ?rwg16_22
  case ywg16_22 =>
   refine StepS.read [] (by kernel_rfl) nP (by rfl) (fun L9 m9 w9 hSh hAt hDn hS => ?_)
   have hT : Below _ _ w9 := hS
   have x0 : w9.cell? ⟨w.heap.size, 8, none⟩ = some (.string nm) := (HB.out.ca hT).cell 8
   clear hT hS
   go_simp
   try rfl
  try simp only [Act.put, sA, sZ, sS]
  refine Pz 6 (some 11) (.bool (true)) rfl rfl ?ywg16_23 ?rwg16_23
  case ywg16_23 =>
   refine StepS.pure nP (by rfl) (fun w9 => ?_)
   refine Eq.trans ?_ (congrArg (fun b => Result.ok (Next.value (Value.bool b)) w9) (show (!(nm.toList == (⟨#[]⟩ : ByteArray).toList)) = true from by rw [enm]; rfl))
   first | rfl | (go_simp; done) | (go_simp; rfl)
  try simp only [Act.put, sA, sZ, sS]
  refine Pz 7 (some 12) (.bool (true)) rfl rfl (by exact StepS.pure nP rfl fun _ => rfl) ?_
  try simp only [Act.put, sA, sZ, sS]
  refine Pz 8 (some 13) (.pointer (some ⟨w.heap.size, 3, none⟩)) rfl rfl (by exact StepS.pure nP rfl fun _ => rfl) ?_
  try simp only [Act.put, sA, sZ, sS]
  refine Pz 9 (some 14) (.agg #[.int .i64 (k), .int .i64 (n), .int .u64 (u), .string s]) rfl rfl ?ywg16_26 ?rwg16_26
  case ywg16_26 =>
   refine StepS.read [] (by kernel_rfl) nP (by rfl) (fun L9 m9 w9 hSh hAt hDn hS => ?_)
   have hT : Below _ _ w9 := hS
   have x0 : w9.cell? ⟨w.heap.size, 3, none⟩ = some (.int .i64 (k)) := (HB.out.ca hT).cell 3
   have x1 : w9.cell? ⟨w.heap.size, 4, none⟩ = some (.int .i64 (n)) := (HB.out.ca hT).cell 4
   have x2 : w9.cell? ⟨w.heap.size, 5, none⟩ = some (.int .u64 (u)) := (HB.out.ca hT).cell 5
   have x3 : w9.cell? ⟨w.heap.size, 6, none⟩ = some (.string s) := (HB.out.ca hT).cell 6
   clear hT hS
   go_simp
   try rfl
  try simp only [Act.put, sA, sZ, sS]
  refine Pz 10 (some 15) (.agg #[.int .i64 (0), .int .i64 (0), .int .u64 (0), .string ⟨#[]⟩]) rfl rfl (by exact StepS.pure nP rfl fun _ => by first | rfl | (go_simp; done) | (go_simp; rfl)) ?_
  try simp only [Act.put, sA, sZ, sS]
  refine Pz 11 (some 16) (.bool (!zv)) rfl rfl ?ywg16_28 ?rwg16_28
  case ywg16_28 =>
   refine StepS.pure nP (by rfl) (fun w9 => ?_)
   have heq := HZ.out
   first | rfl | (go_simp; done) | (go_simp; rfl)
  try simp only [Act.put, sA, sZ, sS]
  refine Pz 12 (some 3) (.bool (true)) rfl rfl (by exact StepS.pure nP rfl fun _ => rfl) ?_
  try simp only [Act.put, sA, sZ, sS]
  refine Pz 13 (some 4) (.bool (!zv)) rfl rfl (by exact StepS.pure nP rfl fun _ => rfl) ?_
  try simp only [Act.put, sA, sZ, sS]
  refine Ps.done (by kernel_rfl) (fun wg16 hS => ?_) _
  have HW2 := Lib.hid (show Below w1.heap.size w1 wg16 from hS)
  clear hS
  obtain ⟨w2, rfl⟩ : ∃ x, x = wg16 := ⟨_, rfl⟩
  clear enm htb2
  have HTB := Lib.hid htb
  have HNM := Lib.hid hnm
  clear htb hnm
  have HQ2 := Lib.hid (bl_ca HQ.out HW2.out)
  have HT2 := Lib.hid (HT.out.below HW2.out)
  have HB2 := Lib.hid (HB.out.ca HW2.out)
  have x0 := HB2.out.cell 0
  have x3 := HB2.out.cell 3
  have x4 := HB2.out.cell 4
  have x5 := HB2.out.cell 5
  have x6 := HB2.out.cell 6
  have x7 := HB2.out.cell 7
  have x8 := HB2.out.cell 8
  simp at x0 x3 x4 x5 x6 x7 x8
  by_cases t1 : t = 1
  · subst t1
    have HF := Lib.hid (show res = false from by rw [HC.out, if_pos rfl]; rw [decide_eq_false HNM.out, Bool.false_and, Bool.and_false])
    clear HC
    go_wp2
    go_ret
    exact ⟨ret_bool HF.out.symm, HQ2.out⟩
  have g1 : (t == 1) = false := by simpa using t1
  by_cases t2 : t = 2
  · subst t2
    have HF := Lib.hid (show res = (zv && (nameB nm && (decide (tb.data.toList = []) || nameB tb))) from by rw [HC.out, if_neg t1, if_pos rfl])
    clear HC g1 t1
    cases zv
    · go_wp2
      go_ret
      exact ⟨ret_bool (by rw [HF.out]; rfl), HQ2.out⟩
    · go_wp2_with fail
      refine (isname_any nm _ HT2.out HS.out.2.2).mono ?_
      rintro e w3 ⟨rfl, q3⟩
      have HQ3 := Lib.hid (bl_ca HQ2.out q3)
      have HT3 := Lib.hid (HT2.out.below q3)
      have y7 := (HB2.out.ca q3).cell 7
      simp at y7
      clear q3 x0 x3 x4 x5 x6 x7 x8
      cases hnn : nameB nm
      · have HF2 := Lib.hid (show res = false from by rw [HF.out, hnn]; rfl)
        clear hnn
        go_wp2
        go_ret
        exact ⟨ret_bool HF2.out.symm, HQ3.out⟩
      · have HF2 := Lib.hid (show res = mayB tb from by rw [HF.out, hnn]; rfl)
        clear hnn
        go_wp2_with fail
        refine (maybe_any tb _ HT3.out HS.out.2.1).mono ?_
        rintro e w4 ⟨rfl, q4⟩
        have HQ4 := Lib.hid (bl_ca HQ3.out q4)
        clear q4
        go_wp2
        go_ret
        exact ⟨ret_bool HF2.out.symm, HQ4.out⟩
  have g2 : (t == 2) = false := by simpa using t2
  have HF := Lib.hid (show res = (zv && false) from by rw [HC.out, if_neg t1, if_neg t2]; rw [decide_eq_false HNM.out, Bool.and_false])
  clear HC t1 t2
  cases zv
  · go_wp2
    go_ret
    exact ⟨ret_bool (by rw [HF.out]; rfl), HQ2.out⟩
  · go_wp2
    go_ret
    exact ⟨ret_bool (by rw [HF.out]; rfl), HQ2.out⟩
 case pos =>
  have hnm2 := ba_e hnm
  refine wp_region_ps (S := fun _ _ w' => Below w1.heap.size w1 w') (by kernel_rfl) ?spswg31 ?ppswg31
  case spswg31 =>
   exact (Below.refl w1.heap.size w1).drew
  refine Pz 0 (some 5) (.pointer (some ⟨w.heap.size, 7, none⟩)) rfl rfl (by exact StepS.pure nP rfl fun _ => rfl) ?_
  try simp only [Act.put, sA, sZ, sS]
  refine Pz 1 (some 6) (.string tb) rfl rfl ?ywg31_33 ?rwg31_33
  case ywg31_33 =>
   refine StepS.read [] (by kernel_rfl) nP (by rfl) (fun L9 m9 w9 hSh hAt hDn hS => ?_)
   have hT : Below _ _ w9 := hS
   have x0 : w9.cell? ⟨w.heap.size, 7, none⟩ = some (.string tb) := (HB.out.ca hT).cell 7
   clear hT hS
   go_simp
   try rfl
  try simp only [Act.put, sA, sZ, sS]
  refine Pz 2 (some 7) (.bool (false)) rfl rfl ?ywg31_34 ?rwg31_34
  case ywg31_34 =>
   refine StepS.pure nP (by rfl) (fun w9 => ?_)
   refine Eq.trans ?_ (congrArg (fun b => Result.ok (Next.value (Value.bool b)) w9) (show (!(tb.toList == (⟨#[]⟩ : ByteArray).toList)) = false from by rw [htb2, eB_eq]; rfl))
   first | rfl | (go_simp; done) | (go_simp; rfl)
  try simp only [Act.put, sA, sZ, sS]
  refine Pz 3 (some 8) (.bool (false)) rfl rfl (by exact StepS.pure nP rfl fun _ => rfl) ?_
  try simp only [Act.put, sA, sZ, sS]
  refine Pz 4 (some 9) (.pointer (some ⟨w.heap.size, 8, none⟩)) rfl rfl (by exact StepS.pure nP rfl fun _ => rfl) ?_
  try simp only [Act.put, sA, sZ, sS]
  refine Pz 5 (some 10) (.string nm) rfl rfl ?ywg31_37 ?rwg31_37
  case ywg31_37 =>
   refine StepS.read [] (by kernel_rfl) nP (by rfl) (fun L9 m9 w9 hSh hAt hDn hS => ?_)
   have hT : Below _ _ w9 := hS
   have x0 : w9.cell? ⟨w.heap.size, 8, none⟩ = some (.string nm) := (HB.out.ca hT).cell 8
   clear hT hS
   go_simp
   try rfl
  try simp only [Act.put, sA, sZ, sS]
  refine Pz 6 (some 11) (.bool (false)) rfl rfl ?ywg31_38 ?rwg31_38
  case ywg31_38 =>
   refine StepS.pure nP (by rfl) (fun w9 => ?_)
   refine Eq.trans ?_ (congrArg (fun b => Result.ok (Next.value (Value.bool b)) w9) (show (!(nm.toList == (⟨#[]⟩ : ByteArray).toList)) = false from by rw [hnm2, eB_eq]; rfl))
   first | rfl | (go_simp; done) | (go_simp; rfl)
  try simp only [Act.put, sA, sZ, sS]
  refine Pz 7 (some 12) (.bool (false)) rfl rfl (by exact StepS.pure nP rfl fun _ => rfl) ?_
  try simp only [Act.put, sA, sZ, sS]
  refine Pz 8 (some 13) (.pointer (some ⟨w.heap.size, 3, none⟩)) rfl rfl (by exact StepS.pure nP rfl fun _ => rfl) ?_
  try simp only [Act.put, sA, sZ, sS]
  refine Pz 9 (some 14) (.agg #[.int .i64 (k), .int .i64 (n), .int .u64 (u), .string s]) rfl rfl ?ywg31_41 ?rwg31_41
  case ywg31_41 =>
   refine StepS.read [] (by kernel_rfl) nP (by rfl) (fun L9 m9 w9 hSh hAt hDn hS => ?_)
   have hT : Below _ _ w9 := hS
   have x0 : w9.cell? ⟨w.heap.size, 3, none⟩ = some (.int .i64 (k)) := (HB.out.ca hT).cell 3
   have x1 : w9.cell? ⟨w.heap.size, 4, none⟩ = some (.int .i64 (n)) := (HB.out.ca hT).cell 4
   have x2 : w9.cell? ⟨w.heap.size, 5, none⟩ = some (.int .u64 (u)) := (HB.out.ca hT).cell 5
   have x3 : w9.cell? ⟨w.heap.size, 6, none⟩ = some (.string s) := (HB.out.ca hT).cell 6
   clear hT hS
   go_simp
   try rfl
  try simp only [Act.put, sA, sZ, sS]
  refine Pz 10 (some 15) (.agg #[.int .i64 (0), .int .i64 (0), .int .u64 (0), .string ⟨#[]⟩]) rfl rfl (by exact StepS.pure nP rfl fun _ => by first | rfl | (go_simp; done) | (go_simp; rfl)) ?_
  try simp only [Act.put, sA, sZ, sS]
  refine Pz 11 (some 16) (.bool (!zv)) rfl rfl ?ywg31_43 ?rwg31_43
  case ywg31_43 =>
   refine StepS.pure nP (by rfl) (fun w9 => ?_)
   have heq := HZ.out
   first | rfl | (go_simp; done) | (go_simp; rfl)
  try simp only [Act.put, sA, sZ, sS]
  refine Pz 12 (some 3) (.bool (false)) rfl rfl (by exact StepS.pure nP rfl fun _ => rfl) ?_
  try simp only [Act.put, sA, sZ, sS]
  refine Pz 13 (some 4) (.bool (!zv)) rfl rfl (by exact StepS.pure nP rfl fun _ => rfl) ?_
  try simp only [Act.put, sA, sZ, sS]
  refine Ps.done (by kernel_rfl) (fun wg31 hS => ?_) _
  have HW2 := Lib.hid (show Below w1.heap.size w1 wg31 from hS)
  clear hS
  obtain ⟨w2, rfl⟩ : ∃ x, x = wg31 := ⟨_, rfl⟩
  clear htb2 hnm2
  have HTB := Lib.hid htb
  have HNM := Lib.hid hnm
  clear htb hnm
  have HQ2 := Lib.hid (bl_ca HQ.out HW2.out)
  have HT2 := Lib.hid (HT.out.below HW2.out)
  have HB2 := Lib.hid (HB.out.ca HW2.out)
  have x0 := HB2.out.cell 0
  have x3 := HB2.out.cell 3
  have x4 := HB2.out.cell 4
  have x5 := HB2.out.cell 5
  have x6 := HB2.out.cell 6
  have x7 := HB2.out.cell 7
  have x8 := HB2.out.cell 8
  simp at x0 x3 x4 x5 x6 x7 x8
  by_cases t1 : t = 1
  · subst t1
    have HF := Lib.hid (show res = (plainB k n u s && (decide (0 ≤ n) && wriB s)) from by rw [HC.out, if_pos rfl, decide_eq_true HTB.out, decide_eq_true HNM.out]; rfl)
    clear HC
    go_wp2_with fail
    refine (plain_any k n u s _).mono ?_
    rintro e w3 ⟨rfl, q3⟩
    have HQ3 := Lib.hid (bl_ca HQ2.out q3)
    have y4 := (HB2.out.ca q3).cell 4
    have y6 := (HB2.out.ca q3).cell 6
    simp at y4 y6
    clear q3 x0 x3 x4 x5 x6 x7 x8
    cases hpp : plainB k n u s
    · have HF2 := Lib.hid (show res = false from by rw [HF.out, hpp]; rfl)
      clear hpp
      go_wp2
      go_ret
      exact ⟨ret_bool HF2.out.symm, HQ3.out⟩
    · by_cases hn0 : 0 ≤ n
      · have HF2 := Lib.hid (show res = wriB s from by rw [HF.out, hpp, decide_eq_true hn0]; rfl)
        clear hpp
        go_wp2_with fail
        refine (written_any s _ HS.out.1).mono ?_
        rintro e w4 ⟨rfl, q4⟩
        have HQ4 := Lib.hid (bl_ca HQ3.out q4)
        clear q4
        go_wp2
        go_ret
        exact ⟨ret_bool HF2.out.symm, HQ4.out⟩
      · have HF2 := Lib.hid (show res = false from by rw [HF.out, hpp, decide_eq_false hn0]; rfl)
        have hn1 : n < 0 := by omega
        clear hpp hn0
        go_wp2
        go_ret
        exact ⟨ret_bool HF2.out.symm, HQ3.out⟩
  have g1 : (t == 1) = false := by simpa using t1
  by_cases t2 : t = 2
  · subst t2
    have HF := Lib.hid (show res = (zv && (nameB nm && (decide (tb.data.toList = []) || nameB tb))) from by rw [HC.out, if_neg t1, if_pos rfl])
    clear HC g1 t1
    cases zv
    · go_wp2
      go_ret
      exact ⟨ret_bool (by rw [HF.out]; rfl), HQ2.out⟩
    · go_wp2_with fail
      refine (isname_any nm _ HT2.out HS.out.2.2).mono ?_
      rintro e w3 ⟨rfl, q3⟩
      have HQ3 := Lib.hid (bl_ca HQ2.out q3)
      have HT3 := Lib.hid (HT2.out.below q3)
      have y7 := (HB2.out.ca q3).cell 7
      simp at y7
      clear q3 x0 x3 x4 x5 x6 x7 x8
      cases hnn : nameB nm
      · have HF2 := Lib.hid (show res = false from by rw [HF.out, hnn]; rfl)
        clear hnn
        go_wp2
        go_ret
        exact ⟨ret_bool HF2.out.symm, HQ3.out⟩
      · have HF2 := Lib.hid (show res = mayB tb from by rw [HF.out, hnn]; rfl)
        clear hnn
        go_wp2_with fail
        refine (maybe_any tb _ HT3.out HS.out.2.1).mono ?_
        rintro e w4 ⟨rfl, q4⟩
        have HQ4 := Lib.hid (bl_ca HQ3.out q4)
        clear q4
        go_wp2
        go_ret
        exact ⟨ret_bool HF2.out.symm, HQ4.out⟩
  have g2 : (t == 2) = false := by simpa using t2
  have HF := Lib.hid (show res = (zv && true) from by rw [HC.out, if_neg t1, if_neg t2]; rw [decide_eq_true HTB.out, decide_eq_true HNM.out]; rfl)
  clear HC t1 t2
  cases zv
  · go_wp2
    go_ret
    exact ⟨ret_bool (by rw [HF.out]; rfl), HQ2.out⟩
  · go_wp2
    go_ret
    exact ⟨ret_bool (by rw [HF.out]; rfl), HQ2.out⟩
end Go.Proofs.YtoaggmldekejoaaGreatDoor
/- The parts that stand open, as the program keeps them, in plain Lean. Conditions: none. -/
namespace Go.Proofs.YtoaggmldekejoaaGreatDoor
/-- where the parts of all places begin, and how deep they are -/
def bels : List Tr → List (Nat × Nat)
 | [] => []
 | t :: r => bels r ++ t.bel (sizes r)
/-- roots of what stands open -/
def roots : List Tr → List Nat
 | [] => []
 | t :: r => roots r ++ [sizes (t :: r) - 1]
theorem bels_len : ∀ l : List Tr, (bels l).length = sizes l
 | [] => rfl
 | t :: r => by unfold bels sizes; rw [List.length_append, bels_len r, t.bel_len]
theorem roots_len : ∀ l : List Tr, (roots l).length = l.length
 | [] => rfl
 | t :: r => by unfold roots; rw [List.length_append, roots_len r]; rfl
theorem bel_last : ∀ (t : Tr) (o : Nat), (t.bel o)[t.size - 1]? = some (o, t.depth)
 | .leaf _, _ => rfl
 | .one p a, o => by unfold Tr.bel Tr.size; rw [List.getElem?_append_right (by rw [a.bel_len]; omega), a.bel_len]; simp
 | .two p a b, o => by
  unfold Tr.bel Tr.size
  rw [← List.append_assoc, List.getElem?_append_right (by rw [List.length_append, a.bel_len, b.bel_len]; omega), List.length_append, a.bel_len, b.bel_len]
  simp
theorem bels_root (t : Tr) (r : List Tr) : (bels (t :: r))[sizes (t :: r) - 1]? = some (sizes r, t.depth) := by
 have := t.size_pos
 unfold bels
 rw [List.getElem?_append_right (by rw [bels_len]; show _ ≤ sizes r + t.size - 1; omega), bels_len, show sizes (t :: r) - 1 - sizes r = t.size - 1 from by show sizes r + t.size - 1 - sizes r = _; omega]
 exact bel_last t _
theorem bels_root2 (b a : Tr) (r : List Tr) : (bels (b :: a :: r))[sizes (a :: r) - 1]? = some (sizes r, a.depth) := by
 have := a.size_pos
 rw [bels]
 rw [List.getElem?_append_left (by rw [bels_len]; show sizes r + a.size - 1 < sizes r + a.size; omega)]
 exact bels_root a r
/-- a step over the roots of a node's parts -/
def bstep (bs : List (Nat × Nat)) (b : Nat × Nat) (p : Nat) : Nat × Nat := (min b.1 (bs.getD p (0, 0)).1, max b.2 ((bs.getD p (0, 0)).2 + 1))
/-- the roots of the last parts -/
def lastR (k : Nat) (l : List Tr) : List Nat := (roots l).drop (l.length - k)
theorem getD_of {α : Type} {l : List α} {i : Nat} {x d : α} (h : l[i]? = some x) : l.getD i d = x := by rw [List.getD_eq_getElem?_getD, h]; rfl
theorem lastR_0 (l : List Tr) : lastR 0 l = [] := by unfold lastR; rw [List.drop_of_length_le (by rw [roots_len]; omega)]
theorem lastR_1 (a : Tr) (r : List Tr) : lastR 1 (a :: r) = [sizes (a :: r) - 1] := by
 unfold lastR roots
 rw [List.length_cons, Nat.add_sub_cancel, List.drop_append, List.drop_of_length_le (by rw [roots_len]; omega), roots_len, Nat.sub_self]
 rfl
theorem lastR_2 (b a : Tr) (r : List Tr) : lastR 2 (b :: a :: r) = [sizes (a :: r) - 1, sizes (b :: a :: r) - 1] := by
 unfold lastR
 rw [roots, roots]
 rw [List.length_cons, List.length_cons, show r.length + 1 + 1 - 2 = r.length from by omega, List.append_assoc, List.drop_append, List.drop_of_length_le (by rw [roots_len]; omega), roots_len, Nat.sub_self]
 rfl
theorem take_0 (l : List Tr) : (roots l).take (l.length - 0) = roots l := List.take_of_length_le (by rw [roots_len]; omega)
theorem take_1 (a : Tr) (r : List Tr) : (roots (a :: r)).take ((a :: r).length - 1) = roots r := by
 rw [roots, List.length_cons, Nat.add_sub_cancel, List.take_append, List.take_of_length_le (by rw [roots_len]; omega), roots_len, Nat.sub_self, List.take_zero, List.append_nil]
theorem take_2 (b a : Tr) (r : List Tr) : (roots (b :: a :: r)).take ((b :: a :: r).length - 2) = roots r := by
 rw [roots, roots, List.length_cons, List.length_cons, show r.length + 1 + 1 - 2 = r.length from by omega, List.append_assoc, List.take_append, List.take_of_length_le (by rw [roots_len]; omega), roots_len, Nat.sub_self, List.take_zero, List.append_nil]
theorem grow_no {c : Py → Bool} {l : List Tr} {x : Nd} (h : partsI x.p.tag < 0 ∨ (l.length : Int) < partsI x.p.tag ∨ c x.p = false) : grow c l x = none := by
 unfold grow
 rcases h with h | h | h
 · split
   · rw [if_neg (by omega), if_neg (by omega), if_neg (by omega)]
   · rfl
 · split
   · rw [if_neg (by omega)]
     split
     · rename_i h1
       have : l.length = 0 := by omega
       rw [List.eq_nil_of_length_eq_zero this]
     · split
       · rename_i h2
         match l with
         | [] => rfl
         | [_] => rfl
         | _ :: _ :: _ => simp at h; omega
       · rfl
   · rfl
 · rw [if_neg (by rw [h]; decide)]
theorem parts_le (t : Int) : -1 ≤ partsI t ∧ partsI t ≤ 2 := by
 unfold partsI
 split
 · omega
 · split
   · omega
   · split
     · omega
     · split <;> omega
/-- where a node's parts have their roots; -1: there is none -/
def atR (k : Nat) (l : List Tr) (j : Nat) : Int := (((lastR k l)[j]?).map fun x : Nat => (x : Int)).getD (-1)
theorem grow_gen {c : Py → Bool} {l : List Tr} {x : Nd} {k : Nat} (hk : partsI x.p.tag = (k : Int)) (hkl : k ≤ l.length) (hc : c x.p = true) :
 (¬ (x.l = atR k l 0 ∧ x.r = atR k l 1) → grow c l x = none) ∧
 (x.l = atR k l 0 → x.r = atR k l 1 → ∃ m, grow c l x = some m ∧ bels m = bels l ++ [(lastR k l).foldl (bstep (bels l)) (sizes l, 1)] ∧ roots m = (roots l).take (l.length - k) ++ [sizes l] ∧ sizes m = sizes l + 1 ∧ m.length + k = l.length + 1) := by
 have h2 : k = 0 ∨ k = 1 ∨ k = 2 := by have := (parts_le x.p.tag).2; omega
 obtain ⟨p, xl, xr⟩ := x
 simp only at hk hc ⊢
 unfold grow
 simp only
 rw [if_pos hc]
 rcases h2 with rfl | rfl | rfl
 · rw [if_pos (by rw [hk]; rfl)]
   unfold atR
   rw [lastR_0, take_0]
   constructor
   · intro h; rw [if_neg (by simpa using h)]
   · intro h1 h2
     rw [if_pos (by simpa using ⟨h1, h2⟩)]
     exact ⟨_, rfl, rfl, rfl, rfl, by simp⟩
 · rw [if_neg (by rw [hk]; decide), if_pos (by rw [hk]; rfl)]
   match l, hkl with
   | a :: r, _ =>
    have hs := a.size_pos
    have e0 : ((sizes (a :: r) - 1 : Nat) : Int) = (sizes (a :: r) : Int) - 1 := by have : sizes (a :: r) = sizes r + a.size := rfl; omega
    unfold atR
    rw [lastR_1, take_1]
    simp only [List.getElem?_cons_zero, List.getElem?_cons_succ, List.getElem?_nil, Option.map_some, Option.map_none, Option.getD_some, Option.getD_none, e0]
    constructor
    · intro h; rw [if_neg h]
    · intro h1 h2
      rw [if_pos ⟨h1, h2⟩]
      refine ⟨_, rfl, ?_, ?_, ?_, by simp⟩
      · rw [List.foldl_cons, List.foldl_nil, bstep, getD_of (bels_root a r)]
        show bels r ++ (a.bel (sizes r) ++ [(sizes r, a.depth + 1)]) = (bels r ++ a.bel (sizes r)) ++ [_]
        rw [List.append_assoc]
        congr 3
        have := a.depth_pos
        have : sizes (a :: r) = sizes r + a.size := rfl
        ext <;> simp <;> omega
      · show roots r ++ [sizes r + (a.size + 1) - 1] = _
        rfl
      · show sizes r + (a.size + 1) = sizes r + a.size + 1
        omega
 · rw [if_neg (by rw [hk]; decide), if_neg (by rw [hk]; decide), if_pos (by rw [hk]; rfl)]
   match l, hkl with
   | [_], h => simp at h
   | b :: a :: r, _ =>
    have hs := a.size_pos
    have hs2 := b.size_pos
    have e0 : ((sizes (a :: r) - 1 : Nat) : Int) = (sizes (a :: r) : Int) - 1 := by have : sizes (a :: r) = sizes r + a.size := rfl; omega
    have e1 : ((sizes (b :: a :: r) - 1 : Nat) : Int) = (sizes (b :: a :: r) : Int) - 1 := by have : sizes (b :: a :: r) = sizes r + a.size + b.size := rfl; omega
    unfold atR
    rw [lastR_2, take_2]
    simp only [List.getElem?_cons_zero, List.getElem?_cons_succ, Option.map_some, Option.getD_some, e0, e1]
    constructor
    · intro h; rw [if_neg h]
    · intro h1 h2
      rw [if_pos ⟨h1, h2⟩]
      refine ⟨_, rfl, ?_, ?_, ?_, by simp⟩
      · rw [List.foldl_cons, List.foldl_cons, List.foldl_nil, bstep, bstep, getD_of (bels_root b (a :: r)), getD_of (bels_root2 b a r)]
        show bels r ++ (a.bel (sizes r) ++ (b.bel (sizes r + a.size) ++ [(sizes r, max b.depth a.depth + 1)])) = ((bels r ++ a.bel (sizes r)) ++ b.bel (sizes r + a.size)) ++ [_]
        rw [List.append_assoc, List.append_assoc]
        congr 4
        have := a.depth_pos
        have := b.depth_pos
        have h3 : sizes (a :: r) = sizes r + a.size := rfl
        have h4 : sizes (b :: a :: r) = sizes r + a.size + b.size := rfl
        ext <;> simp <;> omega
      · show roots r ++ [sizes r + (a.size + b.size + 1) - 1] = roots r ++ [sizes r + a.size + b.size]
        congr 2
        omega
      · show sizes r + (a.size + b.size + 1) = sizes r + a.size + b.size + 1
        omega
/-- every root is a place, ahead of the next node's -/
theorem roots_lt : ∀ (l : List Tr), ∀ p ∈ roots l, p < sizes l
 | [], p, h => by cases h
 | t :: r, p, h => by
  have := t.size_pos
  unfold roots at h
  rcases List.mem_append.1 h with h | h
  · have := roots_lt r p h; show p < sizes r + t.size; omega
  · rw [List.mem_singleton] at h; subst h; show sizes r + t.size - 1 < sizes r + t.size; omega
theorem lastR_len {k : Nat} {l : List Tr} (h : k ≤ l.length) : (lastR k l).length = k := by unfold lastR; rw [List.length_drop, roots_len]; omega
theorem lastR_lt {k : Nat} {l : List Tr} : ∀ p ∈ lastR k l, p < sizes l := fun p h => roots_lt l p (List.mem_of_mem_drop h)
theorem bels_fst : ∀ (t : Tr) (o : Nat), ∀ x ∈ t.bel o, x.1 < o + t.size ∧ x.2 ≤ t.size
 | .leaf _, o, x, h => by
  unfold Tr.bel at h; rw [List.mem_singleton] at h; subst h; exact ⟨by show o < o + 1; omega, Nat.le_refl _⟩
 | .one p a, o, x, h => by
  have hs : (Tr.one p a).size = a.size + 1 := rfl
  unfold Tr.bel at h
  rcases List.mem_append.1 h with h | h
  · have := bels_fst a o x h; omega
  · rw [List.mem_singleton] at h
    subst h
    have h1 : a.depth ≤ a.size := dep_size a
    exact ⟨by show o < _; omega, by show a.depth + 1 ≤ _; omega⟩
 | .two p a b, o, x, h => by
  have hs : (Tr.two p a b).size = a.size + b.size + 1 := rfl
  unfold Tr.bel at h
  rcases List.mem_append.1 h with h | h
  · have := bels_fst a o x h; omega
  · rcases List.mem_append.1 h with h | h
    · have := bels_fst b _ x h; omega
    · rw [List.mem_singleton] at h
      subst h
      have h1 : a.depth ≤ a.size := dep_size a
      have h2 : b.depth ≤ b.size := dep_size b
      exact ⟨by show o < _; omega, by show max b.depth a.depth + 1 ≤ _; omega⟩
where dep_size : ∀ t : Tr, t.depth ≤ t.size
 | .leaf _ => Nat.le_refl _
 | .one _ a => by have := dep_size a; show a.depth + 1 ≤ a.size + 1; omega
 | .two _ a b => by have := dep_size a; have := dep_size b; show max b.depth a.depth + 1 ≤ a.size + b.size + 1; omega
theorem bels_small : ∀ (l : List Tr), ∀ x ∈ bels l, x.1 < sizes l ∧ x.2 ≤ sizes l
 | [], x, h => by cases h
 | t :: r, x, h => by
  have hs : sizes (t :: r) = sizes r + t.size := rfl
  unfold bels at h
  rcases List.mem_append.1 h with h | h
  · have := bels_small r x h; omega
  · have := bels_fst t _ x h; omega
/-- may the nodes be a tree? as the program says it at the end -/
def grownOk (l : List Tr) : Bool := decide (l.length = 1) && (decide (sizes l ≤ 300) && decide (((bels l).getD (sizes l - 1) (0, 0)).2 ≤ 20))
theorem grownOk_tree {c : Py → Bool} {x : List Nd} {l : List Tr} (h : grows c [] x = some l) : grownOk l = (treeF c x).isSome ∧ ∀ t, treeF c x = some t → bels l = t.bel 0 ∧ sizes l = t.size ∧ l = [t] := by
 have hf := (grows_flats h (fun _ h => by cases h)).1
 have hl : x.length = sizes l := by
  have := congrArg List.length hf
  rw [flats_len] at this
  have h0 : flats [] = [] := rfl
  rw [h0] at this
  simpa using this.symm
 unfold treeF
 rw [h]
 match l with
 | [] => exact ⟨rfl, fun t h => by cases h⟩
 | [t] =>
  simp only
  have hb : bels [t] = t.bel 0 := by show [] ++ t.bel 0 = _; rfl
  have hs : sizes [t] = t.size := by show 0 + t.size = _; omega
  have hg : grownOk [t] = (decide (t.size ≤ 300) && decide (t.depth ≤ 20)) := by
   unfold grownOk
   rw [hb, hs, getD_of (bel_last t 0)]
   rfl
  rw [hg, hl, hs]
  by_cases h1 : t.size ≤ 300 ∧ t.depth ≤ 20
  · rw [if_pos h1, decide_eq_true h1.1, decide_eq_true h1.2]
    exact ⟨rfl, fun u hu => by injection hu with hu; subst hu; exact ⟨hb, rfl, rfl⟩⟩
  · rw [if_neg h1]
    refine ⟨?_, fun u hu => by cases hu⟩
    show _ = false
    rw [Bool.and_eq_false_iff, decide_eq_false_iff_not, decide_eq_false_iff_not]
    omega
 | a :: b :: r =>
  refine ⟨?_, fun t h => by cases h⟩
  unfold grownOk
  rw [decide_eq_false (by simp)]
  rfl
end Go.Proofs.YtoaggmldekejoaaGreatDoor
/- What the layer's functions come to, in plain Lean; made of its parts a tree is itself. Conditions: none. -/
namespace Go.Proofs.YtoaggmldekejoaaGreatDoor
/-- may these nodes be a tree? how deep is it? -/
def okF (x : List Nd) : Bool := (treeF cntB x).isSome
def depF (x : List Nd) : Nat := match treeF cntB x with | some t => t.depth | none => 0
/-- the part at a place: why not; its nodes -/
def partE (x : List Nd) (i : Int) : Int := if okF x then (if 0 ≤ i ∧ i < (x.length : Int) then 0 else 2) else 180
def partN (x : List Nd) (i : Nat) : List Nd := match treeF cntB x with
 | some t => (t.sub i).flat 0
 | none => []
/-- the nodes of a root over parts -/
def madeN (p : Py) : List (List Nd) → List Nd
 | [] => [⟨p, -1, -1⟩]
 | [a] => a ++ [⟨p, (a.length : Int) - 1, -1⟩]
 | a :: b :: _ => a ++ (b.map (mv (a.length : Int)) ++ [⟨p, (a.length : Int) - 1, ((a.length + b.length : Nat) : Int) - 1⟩])
def madeOk (p : Py) (l : List (List Nd)) : Bool := l.all okF && okF (madeN p l)
def madeE (p : Py) (l : List (List Nd)) : Int := if madeOk p l then 0 else 180
def madeR (p : Py) (l : List (List Nd)) : List Nd := if madeOk p l then madeN p l else []
abbrev zP (t : Int) : Py := ⟨t, 0, 0, 0, eB, eB, eB⟩
theorem okF_of {x : List Nd} {t : Tr} (h : treeF cntB x = some t) : okF x = true := by unfold okF; rw [h]; rfl
theorem okF_no {x : List Nd} (h : treeF cntB x = none) : okF x = false := by unfold okF; rw [h]; rfl
theorem depF_of {x : List Nd} {t : Tr} (h : treeF cntB x = some t) : depF x = t.depth := by unfold depF; rw [h]
theorem okF_ex {x : List Nd} (h : okF x = true) : ∃ t, treeF cntB x = some t := by
 unfold okF at h
 cases e : treeF cntB x with
 | some t => exact ⟨t, rfl⟩
 | none => rw [e] at h; cases h
theorem tree_len {x : List Nd} {t : Tr} (h : treeF cntB x = some t) : x.length = t.size := by
 obtain ⟨rfl, _⟩ := treeF_some.1 h
 exact t.flat_len 0
/-- what is said of a tree's node and its part -/
structure WholeAt (x : List Nd) (i : Nat) : Prop where
 ok : okF (partN x i) = true
 dep : depF (partN x i) ≤ 20
 leaf : ∀ n, x[i]? = some n → n.l < 0 → madeOk n.p [] = true ∧ madeN n.p [] = partN x i
 one : ∀ n, x[i]? = some n → 0 ≤ n.l → n.r < 0 → partE x n.l = 0 ∧ depF (partN x n.l.toNat) + 1 = depF (partN x i) ∧ madeOk (zP n.p.tag) [partN x n.l.toNat] = true ∧ madeN (zP n.p.tag) [partN x n.l.toNat] = partN x i
 two : ∀ n, x[i]? = some n → 0 ≤ n.l → 0 ≤ n.r → partE x n.l = 0 ∧ partE x n.r = 0 ∧ max (depF (partN x n.l.toNat)) (depF (partN x n.r.toNat)) + 1 = depF (partN x i) ∧ (partN x n.l.toNat).length + (partN x n.r.toNat).length + 1 = (partN x i).length ∧
  madeOk (zP n.p.tag) [partN x n.l.toNat, partN x n.r.toNat] = true ∧ madeN (zP n.p.tag) [partN x n.l.toNat, partN x n.r.toNat] = partN x i
end Go.Proofs.YtoaggmldekejoaaGreatDoor
