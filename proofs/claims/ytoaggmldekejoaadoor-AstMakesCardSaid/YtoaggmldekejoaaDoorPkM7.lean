/- append(out, x) of whatever data in a region that draws its order; the memory that changes. Conditions: none. -/
import Derived.Test.YtoaggmldekejoaaDoorPkM6
import Derived.Deep.AppendLies
import Derived.ArgAppend
namespace Go.Proofs.YtoaggmldekejoaaDoor
open Go.RowKit
section
variable {α : Type} {L : Lay α} {e : TypeId} {P : Program}
theorem run_appL {w : World} (t ty : TypeId)
    (z : Value) (k bytes : Nat) (ht : P.underlying t = some (.slice e)) (hi : (P.info? e).map (fun i => (i.zero, i.size, i.bytes)) = some (some z, k, bytes)) (hk : L.size = k) (hzs : z.cells.size = k) (hk0 : 0 < k)
    (B : Nat) (G : Nat → Prop) (A : Option Addr) (n c : Nat) (xs : List α) (g c2 : Nat) (t' : TypeId) (vs : Array Value) (y : α)
    (hown : L.own e w B G A n c xs) (hr : Blk w g t' vs)
    (hy : L.rep w (fun b => G b ∧ (Value.slice A n c).ownBlock ≠ some b) y vs.toList) (hG : ∀ b, G b → b < w.heap.size) (hb : (n + 1) * bytes ≤ 140737488355328) (hn : n + 1 ≤ maxLen) (hB : B ≤ w.heap.size) :
    ∃ A' c' w', (Builtin.append_ #[t, t] ty #[.slice A n c, .slice (some ⟨g, 0, none⟩) 1 c2]).run P w = .ok (.slice A' (n + 1) c') w' ∧ L.own e w' B G A' (n + 1) c' (xs ++ [y]) ∧ w.grownBy w' (Value.slice A n c).ownBlock ∧ ((Value.slice A' (n + 1) c').ownBlock = (Value.slice A n c).ownBlock ∨ (Value.slice A' (n + 1) c').ownBlock = some w.heap.size) := by
  obtain ⟨hl, cs, hreps, hrow⟩ := hown
  obtain ⟨i0, hi0, hz0, hz1, hz2⟩ := info_parts hi
  subst hk
  have hR := reads_blk (s := L.size) (m := 1) hr rfl (by rw [L.len hy]; omega)
  obtain ⟨ad, e1, _, hcl⟩ := hR.2 (by omega)
  injection e1 with e1
  subst e1
  obtain ⟨g8, c8, w8, hrun, hown', hgr, hat, _⟩ := run_append_lies (P := P) (w := w) t ty B e i0 _ L.size bytes ht hi0 hz0 hz1 hz2 hzs hk0 (.slice A n c) n cs hrow ⟨g, 0, none⟩ 1 c2 vs.toList (by rw [L.len hy]; omega) hcl (L.one hy) (by omega) hn hb hB w.heap.size rfl
  have hat' : (Value.slice (some ⟨g8, 0, none⟩) (n + 1) c8).ownBlock = (Value.slice A n c).ownBlock ∨ (Value.slice (some ⟨g8, 0, none⟩) (n + 1) c8).ownBlock = some w.heap.size := by
    rcases hat with h | h
    · exact .inl (by rw [h]; simp [Value.ownBlock])
    · exact .inr (by rw [h]; simp [Value.ownBlock])
  have hne : ∀ b, G b → (Value.slice A n c).ownBlock ≠ some b → (Value.slice (some ⟨g8, 0, none⟩) (n + 1) c8).ownBlock ≠ some b := fun b hb hne => by
    rcases hat' with hat | hat
    · rw [hat]; exact hne
    · rw [hat]; intro e; injection e with e; have := hG b hb; omega
  have hkeep : ∀ b, (G b ∧ (Value.slice A n c).ownBlock ≠ some b) → b < w.heap.size → w8.heap[b]? = w.heap[b]? := fun b hb hlt => hgr.block b hlt (fun e => hb.2 e.symm)
  exact ⟨some ⟨g8, 0, none⟩, c8, w8, hrun, ⟨by rw [List.length_append, hl]; rfl, cs ++ vs.toList, Lay.reps_append (Lay.reps_weak (fun b hb _ => ⟨hb.1, hne b hb.1 hb.2⟩) (Lay.reps_keep hkeep hreps)) (Lay.reps_single (L.weak (fun b hb _ => ⟨hb.1, hne b hb.1 hb.2⟩) (L.keep hkeep hy))), hown'⟩, hgr, hat'⟩
end
theorem Lay.reads {α : Type} {L : Lay α} {w : World} {F : Nat → Prop} {A : Option Addr} {m : Nat} {ys : List α} (h : L.rd w F A m ys) : ∃ cs, L.reps w F ys cs ∧ Reads w w.heap.size L.size A m cs := by
  obtain ⟨hl, cs, hr, hc⟩ := h
  refine ⟨cs, hr, by rw [Lay.reps_len hr, hl], fun hn => ?_⟩
  obtain ⟨ad, e, hb, _, hh⟩ := hc hn
  exact ⟨ad, e, hb, hh⟩
theorem wpList_appLs {α : Type} {L : Lay α} {e : TypeId} {P : Program} {ops : Array Oper} {rest : List Oper} {o : Oper} {a : Act} {w : World} {Q : Exit → Act → World → Prop} (hgd : o.guard = none) (s x : Operand) (t : TypeId)
    (ho : o.op = .call { callee := .builtin .append, args := #[s, x], argTypes := #[t, t] })
    (z : Value) (k bytes : Nat) (ht : P.underlying t = some (.slice e)) (hi : (P.info? e).map (fun i => (i.zero, i.size, i.bytes)) = some (some z, k, bytes)) (hk : L.size = k) (hzs : z.cells.size = k) (hk0 : 0 < k)
    (B : Nat) (G F : Nat → Prop) (A : Option Addr) (n c : Nat) (xs : List α) (A2 : Option Addr) (m c2 : Nat) (ys : List α) (k2 : Nat) (hk2 : k2 = n + m)
    (hs : a.eval s = .slice A n c) (hx : a.eval x = .slice A2 m c2) (hown : L.own e w B G A n c xs) (hr : L.rd w F A2 m ys)
    (hFG : ∀ b, F b → b < w.heap.size → G b ∧ (Value.slice A n c).ownBlock ≠ some b) (hG : ∀ b, G b → b < w.heap.size) (hb : (n + m) * bytes ≤ 140737488355328) (hn : n + m ≤ maxLen) (hB : B ≤ w.heap.size)
    (h : ∀ A' c' w', L.own e w' B G A' k2 c' (xs ++ ys) → w.grownBy w' (Value.slice A n c).ownBlock → ((Value.slice A' k2 c').ownBlock = (Value.slice A n c).ownBlock ∨ (Value.slice A' k2 c').ownBlock = some w.heap.size) → wpList P ops Q rest (a.put o.dst (.slice A' k2 c')) w') : wpList P ops Q (o :: rest) a w := by
  subst hk2
  obtain ⟨hl, cs, hreps, hrow⟩ := hown
  obtain ⟨ds, hys, hrd⟩ := Lay.reads hr
  obtain ⟨i0, hi0, hz0, hz1, hz2⟩ := info_parts hi
  subst hk
  have hyl := Lay.rd_len hr
  refine wpList_append_any w hgd s x t ho B e i0 _ L.size bytes ht hi0 hz0 hz1 hz2 hzs hk0 (.slice A n c) n cs hs hrow w.heap.size A2 m c2 ds hx hrd (Lay.reps_one hys) hn hb hB ?_
  intro v' w' hown' hg hat
  obtain ⟨A', c', rfl⟩ := own_form' hown'
  have hne : ∀ b, G b → (Value.slice A n c).ownBlock ≠ some b → (Value.slice A' (n + m) c').ownBlock ≠ some b := fun b hb hne => by
    rcases hat with hat | hat
    · rw [hat]; exact hne
    · rw [hat]; intro e; injection e with e; have := hG b hb; omega
  have hkeep : ∀ b, (G b ∧ (Value.slice A n c).ownBlock ≠ some b) → b < w.heap.size → w'.heap[b]? = w.heap[b]? := fun b hb hlt => hg.block b hlt (fun e => hb.2 e.symm)
  have hys2 := Lay.reps_keep hkeep (Lay.reps_weak hFG hys)
  exact h A' c' w' ⟨by rw [List.length_append, hl, hyl], cs ++ ds, Lay.reps_append (Lay.reps_weak (fun b hb _ => ⟨hb.1, hne b hb.1 hb.2⟩) (Lay.reps_keep hkeep hreps)) (Lay.reps_weak (fun b hb _ => ⟨hb.1, hne b hb.1 hb.2⟩) hys2), hown'⟩ hg hat
/-- a literal without elements -/
theorem Lay.own_empty {α : Type} (L : Lay α) (w : World) (e : TypeId) (G : Nat → Prop) (_hz : 0 < L.size) : L.own e (w.alloc (.cells #[] e)) w.heap.size G (some ⟨w.heap.size, 0, none⟩) 0 0 [] :=
  ⟨rfl, [], rfl, by simp, .inr ⟨w.heap.size, 0, #[], rfl, Nat.le_refl _, heap_alloc_new w _, Nat.le_refl _, by decide, by simp, by simp⟩⟩
theorem run_appLs {α : Type} {L : Lay α} {e : TypeId} {P : Program} {w : World} (t ty : TypeId)
    (z : Value) (k bytes : Nat) (ht : P.underlying t = some (.slice e)) (hi : (P.info? e).map (fun i => (i.zero, i.size, i.bytes)) = some (some z, k, bytes)) (hk : L.size = k) (hzs : z.cells.size = k) (hk0 : 0 < k)
    (B : Nat) (G F : Nat → Prop) (A : Option Addr) (n c : Nat) (xs : List α) (A2 : Option Addr) (m c2 : Nat) (ys : List α)
    (hown : L.own e w B G A n c xs) (hr : L.rd w F A2 m ys)
    (hFG : ∀ b, F b → b < w.heap.size → G b ∧ (Value.slice A n c).ownBlock ≠ some b) (hG : ∀ b, G b → b < w.heap.size) (hb : (n + m) * bytes ≤ 140737488355328) (hn : n + m ≤ maxLen) (hB : B ≤ w.heap.size) :
    ∃ A' c' w', (Builtin.append_ #[t, t] ty #[.slice A n c, .slice A2 m c2]).run P w = .ok (.slice A' (n + m) c') w' ∧ L.own e w' B G A' (n + m) c' (xs ++ ys) ∧ w.grownBy w' (Value.slice A n c).ownBlock := by
  obtain ⟨hl, cs, hreps, hrow⟩ := hown
  obtain ⟨ds, hys, hrd⟩ := Lay.reads hr
  obtain ⟨i0, hi0, hz0, hz1, hz2⟩ := info_parts hi
  subst hk
  have hyl := Lay.rd_len hr
  obtain ⟨v', w', hrun, hown', hg, hat⟩ := run_append_any (P := P) w B t ty e i0 _ L.size bytes ht hi0 hz0 hz1 hz2 hzs hk0 (.slice A n c) n cs hrow w.heap.size A2 m c2 ds hrd (Lay.reps_one hys) hn hb hB
  obtain ⟨A', c', rfl⟩ := own_form' hown'
  have hne : ∀ b, G b → (Value.slice A n c).ownBlock ≠ some b → (Value.slice A' (n + m) c').ownBlock ≠ some b := fun b hb hne => by
    rcases hat with hat | hat
    · rw [hat]; exact hne
    · rw [hat]; intro e; injection e with e; have := hG b hb; omega
  have hkeep : ∀ b, (G b ∧ (Value.slice A n c).ownBlock ≠ some b) → b < w.heap.size → w'.heap[b]? = w.heap[b]? := fun b hb hlt => hg.block b hlt (fun e => hb.2 e.symm)
  have hys2 := Lay.reps_keep hkeep (Lay.reps_weak hFG hys)
  exact ⟨A', c', w', hrun, ⟨by rw [List.length_append, hl, hyl], cs ++ ds, Lay.reps_append (Lay.reps_weak (fun b hb _ => ⟨hb.1, hne b hb.1 hb.2⟩) (Lay.reps_keep hkeep hreps)) (Lay.reps_weak (fun b hb _ => ⟨hb.1, hne b hb.1 hb.2⟩) hys2), hown'⟩, hg⟩
theorem ownsRow_same {w w' : World} {B s n : Nat} {e : TypeId} {v : Value} {xs : List Value} (h : w.ownsRow B e s v n xs) (hk : ∀ k, v.ownBlock = some k → w'.heap[k]? = w.heap[k]?) : w'.ownsRow B e s v n xs := by
  refine ⟨h.1, ?_⟩
  rcases h.2 with h2 | ⟨g, cap, cur, rfl, hg, hh, r⟩
  · exact .inl h2
  · exact .inr ⟨g, cap, cur, rfl, hg, (hk g (by simp [Value.ownBlock])).trans hh, r⟩
theorem Lay.own_same {α : Type} {L : Lay α} {e : TypeId} {w w' : World} {B n c : Nat} {G : Nat → Prop} {A : Option Addr} {xs : List α} (h : L.own e w B G A n c xs) (hk : ∀ k, (Value.slice A n c).ownBlock = some k → w'.heap[k]? = w.heap[k]?) (hG : ∀ b, G b → (Value.slice A n c).ownBlock ≠ some b → b < w.heap.size → w'.heap[b]? = w.heap[b]?) : L.own e w' B G A n c xs := by
  obtain ⟨hl, cs, hr, ho⟩ := h
  exact ⟨hl, cs, Lay.reps_keep (fun b hb hlt => hG b hb.1 hb.2 hlt) hr, ownsRow_same ho hk⟩
theorem Lay.own_base {α : Type} {L : Lay α} {e : TypeId} {w : World} {B n c : Nat} {G : Nat → Prop} {A : Option Addr} {xs : List α} (h : L.own e w B G A n c xs) : ∀ k, (Value.slice A n c).ownBlock = some k → B ≤ k ∧ k < w.heap.size := by
  obtain ⟨hl, cs, hr, ho⟩ := h
  exact own_base' ho
theorem Lay.own_caps {α : Type} {L : Lay α} {e : TypeId} {w : World} {B n c : Nat} {G : Nat → Prop} {A : Option Addr} {xs : List α} (h : L.own e w B G A n c xs) : n ≤ c ∧ c ≤ 9223372036854775807 := by
  obtain ⟨hl, cs, hr, ho⟩ := h
  rcases ho.2 with ⟨e, _⟩ | ⟨g, cap, _, e, _, _, h1, h2, _⟩
  · injection e with _ e1 e2; omega
  · injection e with _ _ e2; unfold maxLen at h2; omega
/-- from w to w' at most blocks of X change -/
structure Chg (X : Nat → Prop) (w w' : World) : Prop where
  os : w'.os = w.os
  tape : w'.tape = w.tape
  output : w'.output = w.output
  size : w.heap.size ≤ w'.heap.size
  block : ∀ b, b < w.heap.size → ¬ X b → w'.heap[b]? = w.heap[b]?
theorem Chg.refl (X : Nat → Prop) (w : World) : Chg X w w := ⟨rfl, rfl, rfl, Nat.le_refl _, fun _ _ _ => rfl⟩
theorem Chg.below {X : Nat → Prop} {w w1 w2 : World} {B : Nat} (h : Chg X w w1) (q : Below B w1 w2) (hB : w.heap.size ≤ B) : Chg X w w2 :=
  ⟨q.os.trans h.os, q.tape.trans h.tape, q.output.trans h.output, Nat.le_trans h.size q.size, fun b hb hx => (q.block b (by omega)).trans (h.block b hb hx)⟩
theorem Chg.of_below {X : Nat → Prop} {w w1 : World} (q : Below w.heap.size w w1) : Chg X w w1 := (Chg.refl X w).below q (Nat.le_refl _)
theorem Chg.grown {X : Nat → Prop} {w w1 w2 : World} {r : Option Nat} (h : Chg X w w1) (hg : w1.grownBy w2 r) (hr : ∀ k, r = some k → X k ∨ w.heap.size ≤ k) : Chg X w w2 :=
  ⟨hg.os.trans h.os, hg.tape.trans h.tape, hg.output.trans h.output, Nat.le_trans h.size hg.size, fun b hb hx => (hg.block b (Nat.lt_of_lt_of_le hb h.size) (fun e => by rcases hr b e.symm with h9 | h9; exact hx h9; omega)).trans (h.block b hb hx)⟩
theorem Chg.trans {X : Nat → Prop} {w w1 w2 : World} (h : Chg X w w1) (k : Chg X w1 w2) : Chg X w w2 :=
  ⟨k.os.trans h.os, k.tape.trans h.tape, k.output.trans h.output, Nat.le_trans h.size k.size, fun b hb hx => (k.block b (Nat.lt_of_lt_of_le hb h.size) hx).trans (h.block b hb hx)⟩
theorem Chg.weak {X Y : Nat → Prop} {w w1 : World} (h : Chg X w w1) (hxy : ∀ b, b < w.heap.size → X b → Y b) : Chg Y w w1 := ⟨h.os, h.tape, h.output, h.size, fun b hb hy => h.block b hb (fun hx => hy (hxy b hb hx))⟩
theorem Chg.bel {X : Nat → Prop} {w0 w w' : World} {B : Nat} (h : Below B w0 w) (k : Chg X w w') (hX : ∀ b, b < w.heap.size → X b → B ≤ b) (hB : B ≤ w.heap.size) : Below B w0 w' :=
  ⟨k.os.trans h.os, k.tape.trans h.tape, k.output.trans h.output, Nat.le_trans h.size k.size, fun b hb => (k.block b (by omega) (fun hx => by have := hX b (by omega) hx; omega)).trans (h.block b hb)⟩
theorem Blk.chg {X : Nat → Prop} {w w' : World} {g : Nat} {t : TypeId} {cs : Array Value} (h : Blk w g t cs) (k : Chg X w w') (hx : ¬ X g) : Blk w' g t cs := (k.block g h.lt hx).trans h
theorem rd_chg {α : Type} {L : Lay α} {X F : Nat → Prop} {w w' : World} {A : Option Addr} {m : Nat} {xs : List α} (h : L.rd w F A m xs) (k : Chg X w w') (hF : ∀ b, F b → b < w.heap.size → ¬ X b) : L.rd w' F A m xs :=
  Lay.rd_keep (fun b hb hl => k.block b hl (hF b hb hl)) h
theorem ce {w w' : World} {a : Addr} {v : Value} (e : w.cell? a = some v) (b : Below w.heap.size w w') : w'.cell? a = some v := (b.cell (World.block_lt_of_cell? w a e)).trans e
theorem rd_grownH {α : Type} {L : Lay α} {w w' : World} {F : Nat → Prop} {A : Option Addr} {n g : Nat} {xs : List α} (h : L.rd w F A n xs) (q : w.grownBy w' (some g)) (hF : ∀ b, F b → b ≠ g) : L.rd w' F A n xs := Lay.rd_keep (fun b hb hl => q.block b hl (fun e => by injection e with e; exact hF b hb e)) h
theorem own_grownH {α : Type} {L : Lay α} {e : TypeId} {w w' : World} {B n c g : Nat} {G : Nat → Prop} {A : Option Addr} {xs : List α} (h : L.own e w B G A n c xs) (q : w.grownBy w' (some g)) (hg : g < B) (hF : ∀ b, G b → b ≠ g) : L.own e w' B G A n c xs :=
  Lay.own_same h (fun k e => q.block k (Lay.own_base h k e).2 (fun e2 => by injection e2 with e2; have := (Lay.own_base h k e).1; omega)) (fun b hb _ hl => q.block b hl (fun e2 => by injection e2 with e2; exact hF b hb e2))
theorem SeqN.z01 {k1 k2 k3 : Nat} {B : Nat → (Nat → Value) → World → Prop} {L : Array Bool} {m : Nat → Value} {w : World} {md : Region.Mode} {ops : Array Oper} {T : World → Prop} (hsh : Shut md ops L) (h2 : Dn L k2 = false) (hr : ([k3].all fun x => reach md ops ops.size x k2) = true)
    (t0 : ∀ m w, B 0 m w → T w) (t1 : ∀ m w, B 1 m w → T w) (hS : SeqN [k1, k2, k3] B L m w) : T w := by
  have hn := post_no hsh h2 hr
  unfold SeqN cntD cntD at hS
  rw [h2, cntD_none hn] at hS
  cases h7 : Dn L k1
  · rw [h7] at hS; exact t0 _ _ hS
  · rw [h7] at hS; exact t1 _ _ hS
theorem Chg.of_grown {w w1 : World} {row : Option Nat} (h : w.grownBy w1 row) : Chg (fun k => row = some k) w w1 := ⟨h.os, h.tape, h.output, h.size, fun b hb hx => h.block b hb (fun e => hx e.symm)⟩
theorem Chg.trans' {X Z : Nat → Prop} {w w1 w2 : World} (h : Chg X w w1) (k : Chg Z w1 w2) (hz : ∀ b, b < w.heap.size → Z b → X b) : Chg X w w2 :=
  ⟨k.os.trans h.os, k.tape.trans h.tape, k.output.trans h.output, Nat.le_trans h.size k.size, fun b hb hx => (k.block b (Nat.lt_of_lt_of_le hb h.size) (fun e => hx (hz b hb e))).trans (h.block b hb hx)⟩
theorem cntD_lt {L : Array Bool} {k : Nat} : ∀ {ks : List Nat}, k ∈ ks → Dn L k = false → cntD L ks < ks.length
  | [], h, _ => by cases h
  | j :: ks, h, hd => by
    have hle : ∀ l : List Nat, cntD L l ≤ l.length := fun l => by
      induction l with
      | nil => exact Nat.le_refl _
      | cons a l ih => unfold cntD; rw [List.length_cons]; split <;> omega
    unfold cntD
    rw [List.length_cons]
    rcases List.mem_cons.1 h with rfl | h
    · rw [hd]; have := hle ks; simp; omega
    · have := cntD_lt h hd; split <;> omega
theorem SeqN.zero {ks : List Nat} {B : Nat → (Nat → Value) → World → Prop} {L : Array Bool} {m : Nat → Value} {w : World} (h : ∀ x ∈ ks, Dn L x = false) (hS : SeqN ks B L m w) : B 0 m w := by
  unfold SeqN at hS
  rw [cntD_none h] at hS
  exact hS
theorem SeqN.lt {T : World → Prop} {ks : List Nat} {k : Nat} {B : Nat → (Nat → Value) → World → Prop} {L : Array Bool} {m : Nat → Value} {w : World} (hk : k ∈ ks) (hd : Dn L k = false) (t : ∀ j m w, j < ks.length → B j m w → T w) (hS : SeqN ks B L m w) : T w := t _ _ _ (cntD_lt hk hd) hS
theorem Lay.own_rd2 {α : Type} {L : Lay α} {e : TypeId} {w : World} {B n c : Nat} {G F : Nat → Prop} {A : Option Addr} {xs : List α} (h : L.own e w B G A n c xs) (hB : ∀ b, (Value.slice A n c).ownBlock = some b → F b) (hG : ∀ b, G b → b < w.heap.size → F b) : L.rd w F A n xs := by
  obtain ⟨hl, cs, hr, ho⟩ := h
  refine ⟨hl, cs, Lay.reps_weak (fun b hb hl => hG b hb.1 hl) hr, fun hn => ?_⟩
  obtain ⟨g, cap, hv, _, hlt⟩ := ho.form hn
  have hA : A = some ⟨g, 0, none⟩ := by injection hv
  subst hA
  exact ⟨_, rfl, hlt, hB g (by rw [hv]; simp [Value.ownBlock]), ho.cells (g := g) rfl⟩
/-- append([]T{}, src...) at a fresh row of no room: new memory alone -/
theorem run_append_copy {α : Type} {L : Lay α} {e : TypeId} {P : Program} {w : World} (t ty : TypeId)
    (z : Value) (k bytes : Nat) (ht : P.underlying t = some (.slice e)) (hi : (P.info? e).map (fun i => (i.zero, i.size, i.bytes)) = some (some z, k, bytes)) (hk : L.size = k) (hzs : z.cells.size = k) (hk0 : 0 < k)
    (hfree : ∀ (w w' : World) (F G : Nat → Prop) (ys : List α) (cs : List Value), L.reps w F ys cs → L.reps w' G ys cs)
    (g : Nat) (F : Nat → Prop) (A2 : Option Addr) (m c2 : Nat) (ys : List α) (hr : L.rd w F A2 m ys) (hb : m * bytes ≤ 140737488355328) (hn : m ≤ maxLen) :
    ∃ A' c' w', (Builtin.append_ #[t, t] ty #[.slice (some ⟨g, 0, none⟩) 0 0, .slice A2 m c2]).run P w = .ok (.slice A' m c') w' ∧ L.rd w' (fun b => w.heap.size ≤ b) A' m ys ∧ Below w.heap.size w w' ∧ m ≤ c' ∧ c' ≤ 9223372036854775807 := by
  obtain ⟨i0, hi0, hz0, hz1, hz2⟩ := info_parts hi
  subst hk
  rcases Nat.eq_zero_or_pos m with h0 | h0
  · subst h0
    obtain rfl : ys = [] := List.eq_nil_of_length_eq_zero (Lay.rd_len hr)
    refine ⟨some ⟨g, 0, none⟩, 0, w, ?_, Lay.rd_nil _, Below.refl _ _, Nat.le_refl _, by omega⟩
    cases A2 <;> simp [Builtin.append_, run_underlying ht, sizeOf, typeInfo, hi0, Builtin.lenOf, Builtin.firstCells, storeCells, loadCells, loadCellsFrom, Sem.run_pure]
  · obtain ⟨ds, hys, hrd⟩ := Lay.reads hr
    obtain ⟨ad, rfl, _, hc⟩ := hrd.2 h0
    obtain ⟨v', w', hrun, r1, r2⟩ := run_append_arg_grows (P := P) w t ty e i0 z L.size bytes ht hi0 hz0 hz1 hz2 hzs hk0 ⟨g, 0, none⟩ 0 0 [] (by simp) (fun j u hu => by simp at hu) ad m c2 ds hrd.1 hc (by omega) (by rw [Nat.zero_add]; exact hn) (by rw [Nat.zero_add]; exact hb)
    rw [Nat.zero_add, List.nil_append] at r1
    obtain ⟨A', c', rfl⟩ := own_form' r1
    have hown : L.own e w' w.heap.size (fun _ => False) A' m c' ys := ⟨Lay.rd_len hr, ds, hfree _ _ _ _ _ _ hys, r1⟩
    refine ⟨A', c', w', hrun, Lay.own_rd2 hown (fun b e => (Lay.own_base hown b e).1) (fun b hb _ => hb.elim), ?_, (Lay.own_caps hown).1, (Lay.own_caps hown).2⟩
    exact ⟨r2.os, r2.tape, r2.output, r2.size, fun b hb => r2.block b hb (by simp)⟩
theorem wpList_appC {α : Type} {L : Lay α} {e : TypeId} {P : Program} {ops : Array Oper} {rest : List Oper} {o : Oper} {a : Act} {w : World} {Q : Exit → Act → World → Prop} (hgd : o.guard = none) (s x : Operand) (t : TypeId)
    (ho : o.op = .call { callee := .builtin .append, args := #[s, x], argTypes := #[t, t] })
    (z : Value) (k bytes : Nat) (ht : P.underlying t = some (.slice e)) (hi : (P.info? e).map (fun i => (i.zero, i.size, i.bytes)) = some (some z, k, bytes)) (hk : L.size = k) (hzs : z.cells.size = k) (hk0 : 0 < k)
    (hfree : ∀ (w w' : World) (F G : Nat → Prop) (ys : List α) (cs : List Value), L.reps w F ys cs → L.reps w' G ys cs)
    (g : Nat) (F : Nat → Prop) (A2 : Option Addr) (m c2 : Nat) (ys : List α) (hs : a.eval s = .slice (some ⟨g, 0, none⟩) 0 0) (hx : a.eval x = .slice A2 m c2) (hr : L.rd w F A2 m ys) (hb : m * bytes ≤ 140737488355328) (hn : m ≤ maxLen)
    (h : ∀ A' c' w', L.rd w' (fun b => w.heap.size ≤ b) A' m ys → Below w.heap.size w w' → m ≤ c' → c' ≤ 9223372036854775807 → wpList P ops Q rest (a.put o.dst (.slice A' m c')) w') : wpList P ops Q (o :: rest) a w := by
  obtain ⟨A', c', w', hrun, h1, h2, h3, h4⟩ := run_append_copy (P := P) (w := w) t o.type z k bytes ht hi hk hzs hk0 hfree g F A2 m c2 ys hr hb hn
  refine wpList_plain hgd fun _ hK => ?_
  unfold Oper.wp execOp
  simp only [ho, resolve, invoke, builtin, Sem.run_bind, Sem.run_pure, Result.andThen_ok, List.map_toArray, List.map_cons, List.map_nil, hs, hx, hrun]
  exact hK _ _ (h A' c' w' h1 h2 h3 h4)
theorem SeqN.z012 {k1 k2 k3 k4 : Nat} {B : Nat → (Nat → Value) → World → Prop} {L : Array Bool} {m : Nat → Value} {w : World} {md : Region.Mode} {ops : Array Oper} {T : World → Prop} (hsh : Shut md ops L) (h3 : Dn L k3 = false) (hr : ([k4].all fun x => reach md ops ops.size x k3) = true)
    (t0 : ∀ m w, B 0 m w → T w) (t1 : ∀ m w, B 1 m w → T w) (t2 : ∀ m w, B 2 m w → T w) (hS : SeqN [k1, k2, k3, k4] B L m w) : T w := by
  have hn := post_no hsh h3 hr
  unfold SeqN cntD cntD cntD at hS
  rw [h3, cntD_none hn] at hS
  cases h7 : Dn L k1 <;> cases h8 : Dn L k2 <;> rw [h7, h8] at hS
  · exact t0 _ _ hS
  · exact t1 _ _ hS
  · exact t1 _ _ hS
  · exact t2 _ _ hS
theorem ownsRow_less {w : World} {B B' s n : Nat} {e : TypeId} {v : Value} {xs : List Value} (h : w.ownsRow B e s v n xs) (hB : B' ≤ B) : w.ownsRow B' e s v n xs := by
  refine ⟨h.1, ?_⟩
  rcases h.2 with h2 | ⟨g, cap, cur, rfl, hg, r⟩
  · exact .inl h2
  · exact .inr ⟨g, cap, cur, rfl, Nat.le_trans hB hg, r⟩
theorem Lay.own_less {α : Type} {L : Lay α} {e : TypeId} {w : World} {B B' n c : Nat} {G : Nat → Prop} {A : Option Addr} {xs : List α} (h : L.own e w B G A n c xs) (hB : B' ≤ B) : L.own e w B' G A n c xs := by
  obtain ⟨hl, cs, hr, ho⟩ := h
  exact ⟨hl, cs, hr, ownsRow_less ho hB⟩
end Go.Proofs.YtoaggmldekejoaaDoor
/- What counts of a node. Conditions: what the tables hold. -/
namespace Go.Proofs.YtoaggmldekejoaaDoor
open Go.RowKit
theorem plainV_eq (k n u : Int) (s : ByteArray) : plainV k n u s = plainB k n u s := by
  unfold plainV plainB rightB
  rw [toList_data]
  by_cases h0 : k = 0
  · subst h0; simp
  · rw [if_neg h0, if_neg h0]
    by_cases h1 : k = 1
    · subst h1; simp
    · rw [if_neg h1, if_neg h1]
      by_cases h2 : k = 2
      · subst h2; simp
      · rw [if_neg h2, if_neg h2]
        by_cases h3 : k = 3
        · subst h3; simp
        · rw [if_neg h3, Bool.eq_iff_iff]
          simp only [decide_eq_true_eq, Bool.and_eq_true, bne_iff_ne]
          omega
def zvB (p : Py) : Bool := decide (p.k = 0 ∧ p.n = 0 ∧ p.u = 0 ∧ p.s.data.toList = [])
theorem run_eqZ (k n u : Int) (s : ByteArray) : ∀ W, (Op.equalIn 10000 25 (.agg #[.int .i64 k, .int .i64 n, .int .u64 u, .string s]) (.agg #[.int .i64 0, .int .i64 0, .int .u64 0, .string ⟨#[]⟩])).run Tryd.prog W = .ok (decide (k = 0 ∧ n = 0 ∧ u = 0 ∧ s.data.toList = [])) W := by
  intro W
  rw [run_equalIn_agg W 9999 _ _ _ (by kernel_rfl) (by kernel_rfl)]
  have e : (s.toList = (⟨#[]⟩ : ByteArray).toList) ↔ s.data.toList = [] := by rw [toList_data, toList_data]
  go_simp
  by_cases h1 : k = 0 <;> by_cases h2 : n = 0 <;> by_cases h3 : u = 0 <;> by_cases h4 : s.data.toList = [] <;> simp_all [toList_data]
theorem eB_eq : (eB.toList == (⟨#[]⟩ : ByteArray).toList) = true := beq_self_eq_true _
theorem ne_list {s : ByteArray} (h : s.data.toList ≠ []) : (s.toList == (⟨#[]⟩ : ByteArray).toList) = false := by
  rw [toList_data, toList_data]
  cases hs : s.data.toList with
  | nil => exact absurd hs h
  | cons b r => rfl
set_option maxRecDepth 100000 in
set_option maxHeartbeats 8000000 in
theorem counts_any (p : Py) (l r : Int) (w : World) (hT : Tab w) (h1 : p.s.size ≤ 9223372036854775807) (h2 : p.tb.size ≤ 9223372036854775807) (h3 : p.nm.size ≤ 9223372036854775807) :
    Calls Tryd.prog 32 #[.agg (Nd.cells ⟨p, l, r⟩)] w fun e w' => e = .returned (.bool (cntB p)) ∧ Below w.heap.size w w' := by
  have HC := Lib.hid (show cntB p = if p.tag = 1 then decide (p.tb.data.toList = []) && (decide (p.nm.data.toList = []) && (plainV p.k p.n p.u p.s && (decide (0 ≤ p.n) && p.s.data.toList.all plU))) else if p.tag = 2 then zvB p && (nameB p.nm && (decide (p.tb.data.toList = []) || nameB p.tb)) else zvB p && (decide (p.tb.data.toList = []) && decide (p.nm.data.toList = [])) from rfl)
  have HZ := Lib.hid (show ∀ W, (Op.equalIn 10000 25 (.agg #[.int .i64 p.k, .int .i64 p.n, .int .u64 p.u, .string p.s]) (.agg #[.int .i64 0, .int .i64 0, .int .u64 0, .string ⟨#[]⟩])).run Tryd.prog W = .ok (zvB p) W from run_eqZ p.k p.n p.u p.s)
  obtain ⟨t, k, n, u, s, tb, nm⟩ := p
  generalize cntB ⟨t, k, n, u, s, tb, nm⟩ = res at *
  generalize zvB ⟨t, k, n, u, s, tb, nm⟩ = zv at *
  simp only at HC HZ h1 h2 h3 ⊢
  rw [plainV_eq] at HC
  have HQ := Lib.hid (bl_al (Below.refl w.heap.size w) (.cells (Nd.cells ⟨⟨t, k, n, u, s, tb, nm⟩, l, r⟩) 27))
  have HB := Lib.hid (Blk.new w 27 (Nd.cells ⟨⟨t, k, n, u, s, tb, nm⟩, l, r⟩))
  have HT := Lib.hid (hT.below HQ.out)
  have HS := Lib.hid (And.intro h1 (And.intro h2 h3))
  clear hT h1 h2 h3
  go_enter Tryd.func32, Tryd.ntmps32
  go_upto_region 1 with fail
  generalize w.alloc (.cells #[.int .i64 t, .int .i64 l, .int .i64 r, .int .i64 k, .int .i64 n, .int .u64 u, .string s, .string tb, .string nm] 27) = w1 at *
  by_cases htb : tb.data.toList = []
  case neg =>
    have etb := ne_list htb
    refine wp_region_ps (S := fun _ _ w' => Below w1.heap.size w1 w') (by kernel_rfl) ?spswg1 ?ppswg1
    case spswg1 =>
      exact (Below.refl w1.heap.size w1).drew
    refine Ps.st (i := 0) (d := some 5) (u := (.pointer (some ⟨w.heap.size, 7, none⟩))) rfl rfl (by exact StepS.pure nP rfl fun _ => rfl) ?_
    try simp only [Act.put, sA, sZ, sS]
    refine Ps.st (i := 1) (d := some 6) (u := (.string tb)) rfl rfl ?ywg1_3 ?rwg1_3
    case ywg1_3 =>
      refine StepS.read [] (by kernel_rfl) nP (by rfl) (fun L9 m9 w9 hSh hAt hDn hS => ?_)
      have hT : Below _ _ w9 := hS
      have x0 : w9.cell? ⟨w.heap.size, 7, none⟩ = some (.string tb) := (HB.out.ca hT).cell 7
      clear hT hS
      go_simp
      try rfl
    try simp only [Act.put, sA, sZ, sS]
    refine Ps.st (i := 2) (d := some 7) (u := (.bool (true))) rfl rfl ?ywg1_4 ?rwg1_4
    case ywg1_4 =>
      refine StepS.pure nP (by rfl) (fun w9 => ?_)
      refine Eq.trans ?_ (congrArg (fun b => Result.ok (Next.value (Value.bool b)) w9) (show (!(tb.toList == (⟨#[]⟩ : ByteArray).toList)) = true from by rw [etb]; rfl))
      first | rfl | (go_simp; done) | (go_simp; rfl)
    try simp only [Act.put, sA, sZ, sS]
    refine Ps.st (i := 3) (d := some 8) (u := (.bool (true))) rfl rfl (by exact StepS.pure nP rfl fun _ => rfl) ?_
    try simp only [Act.put, sA, sZ, sS]
    refine Ps.st (i := 4) (d := some 9) (u := undef) rfl rfl (by  exact StepS.skip nP rfl) ?_
    try simp only [Act.put, sA, sZ, sS]
    refine Ps.st (i := 5) (d := some 10) (u := undef) rfl rfl (by  exact StepS.skip nP rfl) ?_
    try simp only [Act.put, sA, sZ, sS]
    refine Ps.st (i := 6) (d := some 11) (u := undef) rfl rfl (by  exact StepS.skip nP rfl) ?_
    try simp only [Act.put, sA, sZ, sS]
    refine Ps.st (i := 7) (d := some 12) (u := (.bool (true))) rfl rfl (by exact StepS.pure nP rfl fun _ => rfl) ?_
    try simp only [Act.put, sA, sZ, sS]
    refine Ps.st (i := 8) (d := some 13) (u := (.pointer (some ⟨w.heap.size, 3, none⟩))) rfl rfl (by exact StepS.pure nP rfl fun _ => rfl) ?_
    try simp only [Act.put, sA, sZ, sS]
    refine Ps.st (i := 9) (d := some 14) (u := (.agg #[.int .i64 (k), .int .i64 (n), .int .u64 (u), .string s])) rfl rfl ?ywg1_11 ?rwg1_11
    case ywg1_11 =>
      refine StepS.read [] (by kernel_rfl) nP (by rfl) (fun L9 m9 w9 hSh hAt hDn hS => ?_)
      have hT : Below _ _ w9 := hS
      have x0 : w9.cell? ⟨w.heap.size, 3, none⟩ = some (.int .i64 (k)) := (HB.out.ca hT).cell 3
      have x1 : w9.cell? ⟨w.heap.size, 4, none⟩ = some (.int .i64 (n)) := (HB.out.ca hT).cell 4
      have x2 : w9.cell? ⟨w.heap.size, 5, none⟩ = some (.int .u64 (u)) := (HB.out.ca hT).cell 5
      have x3 : w9.cell? ⟨w.heap.size, 6, none⟩ = some (.string s) := (HB.out.ca hT).cell 6
      clear hT hS
      go_simp
      try rfl
    try simp only [Act.put, sA, sZ, sS]
    refine Ps.st (i := 10) (d := some 15) (u := (.agg #[.int .i64 (0), .int .i64 (0), .int .u64 (0), .string ⟨#[]⟩])) rfl rfl (by exact StepS.pure nP rfl fun _ => by first | rfl | (go_simp; done) | (go_simp; rfl)) ?_
    try simp only [Act.put, sA, sZ, sS]
    refine Ps.st (i := 11) (d := some 16) (u := (.bool (!zv))) rfl rfl ?ywg1_13 ?rwg1_13
    case ywg1_13 =>
      refine StepS.pure nP (by rfl) (fun w9 => ?_)
      have heq := HZ.out
      first | rfl | (go_simp; done) | (go_simp; rfl)
    try simp only [Act.put, sA, sZ, sS]
    refine Ps.st (i := 12) (d := some 3) (u := (.bool (true))) rfl rfl (by exact StepS.pure nP rfl fun _ => rfl) ?_
    try simp only [Act.put, sA, sZ, sS]
    refine Ps.st (i := 13) (d := some 4) (u := (.bool (!zv))) rfl rfl (by exact StepS.pure nP rfl fun _ => rfl) ?_
    try simp only [Act.put, sA, sZ, sS]
    refine Ps.done (by kernel_rfl) (fun wg1 hS => ?_) _
    have HW2 := Lib.hid (show Below w1.heap.size w1 wg1 from hS)
    clear hS
    obtain ⟨w2, rfl⟩ : ∃ x, x = wg1 := ⟨_, rfl⟩
    clear etb
    have HTB := Lib.hid htb
    clear htb
    have HQ2 := Lib.hid (bl_ca HQ.out HW2.out)
    have HT2 := Lib.hid (HT.out.below HW2.out)
    have HB2 := Lib.hid (HB.out.ca HW2.out)
    have x0 := HB2.out.cell 0
    have x3 := HB2.out.cell 3
    have x4 := HB2.out.cell 4
    have x5 := HB2.out.cell 5
    have x6 := HB2.out.cell 6
    have x7 := HB2.out.cell 7
    have x8 := HB2.out.cell 8
    simp at x0 x3 x4 x5 x6 x7 x8
    by_cases t1 : t = 1
    · subst t1
      have HF := Lib.hid (show res = false from by rw [HC.out, if_pos rfl]; rw [decide_eq_false HTB.out]; rfl)
      clear HC
      go_wp2
      go_ret
      exact ⟨ret_bool HF.out.symm, HQ2.out⟩
    have g1 : (t == 1) = false := by simpa using t1
    by_cases t2 : t = 2
    · subst t2
      have HF := Lib.hid (show res = (zv && (nameB nm && (decide (tb.data.toList = []) || nameB tb))) from by rw [HC.out, if_neg t1, if_pos rfl])
      clear HC g1 t1
      cases zv
      · go_wp2
        go_ret
        exact ⟨ret_bool (by rw [HF.out]; rfl), HQ2.out⟩
      · go_wp2_with fail
        refine (isname_any nm _ HT2.out HS.out.2.2).mono ?_
        rintro e w3 ⟨rfl, q3⟩
        have HQ3 := Lib.hid (bl_ca HQ2.out q3)
        have HT3 := Lib.hid (HT2.out.below q3)
        have y7 := (HB2.out.ca q3).cell 7
        simp at y7
        clear q3 x0 x3 x4 x5 x6 x7 x8
        cases hnn : nameB nm
        · have HF2 := Lib.hid (show res = false from by rw [HF.out, hnn]; rfl)
          clear hnn
          go_wp2
          go_ret
          exact ⟨ret_bool HF2.out.symm, HQ3.out⟩
        · have HF2 := Lib.hid (show res = mayB tb from by rw [HF.out, hnn]; rfl)
          clear hnn
          go_wp2_with fail
          refine (maybe_any tb _ HT3.out HS.out.2.1).mono ?_
          rintro e w4 ⟨rfl, q4⟩
          have HQ4 := Lib.hid (bl_ca HQ3.out q4)
          clear q4
          go_wp2
          go_ret
          exact ⟨ret_bool HF2.out.symm, HQ4.out⟩
    have g2 : (t == 2) = false := by simpa using t2
    have HF := Lib.hid (show res = (zv && false) from by rw [HC.out, if_neg t1, if_neg t2]; rw [decide_eq_false HTB.out]; rfl)
    clear HC t1 t2
    cases zv
    · go_wp2
      go_ret
      exact ⟨ret_bool (by rw [HF.out]; rfl), HQ2.out⟩
    · go_wp2
      go_ret
      exact ⟨ret_bool (by rw [HF.out]; rfl), HQ2.out⟩
  case pos =>
  have htb2 := ba_e htb
  by_cases hnm : nm.data.toList = []
  case neg =>
    have enm := ne_list hnm
    refine wp_region_ps (S := fun _ _ w' => Below w1.heap.size w1 w') (by kernel_rfl) ?spswg16 ?ppswg16
    case spswg16 =>
      exact (Below.refl w1.heap.size w1).drew
    refine Ps.st (i := 0) (d := some 5) (u := (.pointer (some ⟨w.heap.size, 7, none⟩))) rfl rfl (by exact StepS.pure nP rfl fun _ => rfl) ?_
    try simp only [Act.put, sA, sZ, sS]
    refine Ps.st (i := 1) (d := some 6) (u := (.string tb)) rfl rfl ?ywg16_18 ?rwg16_18
    case ywg16_18 =>
      refine StepS.read [] (by kernel_rfl) nP (by rfl) (fun L9 m9 w9 hSh hAt hDn hS => ?_)
      have hT : Below _ _ w9 := hS
      have x0 : w9.cell? ⟨w.heap.size, 7, none⟩ = some (.string tb) := (HB.out.ca hT).cell 7
      clear hT hS
      go_simp
      try rfl
    try simp only [Act.put, sA, sZ, sS]
    refine Ps.st (i := 2) (d := some 7) (u := (.bool (false))) rfl rfl ?ywg16_19 ?rwg16_19
    case ywg16_19 =>
      refine StepS.pure nP (by rfl) (fun w9 => ?_)
      refine Eq.trans ?_ (congrArg (fun b => Result.ok (Next.value (Value.bool b)) w9) (show (!(tb.toList == (⟨#[]⟩ : ByteArray).toList)) = false from by rw [htb2, eB_eq]; rfl))
      first | rfl | (go_simp; done) | (go_simp; rfl)
    try simp only [Act.put, sA, sZ, sS]
    refine Ps.st (i := 3) (d := some 8) (u := (.bool (false))) rfl rfl (by exact StepS.pure nP rfl fun _ => rfl) ?_
    try simp only [Act.put, sA, sZ, sS]
    refine Ps.st (i := 4) (d := some 9) (u := (.pointer (some ⟨w.heap.size, 8, none⟩))) rfl rfl (by exact StepS.pure nP rfl fun _ => rfl) ?_
    try simp only [Act.put, sA, sZ, sS]
    refine Ps.st (i := 5) (d := some 10) (u := (.string nm)) rfl rfl ?ywg16_22 ?rwg16_22
    case ywg16_22 =>
      refine StepS.read [] (by kernel_rfl) nP (by rfl) (fun L9 m9 w9 hSh hAt hDn hS => ?_)
      have hT : Below _ _ w9 := hS
      have x0 : w9.cell? ⟨w.heap.size, 8, none⟩ = some (.string nm) := (HB.out.ca hT).cell 8
      clear hT hS
      go_simp
      try rfl
    try simp only [Act.put, sA, sZ, sS]
    refine Ps.st (i := 6) (d := some 11) (u := (.bool (true))) rfl rfl ?ywg16_23 ?rwg16_23
    case ywg16_23 =>
      refine StepS.pure nP (by rfl) (fun w9 => ?_)
      refine Eq.trans ?_ (congrArg (fun b => Result.ok (Next.value (Value.bool b)) w9) (show (!(nm.toList == (⟨#[]⟩ : ByteArray).toList)) = true from by rw [enm]; rfl))
      first | rfl | (go_simp; done) | (go_simp; rfl)
    try simp only [Act.put, sA, sZ, sS]
    refine Ps.st (i := 7) (d := some 12) (u := (.bool (true))) rfl rfl (by exact StepS.pure nP rfl fun _ => rfl) ?_
    try simp only [Act.put, sA, sZ, sS]
    refine Ps.st (i := 8) (d := some 13) (u := (.pointer (some ⟨w.heap.size, 3, none⟩))) rfl rfl (by exact StepS.pure nP rfl fun _ => rfl) ?_
    try simp only [Act.put, sA, sZ, sS]
    refine Ps.st (i := 9) (d := some 14) (u := (.agg #[.int .i64 (k), .int .i64 (n), .int .u64 (u), .string s])) rfl rfl ?ywg16_26 ?rwg16_26
    case ywg16_26 =>
      refine StepS.read [] (by kernel_rfl) nP (by rfl) (fun L9 m9 w9 hSh hAt hDn hS => ?_)
      have hT : Below _ _ w9 := hS
      have x0 : w9.cell? ⟨w.heap.size, 3, none⟩ = some (.int .i64 (k)) := (HB.out.ca hT).cell 3
      have x1 : w9.cell? ⟨w.heap.size, 4, none⟩ = some (.int .i64 (n)) := (HB.out.ca hT).cell 4
      have x2 : w9.cell? ⟨w.heap.size, 5, none⟩ = some (.int .u64 (u)) := (HB.out.ca hT).cell 5
      have x3 : w9.cell? ⟨w.heap.size, 6, none⟩ = some (.string s) := (HB.out.ca hT).cell 6
      clear hT hS
      go_simp
      try rfl
    try simp only [Act.put, sA, sZ, sS]
    refine Ps.st (i := 10) (d := some 15) (u := (.agg #[.int .i64 (0), .int .i64 (0), .int .u64 (0), .string ⟨#[]⟩])) rfl rfl (by exact StepS.pure nP rfl fun _ => by first | rfl | (go_simp; done) | (go_simp; rfl)) ?_
    try simp only [Act.put, sA, sZ, sS]
    refine Ps.st (i := 11) (d := some 16) (u := (.bool (!zv))) rfl rfl ?ywg16_28 ?rwg16_28
    case ywg16_28 =>
      refine StepS.pure nP (by rfl) (fun w9 => ?_)
      have heq := HZ.out
      first | rfl | (go_simp; done) | (go_simp; rfl)
    try simp only [Act.put, sA, sZ, sS]
    refine Ps.st (i := 12) (d := some 3) (u := (.bool (true))) rfl rfl (by exact StepS.pure nP rfl fun _ => rfl) ?_
    try simp only [Act.put, sA, sZ, sS]
    refine Ps.st (i := 13) (d := some 4) (u := (.bool (!zv))) rfl rfl (by exact StepS.pure nP rfl fun _ => rfl) ?_
    try simp only [Act.put, sA, sZ, sS]
    refine Ps.done (by kernel_rfl) (fun wg16 hS => ?_) _
    have HW2 := Lib.hid (show Below w1.heap.size w1 wg16 from hS)
    clear hS
    obtain ⟨w2, rfl⟩ : ∃ x, x = wg16 := ⟨_, rfl⟩
    clear enm htb2
    have HTB := Lib.hid htb
    have HNM := Lib.hid hnm
    clear htb hnm
    have HQ2 := Lib.hid (bl_ca HQ.out HW2.out)
    have HT2 := Lib.hid (HT.out.below HW2.out)
    have HB2 := Lib.hid (HB.out.ca HW2.out)
    have x0 := HB2.out.cell 0
    have x3 := HB2.out.cell 3
    have x4 := HB2.out.cell 4
    have x5 := HB2.out.cell 5
    have x6 := HB2.out.cell 6
    have x7 := HB2.out.cell 7
    have x8 := HB2.out.cell 8
    simp at x0 x3 x4 x5 x6 x7 x8
    by_cases t1 : t = 1
    · subst t1
      have HF := Lib.hid (show res = false from by rw [HC.out, if_pos rfl]; rw [decide_eq_false HNM.out, Bool.false_and, Bool.and_false])
      clear HC
      go_wp2
      go_ret
      exact ⟨ret_bool HF.out.symm, HQ2.out⟩
    have g1 : (t == 1) = false := by simpa using t1
    by_cases t2 : t = 2
    · subst t2
      have HF := Lib.hid (show res = (zv && (nameB nm && (decide (tb.data.toList = []) || nameB tb))) from by rw [HC.out, if_neg t1, if_pos rfl])
      clear HC g1 t1
      cases zv
      · go_wp2
        go_ret
        exact ⟨ret_bool (by rw [HF.out]; rfl), HQ2.out⟩
      · go_wp2_with fail
        refine (isname_any nm _ HT2.out HS.out.2.2).mono ?_
        rintro e w3 ⟨rfl, q3⟩
        have HQ3 := Lib.hid (bl_ca HQ2.out q3)
        have HT3 := Lib.hid (HT2.out.below q3)
        have y7 := (HB2.out.ca q3).cell 7
        simp at y7
        clear q3 x0 x3 x4 x5 x6 x7 x8
        cases hnn : nameB nm
        · have HF2 := Lib.hid (show res = false from by rw [HF.out, hnn]; rfl)
          clear hnn
          go_wp2
          go_ret
          exact ⟨ret_bool HF2.out.symm, HQ3.out⟩
        · have HF2 := Lib.hid (show res = mayB tb from by rw [HF.out, hnn]; rfl)
          clear hnn
          go_wp2_with fail
          refine (maybe_any tb _ HT3.out HS.out.2.1).mono ?_
          rintro e w4 ⟨rfl, q4⟩
          have HQ4 := Lib.hid (bl_ca HQ3.out q4)
          clear q4
          go_wp2
          go_ret
          exact ⟨ret_bool HF2.out.symm, HQ4.out⟩
    have g2 : (t == 2) = false := by simpa using t2
    have HF := Lib.hid (show res = (zv && false) from by rw [HC.out, if_neg t1, if_neg t2]; rw [decide_eq_false HNM.out, Bool.and_false])
    clear HC t1 t2
    cases zv
    · go_wp2
      go_ret
      exact ⟨ret_bool (by rw [HF.out]; rfl), HQ2.out⟩
    · go_wp2
      go_ret
      exact ⟨ret_bool (by rw [HF.out]; rfl), HQ2.out⟩
  case pos =>
    have hnm2 := ba_e hnm
    refine wp_region_ps (S := fun _ _ w' => Below w1.heap.size w1 w') (by kernel_rfl) ?spswg31 ?ppswg31
    case spswg31 =>
      exact (Below.refl w1.heap.size w1).drew
    refine Ps.st (i := 0) (d := some 5) (u := (.pointer (some ⟨w.heap.size, 7, none⟩))) rfl rfl (by exact StepS.pure nP rfl fun _ => rfl) ?_
    try simp only [Act.put, sA, sZ, sS]
    refine Ps.st (i := 1) (d := some 6) (u := (.string tb)) rfl rfl ?ywg31_33 ?rwg31_33
    case ywg31_33 =>
      refine StepS.read [] (by kernel_rfl) nP (by rfl) (fun L9 m9 w9 hSh hAt hDn hS => ?_)
      have hT : Below _ _ w9 := hS
      have x0 : w9.cell? ⟨w.heap.size, 7, none⟩ = some (.string tb) := (HB.out.ca hT).cell 7
      clear hT hS
      go_simp
      try rfl
    try simp only [Act.put, sA, sZ, sS]
    refine Ps.st (i := 2) (d := some 7) (u := (.bool (false))) rfl rfl ?ywg31_34 ?rwg31_34
    case ywg31_34 =>
      refine StepS.pure nP (by rfl) (fun w9 => ?_)
      refine Eq.trans ?_ (congrArg (fun b => Result.ok (Next.value (Value.bool b)) w9) (show (!(tb.toList == (⟨#[]⟩ : ByteArray).toList)) = false from by rw [htb2, eB_eq]; rfl))
      first | rfl | (go_simp; done) | (go_simp; rfl)
    try simp only [Act.put, sA, sZ, sS]
    refine Ps.st (i := 3) (d := some 8) (u := (.bool (false))) rfl rfl (by exact StepS.pure nP rfl fun _ => rfl) ?_
    try simp only [Act.put, sA, sZ, sS]
    refine Ps.st (i := 4) (d := some 9) (u := (.pointer (some ⟨w.heap.size, 8, none⟩))) rfl rfl (by exact StepS.pure nP rfl fun _ => rfl) ?_
    try simp only [Act.put, sA, sZ, sS]
    refine Ps.st (i := 5) (d := some 10) (u := (.string nm)) rfl rfl ?ywg31_37 ?rwg31_37
    case ywg31_37 =>
      refine StepS.read [] (by kernel_rfl) nP (by rfl) (fun L9 m9 w9 hSh hAt hDn hS => ?_)
      have hT : Below _ _ w9 := hS
      have x0 : w9.cell? ⟨w.heap.size, 8, none⟩ = some (.string nm) := (HB.out.ca hT).cell 8
      clear hT hS
      go_simp
      try rfl
    try simp only [Act.put, sA, sZ, sS]
    refine Ps.st (i := 6) (d := some 11) (u := (.bool (false))) rfl rfl ?ywg31_38 ?rwg31_38
    case ywg31_38 =>
      refine StepS.pure nP (by rfl) (fun w9 => ?_)
      refine Eq.trans ?_ (congrArg (fun b => Result.ok (Next.value (Value.bool b)) w9) (show (!(nm.toList == (⟨#[]⟩ : ByteArray).toList)) = false from by rw [hnm2, eB_eq]; rfl))
      first | rfl | (go_simp; done) | (go_simp; rfl)
    try simp only [Act.put, sA, sZ, sS]
    refine Ps.st (i := 7) (d := some 12) (u := (.bool (false))) rfl rfl (by exact StepS.pure nP rfl fun _ => rfl) ?_
    try simp only [Act.put, sA, sZ, sS]
    refine Ps.st (i := 8) (d := some 13) (u := (.pointer (some ⟨w.heap.size, 3, none⟩))) rfl rfl (by exact StepS.pure nP rfl fun _ => rfl) ?_
    try simp only [Act.put, sA, sZ, sS]
    refine Ps.st (i := 9) (d := some 14) (u := (.agg #[.int .i64 (k), .int .i64 (n), .int .u64 (u), .string s])) rfl rfl ?ywg31_41 ?rwg31_41
    case ywg31_41 =>
      refine StepS.read [] (by kernel_rfl) nP (by rfl) (fun L9 m9 w9 hSh hAt hDn hS => ?_)
      have hT : Below _ _ w9 := hS
      have x0 : w9.cell? ⟨w.heap.size, 3, none⟩ = some (.int .i64 (k)) := (HB.out.ca hT).cell 3
      have x1 : w9.cell? ⟨w.heap.size, 4, none⟩ = some (.int .i64 (n)) := (HB.out.ca hT).cell 4
      have x2 : w9.cell? ⟨w.heap.size, 5, none⟩ = some (.int .u64 (u)) := (HB.out.ca hT).cell 5
      have x3 : w9.cell? ⟨w.heap.size, 6, none⟩ = some (.string s) := (HB.out.ca hT).cell 6
      clear hT hS
      go_simp
      try rfl
    try simp only [Act.put, sA, sZ, sS]
    refine Ps.st (i := 10) (d := some 15) (u := (.agg #[.int .i64 (0), .int .i64 (0), .int .u64 (0), .string ⟨#[]⟩])) rfl rfl (by exact StepS.pure nP rfl fun _ => by first | rfl | (go_simp; done) | (go_simp; rfl)) ?_
    try simp only [Act.put, sA, sZ, sS]
    refine Ps.st (i := 11) (d := some 16) (u := (.bool (!zv))) rfl rfl ?ywg31_43 ?rwg31_43
    case ywg31_43 =>
      refine StepS.pure nP (by rfl) (fun w9 => ?_)
      have heq := HZ.out
      first | rfl | (go_simp; done) | (go_simp; rfl)
    try simp only [Act.put, sA, sZ, sS]
    refine Ps.st (i := 12) (d := some 3) (u := (.bool (false))) rfl rfl (by exact StepS.pure nP rfl fun _ => rfl) ?_
    try simp only [Act.put, sA, sZ, sS]
    refine Ps.st (i := 13) (d := some 4) (u := (.bool (!zv))) rfl rfl (by exact StepS.pure nP rfl fun _ => rfl) ?_
    try simp only [Act.put, sA, sZ, sS]
    refine Ps.done (by kernel_rfl) (fun wg31 hS => ?_) _
    have HW2 := Lib.hid (show Below w1.heap.size w1 wg31 from hS)
    clear hS
    obtain ⟨w2, rfl⟩ : ∃ x, x = wg31 := ⟨_, rfl⟩
    clear htb2 hnm2
    have HTB := Lib.hid htb
    have HNM := Lib.hid hnm
    clear htb hnm
    have HQ2 := Lib.hid (bl_ca HQ.out HW2.out)
    have HT2 := Lib.hid (HT.out.below HW2.out)
    have HB2 := Lib.hid (HB.out.ca HW2.out)
    have x0 := HB2.out.cell 0
    have x3 := HB2.out.cell 3
    have x4 := HB2.out.cell 4
    have x5 := HB2.out.cell 5
    have x6 := HB2.out.cell 6
    have x7 := HB2.out.cell 7
    have x8 := HB2.out.cell 8
    simp at x0 x3 x4 x5 x6 x7 x8
    by_cases t1 : t = 1
    · subst t1
      have HF := Lib.hid (show res = (plainB k n u s && (decide (0 ≤ n) && wriB s)) from by rw [HC.out, if_pos rfl, decide_eq_true HTB.out, decide_eq_true HNM.out]; rfl)
      clear HC
      go_wp2_with fail
      refine (plain_any k n u s _).mono ?_
      rintro e w3 ⟨rfl, q3⟩
      have HQ3 := Lib.hid (bl_ca HQ2.out q3)
      have y4 := (HB2.out.ca q3).cell 4
      have y6 := (HB2.out.ca q3).cell 6
      simp at y4 y6
      clear q3 x0 x3 x4 x5 x6 x7 x8
      cases hpp : plainB k n u s
      · have HF2 := Lib.hid (show res = false from by rw [HF.out, hpp]; rfl)
        clear hpp
        go_wp2
        go_ret
        exact ⟨ret_bool HF2.out.symm, HQ3.out⟩
      · by_cases hn0 : 0 ≤ n
        · have HF2 := Lib.hid (show res = wriB s from by rw [HF.out, hpp, decide_eq_true hn0]; rfl)
          clear hpp
          go_wp2_with fail
          refine (written_any s _ HS.out.1).mono ?_
          rintro e w4 ⟨rfl, q4⟩
          have HQ4 := Lib.hid (bl_ca HQ3.out q4)
          clear q4
          go_wp2
          go_ret
          exact ⟨ret_bool HF2.out.symm, HQ4.out⟩
        · have HF2 := Lib.hid (show res = false from by rw [HF.out, hpp, decide_eq_false hn0]; rfl)
          have hn1 : n < 0 := by omega
          clear hpp hn0
          go_wp2
          go_ret
          exact ⟨ret_bool HF2.out.symm, HQ3.out⟩
    have g1 : (t == 1) = false := by simpa using t1
    by_cases t2 : t = 2
    · subst t2
      have HF := Lib.hid (show res = (zv && (nameB nm && (decide (tb.data.toList = []) || nameB tb))) from by rw [HC.out, if_neg t1, if_pos rfl])
      clear HC g1 t1
      cases zv
      · go_wp2
        go_ret
        exact ⟨ret_bool (by rw [HF.out]; rfl), HQ2.out⟩
      · go_wp2_with fail
        refine (isname_any nm _ HT2.out HS.out.2.2).mono ?_
        rintro e w3 ⟨rfl, q3⟩
        have HQ3 := Lib.hid (bl_ca HQ2.out q3)
        have HT3 := Lib.hid (HT2.out.below q3)
        have y7 := (HB2.out.ca q3).cell 7
        simp at y7
        clear q3 x0 x3 x4 x5 x6 x7 x8
        cases hnn : nameB nm
        · have HF2 := Lib.hid (show res = false from by rw [HF.out, hnn]; rfl)
          clear hnn
          go_wp2
          go_ret
          exact ⟨ret_bool HF2.out.symm, HQ3.out⟩
        · have HF2 := Lib.hid (show res = mayB tb from by rw [HF.out, hnn]; rfl)
          clear hnn
          go_wp2_with fail
          refine (maybe_any tb _ HT3.out HS.out.2.1).mono ?_
          rintro e w4 ⟨rfl, q4⟩
          have HQ4 := Lib.hid (bl_ca HQ3.out q4)
          clear q4
          go_wp2
          go_ret
          exact ⟨ret_bool HF2.out.symm, HQ4.out⟩
    have g2 : (t == 2) = false := by simpa using t2
    have HF := Lib.hid (show res = (zv && true) from by rw [HC.out, if_neg t1, if_neg t2]; rw [decide_eq_true HTB.out, decide_eq_true HNM.out]; rfl)
    clear HC t1 t2
    cases zv
    · go_wp2
      go_ret
      exact ⟨ret_bool (by rw [HF.out]; rfl), HQ2.out⟩
    · go_wp2
      go_ret
      exact ⟨ret_bool (by rw [HF.out]; rfl), HQ2.out⟩
end Go.Proofs.YtoaggmldekejoaaDoor
