/- Rows of values that the call owns. Conditions: none. -/
import Derived.Test.YtabbiepafibmmaaDoorAre
import Derived.Test.YtabbiepafibmmaaDoorBlk2
namespace Go.Proofs.YtabbiepafibmmaaDoor
open Go.RowKit
def vcells (vs : List VV) : List Value := vs.flatMap fun v => [.int .i64 v.k, .int .i64 v.n, .int .u64 v.u, .string v.s]
theorem vcells_len (vs : List VV) : (vcells vs).length = vs.length * 4 := by
  induction vs with
  | nil => rfl
  | cons v l ih => simp only [vcells, List.flatMap_cons, List.length_append] at *; simp [ih]; omega
theorem vcells_append (a b : List VV) : vcells (a ++ b) = vcells a ++ vcells b := by simp [vcells]
theorem vcells_one (vs : List VV) : ∀ u ∈ vcells vs, u.oneCell' = true := by
  intro u hu
  simp only [vcells, List.mem_flatMap] at hu
  obtain ⟨v, _, hu⟩ := hu
  simp at hu
  rcases hu with rfl | rfl | rfl | rfl <;> rfl
theorem vcells_at (vs : List VV) (i : Nat) (v : VV) (h : vs[i]? = some v) : (vcells vs)[i * 4]? = some (.int .i64 v.k) ∧ (vcells vs)[i * 4 + 1]? = some (.int .i64 v.n) ∧ (vcells vs)[i * 4 + 2]? = some (.int .u64 v.u) ∧ (vcells vs)[i * 4 + 3]? = some (.string v.s) := by
  induction vs generalizing i with
  | nil => simp at h
  | cons x l ih =>
    cases i with
    | zero =>
      simp at h
      subst h
      exact ⟨rfl, rfl, rfl, rfl⟩
    | succ i =>
      have e : vcells (x :: l) = [.int .i64 x.k, .int .i64 x.n, .int .u64 x.u, .string x.s] ++ vcells l := rfl
      have := ih i (by simpa using h)
      rw [e]
      refine ⟨?_, ?_, ?_, ?_⟩
      · rw [List.getElem?_append_right (by simp; omega)]
        simpa [Nat.succ_mul] using this.1
      · rw [List.getElem?_append_right (by simp; omega)]
        have h2 := this.2.1
        rw [show (i + 1) * 4 + 1 - ([.int .i64 x.k, .int .i64 x.n, .int .u64 x.u, .string x.s] : List Value).length = i * 4 + 1 from by simp; omega]
        exact h2
      · rw [List.getElem?_append_right (by simp; omega)]
        rw [show (i + 1) * 4 + 2 - ([.int .i64 x.k, .int .i64 x.n, .int .u64 x.u, .string x.s] : List Value).length = i * 4 + 2 from by simp; omega]
        exact this.2.2.1
      · rw [List.getElem?_append_right (by simp; omega)]
        rw [show (i + 1) * 4 + 3 - ([.int .i64 x.k, .int .i64 x.n, .int .u64 x.u, .string x.s] : List Value).length = i * 4 + 3 from by simp; omega]
        exact this.2.2.2
/-- A slice of values that the call owns: from block B on. -/
def OwnV (w : World) (B : Nat) (A : Option Addr) (n c : Nat) (vs : List VV) : Prop := w.ownsRow B 28 4 (.slice A n c) n (vcells vs)
theorem OwnV.len {w : World} {B : Nat} {A : Option Addr} {n c : Nat} {vs : List VV} (h : OwnV w B A n c vs) : vs.length = n := by
  have := h.1
  rw [vcells_len] at this
  omega
theorem OwnV.rd {w : World} {B : Nat} {A : Option Addr} {n c : Nat} {vs : List VV} (h : OwnV w B A n c vs) : RdV w A n vs := by
  refine ⟨h.len, fun i hi => ?_⟩
  have hr := Reads.of_own h
  obtain ⟨ad, e, hb, hc⟩ := hr.2 (by omega)
  obtain ⟨g, cap, hv, _, hlt⟩ := World.ownsRow.form h (by omega)
  have hA : A = some ⟨g, 0, none⟩ := by injection hv
  subst hA
  injection e with e
  subst e
  have hil : i < vs.length := by rw [h.len]; exact hi
  obtain ⟨c0, c1, c2, c3⟩ := vcells_at vs i vs[i] (List.getElem?_eq_getElem hil)
  have hadd : ∀ j, (⟨g, 0, none⟩ : Addr).add j = ⟨g, j, none⟩ := fun j => by unfold Addr.add; split <;> simp_all
  have a0 := hc _ _ c0
  have a1 := hc _ _ c1
  have a2 := hc _ _ c2
  have a3 := hc _ _ c3
  rw [hadd] at a0 a1 a2 a3
  refine ⟨_, vs[i], rfl, List.getElem?_eq_getElem hil, hlt, ?_, ?_, ?_, ?_⟩
  all_goals rw [hadd]
  · exact a0
  · exact a1
  · exact a2
  · exact a3
theorem OwnV.below {w w' : World} {B : Nat} {A : Option Addr} {n c : Nat} {vs : List VV} (h : OwnV w B A n c vs) (hb : Below w.heap.size w w') : OwnV w' B A n c vs := by
  refine ⟨h.1, ?_⟩
  rcases h.2 with h2 | ⟨g, cap, cur, e, hg, hh, r⟩
  · exact .inl h2
  · have hlt : g < w.heap.size := by
      rcases Nat.lt_or_ge g w.heap.size with h | h
      · exact h
      · rw [Array.getElem?_eq_none h] at hh; cases hh
    exact .inr ⟨g, cap, cur, e, hg, (hb.block g hlt).trans hh, r⟩
theorem OwnV.alloc {w : World} {B : Nat} {A : Option Addr} {n c : Nat} {vs : List VV} (h : OwnV w B A n c vs) (o : Obj) : OwnV (w.alloc o) B A n c vs := h.below ((Below.refl _ _).alloc (Nat.le_refl _) o)
theorem OwnV.nil (w : World) (B : Nat) : OwnV w B none 0 0 [] := World.ownsRow_nil _ _ _ _
theorem OwnV.base {w : World} {B : Nat} {A : Option Addr} {n c : Nat} {vs : List VV} (h : OwnV w B A n c vs) : ∀ k, (Value.slice A n c).ownBlock = some k → B ≤ k := by
  intro k hk
  rcases h.2 with ⟨e, _⟩ | ⟨g, cap, _, e, hg, _⟩
  · injection e with e; subst e; simp [Value.ownBlock] at hk
  · injection e with e; subst e
    have : g = k := by simpa [Value.ownBlock] using hk
    omega
theorem OwnV.form {w : World} {B : Nat} {n : Nat} {v : Value} {xs : List Value} (h : w.ownsRow B 28 4 v n xs) : ∃ A c, v = .slice A n c := by
  rcases h.2 with ⟨rfl, rfl⟩ | ⟨g, cap, _, rfl, _⟩
  · exact ⟨_, _, rfl⟩
  · exact ⟨_, _, rfl⟩
theorem Tryd.valInfo : (Tryd.prog.info? 28).map (fun i => (i.zero, i.size, i.bytes)) = some (some (.agg #[.int .i64 0, .int .i64 0, .int .u64 0, .string ⟨#[]⟩]), 4, 40) := by kernel_rfl
theorem reads_one {w : World} {g : Nat} {t : TypeId} {v : VV} (h : Blk w g t #[.int .i64 v.k, .int .i64 v.n, .int .u64 v.u, .string v.s]) : Reads w w.heap.size 4 (some ⟨g, 0, none⟩) 1 (vcells [v]) := by
  refine ⟨rfl, fun _ => ⟨_, rfl, h.lt, fun j u hu => ?_⟩⟩
  have hadd : (⟨g, 0, none⟩ : Addr).add j = ⟨g, j, none⟩ := by unfold Addr.add; split <;> simp_all
  rw [hadd, h.cell j, ← hu]
  match j, hu with
  | 0, _ => rfl
  | 1, _ => rfl
  | 2, _ => rfl
  | 3, _ => rfl
/-- append(out, v): out the call's own. -/
theorem wpList_appV {ops : Array Oper} {rest : List Oper} {o : Oper} {a : Act} {w : World} {Q : Exit → Act → World → Prop} (hgd : o.guard = none) (s x : Operand)
    (ho : o.op = .call { callee := .builtin .append, args := #[s, x], argTypes := #[22, 22] })
    (B : Nat) (A : Option Addr) (n c : Nat) (xs : List VV) (g c2 : Nat) (t : TypeId) (v : VV)
    (hs : a.eval s = .slice A n c) (hx : a.eval x = .slice (some ⟨g, 0, none⟩) 1 c2) (hown : OwnV w B A n c xs) (hr : Blk w g t #[.int .i64 v.k, .int .i64 v.n, .int .u64 v.u, .string v.s]) (hb : n + 1 ≤ 1000000) (hB : B ≤ w.heap.size)
    (h : ∀ A' c' w', OwnV w' B A' (n + 1) c' (xs ++ [v]) → Below B w w' → wpList Tryd.prog ops Q rest (a.put o.dst (.slice A' (n + 1) c')) w') : wpList Tryd.prog ops Q (o :: rest) a w := by
  obtain ⟨i0, hi0, hz0, hz1, hz2⟩ := info_parts Tryd.valInfo
  refine wpList_append_any w hgd s x 22 ho B 28 i0 _ 4 40 Tryd.underlying22 hi0 hz0 hz1 hz2 rfl (by omega) (.slice A n c) n (vcells xs) hs hown w.heap.size (some ⟨g, 0, none⟩) 1 c2 (vcells [v]) hx (reads_one hr) (vcells_one _) (by simp only [maxLen]; omega) (by omega) hB ?_
  intro v' w' hown' hg hat
  obtain ⟨A', c', rfl⟩ := OwnV.form hown'
  refine h A' c' w' (by unfold OwnV; rw [vcells_append]; exact hown') ?_
  exact (Below.refl _ _).grown hg hB (OwnV.base hown)
end Go.Proofs.YtabbiepafibmmaaDoor
