/- The call's own map of values by their literals. Conditions: none. -/
import Derived.Test.YtabbiepafibmmaaDoorVpa
import Derived.Test.YtabbiepafibmmaaDoorEqV
import Derived.Maps.OwnSet
import Derived.Maps.Views
namespace Go.Proofs.YtabbiepafibmmaaDoor
open Go.RowKit
theorem OwnV.grown {w w' : World} {B r : Nat} {A : Option Addr} {n c : Nat} {vs : List VV} (h : OwnV w B A n c vs) (hg : w.grownBy w' (some r)) (hr : r < B) : OwnV w' B A n c vs := by
  refine ⟨h.1, ?_⟩
  rcases h.2 with h2 | ⟨g, cap, cur, e, hgB, hh, rr⟩
  · exact .inl h2
  · have hlt : g < w.heap.size := by
      rcases Nat.lt_or_ge g w.heap.size with h | h
      · exact h
      · rw [Array.getElem?_eq_none h] at hh; cases hh
    exact .inr ⟨g, cap, cur, e, hgB, (hg.block g hlt (fun e => by injection e with e; omega)).trans hh, rr⟩
/-- how a value reads -/
def dv (v : VV) : DataW Unit := .agg [.lit (.int .i64 v.k), .lit (.int .i64 v.n), .lit (.int .u64 v.u), .lit (.string v.s.data.toList)]
def VE (x : Value) : Option (DataW Unit × List MemPlace) := match x with
  | .agg ⟨[.int .i64 k, .int .i64 n, .int .u64 u, .string s]⟩ => some (dv ⟨k, n, u, s⟩, [])
  | _ => none
theorem VE_mk (v : VV) : VE (.agg #[.int .i64 v.k, .int .i64 v.n, .int .u64 v.u, .string v.s]) = some (dv v, []) := rfl
theorem dv_inj {v u : VV} (h : dv v = dv u) : v = u := by
  obtain ⟨k, n, x, s⟩ := v
  obtain ⟨k', n', x', s'⟩ := u
  unfold dv at h
  simp only [DataW.agg.injEq, List.cons.injEq, DataW.lit.injEq, Lit.int.injEq, Lit.string.injEq, true_and, and_true] at h
  obtain ⟨rfl, rfl, rfl, h⟩ := h
  rw [bS_of h, ← bS_of rfl]
theorem VE_inv {x : Value} {v : VV} {ps : List MemPlace} (h : VE x = some (dv v, ps)) : x = .agg #[.int .i64 v.k, .int .i64 v.n, .int .u64 v.u, .string v.s] := by
  unfold VE at h
  split at h
  · rename_i k n u s
    injection h with h
    have h1 := (Prod.mk.inj h).1
    have := dv_inj h1
    subst this
    rfl
  · cases h
/-- block b is the call's own map: each value lies at its literal -/
def MapV (w : World) (b n : Nat) : Prop := ∃ D : DataW Unit, w.ownsMap Tryd.prog 9 VE b n D ∧ Maps.IsMap D ∧ ∀ l, Maps.has D (.string l) = true → ∃ v : VV, v.plain = true ∧ (-9223372036854775808 ≤ v.n ∧ v.n ≤ 9223372036854775807) ∧ v.lv.lit = l ∧ ∀ z, D.atKey (.string l) z = dv v
theorem str_keyed : Maps.Keyed Tryd.prog 9 := Maps.string_keyed Tryd.underlying9
theorem MapV.made (w : World) : MapV (w.alloc (.map #[] 0)) w.heap.size 0 := ⟨.map [], World.ownsMap_made _ _ _ _, Maps.isMap_empty, fun l h => by simp [Maps.has_eq] at h⟩
theorem MapV.lt {w : World} {b n : Nat} (h : MapV w b n) : b < w.heap.size := by
  obtain ⟨D, h1, _⟩ := h
  exact h1.lt
theorem MapV.same {w w' : World} {b n : Nat} (h : MapV w b n) (hk : w'.heap[b]? = w.heap[b]?) : MapV w' b n := by
  obtain ⟨D, ⟨es, clock, hb, r⟩, h2⟩ := h
  exact ⟨D, ⟨es, clock, hk.trans hb, r⟩, h2⟩
theorem MapV.below {w w' : World} {b n : Nat} (h : MapV w b n) (q : Below w.heap.size w w') : MapV w' b n := h.same (q.block b h.lt)
theorem zero_val (w : World) : (zeroValue 28).run Tryd.prog w = .ok (.agg #[.int .i64 0, .int .i64 0, .int .u64 0, .string ⟨#[]⟩]) w := by kernel_rfl
theorem keyOf_str {s : ByteArray} (h : s.size ≤ 1000) : keyOf Tryd.prog 9 (.string s) = some (.string s.data.toList) :=
  Go.WideMaps.keyOf_string_mk Tryd.underlying9 (Nat.le_trans h (by decide))
theorem MapV.look {w : World} {b n : Nat} (h : MapV w b n) {v : VV} (hv : v.plain = true) (hr : -9223372036854775808 ≤ v.n ∧ v.n ≤ 9223372036854775807) (hs : (bS v.lv.lit).size ≤ 1000) :
    ∃ (u : VV) (t : Bool), (Instr.lookup 39 (.map (some b)) (.string (bS v.lv.lit)) true).run Tryd.prog w = .ok (.tuple #[.agg #[.int .i64 u.k, .int .i64 u.n, .int .u64 u.u, .string u.s], .bool t]) w ∧ (t = true → u = v) := by
  obtain ⟨D, h1, h2, h3⟩ := h
  obtain ⟨x, ps, hrun, hx⟩ := h1.look_ok str_keyed Tryd.underlying39 (zero_val w) (VE_mk V0) (keyOf_str hs)
  rw [bS_data] at hrun hx
  cases hb : Maps.has D (.string v.lv.lit)
  · rw [Maps.atKey_of_not_has hb] at hx
    rw [hb] at hrun
    exact ⟨V0, false, by rw [hrun, VE_inv hx], fun h => by cases h⟩
  · obtain ⟨u, hu, hur, hul, hat⟩ := h3 _ hb
    rw [hat] at hx
    rw [hb] at hrun
    refine ⟨u, true, by rw [hrun, VE_inv hx], fun _ => ?_⟩
    have h4 := lv_ok hu hur
    have h5 := lv_ok hv hr
    have := lit_inj h4.1 h5.1 hul
    rw [← h4.2, ← h5.2, this]
theorem wpList_putV {ops : Array Oper} {rest : List Oper} {o : Oper} {a : Act} {w : World} {Q : Exit → Act → World → Prop} (hg : o.guard = none) (m x v : Operand) (hop : o.op = Op.mapUpdate 39 m x v)
    (b n : Nat) (y : VV) (hm : a.eval m = .map (some b)) (hx : a.eval x = .string (bS y.lv.lit)) (hv : a.eval v = .agg #[.int .i64 y.k, .int .i64 y.n, .int .u64 y.u, .string y.s]) (hown : MapV w b n) (hn : n < maxLen)
    (hp : y.plain = true) (hr : -9223372036854775808 ≤ y.n ∧ y.n ≤ 9223372036854775807) (hs : (bS y.lv.lit).size ≤ 1000)
    (hK : ∀ w', MapV w' b (n + 1) → w.grownBy w' (some b) → wpList Tryd.prog ops Q rest (a.put o.dst undef) w') : wpList Tryd.prog ops Q (o :: rest) a w := by
  obtain ⟨D, h1, h2, h3⟩ := hown
  have hk := keyOf_str hs
  rw [bS_data] at hk
  refine wpList_mapUpdate_own w hg m x v _ hop _ _ str_keyed Tryd.underlying39 VE b n D hm h1 hn _ _ _ hx hv hk (dv y) [] (VE_mk y) ?_
  intro w' h4 hg
  refine hK w' ⟨_, h4, h2.put _ _, fun l hl => ?_⟩ hg
  by_cases e : l = y.lv.lit
  · subst e
    exact ⟨y, hp, hr, rfl, fun z => Maps.atKey_put_same h2 (str_keyed.key hk) _ _⟩
  · have hne : (Lit.string l) ≠ .string y.lv.lit := fun e' => e (by injection e')
    rw [Maps.has_put_other hne] at hl
    obtain ⟨u, hu, hur, hul, hat⟩ := h3 _ hl
    exact ⟨u, hu, hur, hul, fun z => by rw [Maps.atKey_put_other hne]; exact hat z⟩
theorem lit_len {v : VV} (h : v.plain = true) (hr : -9223372036854775808 ≤ v.n ∧ v.n ≤ 9223372036854775807) : (bS v.lv.lit).size ≤ 100 := by
  rw [← len_data, bS_data]
  rcases plain_cases h with rfl | rfl | rfl | ⟨n, rfl⟩ | ⟨s, hs, rfl⟩
  · decide
  · decide
  · decide
  · have := itoa_len hr.1 hr.2
    exact Nat.le_trans this (by decide)
  · have := quo_lenV s.data.toList
    have h2 := len_data s
    show (39 :: (quoV s.data.toList ++ [39])).length ≤ 100
    simp only [List.length_cons, List.length_append, List.length_nil]
    omega
/-- what is printed is parsed -/
theorem pa_lit {v : VV} (h : v.plain = true) (hr : -9223372036854775808 ≤ v.n ∧ v.n ≤ 9223372036854775807) : paR (bS v.lv.lit) = .returned (.tuple #[.agg #[.int .i64 v.k, .int .i64 v.n, .int .u64 v.u, .string v.s], .int .i64 0]) := by
  obtain ⟨h1, h2⟩ := lv_ok h hr
  rw [paR_some (lit_len h hr) (parse_lit h1), h2]; rfl
end Go.Proofs.YtabbiepafibmmaaDoor
