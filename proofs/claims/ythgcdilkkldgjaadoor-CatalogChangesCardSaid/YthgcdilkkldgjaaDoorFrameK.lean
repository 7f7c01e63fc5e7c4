/- The frame of the catalog's laws: what the tables hold, the first world, the wrap with the world's shape, the arguments. Conditions: none. -/
import Derived.Test.YthgcdilkkldgjaaDoorOpens
import Derived.Test.YthgcdilkkldgjaaDoorShelf
import Derived.Test.YthgcdilkkldgjaaDoorTie
import Derived.LaidMore
import Derived.Lay
import Derived.Handed
import Derived.SevenTiedAt
import Derived.Stop.Joined
import Derived.Stop.LaidErr
import Derived.Lib.LaidCase
import Derived.Lib.LaidU8
import Derived.Deep.Fields
namespace Go.Proofs.YthgcdilkkldgjaaDoor
open Go.ChangeShapes Go.WideShapes Go.ChangeAt Go.RowKit Go.Deep
variable {H : Type} {enc : TypeId × Value → H}
theorem Tryd.own : ownKnob Tryd.prog.godebug = none := by kernel_rfl
theorem Tryd.laidOut : laidOutB Tryd.prog = true := by kernel_rfl
def LD : List (String × DataW Unit) := Rows.catalogTellsRow.laid
theorem wrap_and_shaped {a : Assume} {C : Checked} {os : Os} {f : FuncId} {fn : Func} {s : ChangeSpec} {conds : List PathCond} {apart fresh handsOn again : Bool} {X : World → Array Value → Prop}
    (hX : ∀ (w w' : World) (args : Array Value), w.heap = w'.heap → X w args → X w' args)
    (own : ownKnob C.prog.godebug = none) (started : os.Started) (noInit : C.prog.inits.idxOf? f = none) (hfn : C.prog.funcs[f]? = some fn)
    (witness : ∃ (w : World) (tape : Tape) (i : Input), w.os = os ∧ (w.forCall tape i).Shaped C.prog ∧ i.vars = [] ∧ Input.okWide C.prog (w.forCall tape i) .any w.heap.size f i ∧
      ((s.pre enc C.prog fn conds apart (w.forCall tape i).memory i.args ∧ X (w.forCall tape i).memory i.args) ∧ sizedMet enc C.prog fn (OpenSpec.ofChange s) apart (w.forCall tape i).memory i.args) ∧ a.holds C.prog (lone (Frame.enter C.prog f i.args .normal) [] (w.forCall tape i)))
    (contract : ∀ (W : World) (base : Nat) (args : Array Value) (ds gs : List (DataW H)) (before : List MemPlace),
      (∀ (j : Nat) t v, fn.params[j]? = some t → args[j]? = some v → Value.okWide C.prog W .any base t v) →
      DataW.Whole enc C.prog fn.params.toList s.vars apart W args.toList ds gs before →
      X W args → W.ShapedOpen C.prog →
      Calls C.prog f args W fun e W' => ∃ v, e = .returned v ∧ s.post enc C.prog fn apart fresh handsOn again W args v W') :
    ReturnsInHanded a C os f .any (fun w args => (s.pre enc C.prog fn conds apart w args ∧ X w args) ∧ sizedMet enc C.prog fn (OpenSpec.ofChange s) apart w args) (s.post enc C.prog fn apart fresh handsOn again) := by
  refine returnsInHanded_of_calls own started noInit witness ?_
  intro w tape i _ hsh _ hok hpre _
  obtain ⟨_, _, _, fn', hfn', _, _, _, _, hval⟩ := hok
  have e : fn' = fn := Option.some.inj (hfn'.symm.trans hfn)
  subst e
  obtain ⟨⟨⟨ds, gs, before, hw, _⟩, hx⟩, _⟩ := hpre
  have hw' := DataW.Whole.of_heap (w' := w.forCall tape i) (by rfl) hw
  refine (contract (w.forCall tape i) w.heap.size i.args ds gs before hval hw' (hX _ _ _ (by rfl) hx) hsh).mono fun e W' ⟨v, he, hp⟩ => ?_
  subst he
  exact ChangeSpec.post_blind hp
theorem first_met (os : Os) (args : Array Value) : laidMetH Tryd.prog LD ((World.laidAll Tryd.prog os LD).forCall (fun _ _ => 0) ⟨#[], args, []⟩).memory := by
  rw [MakeChecks.laidMetH_plain _ _ _ (by kernel_rfl)]; exact laidMet_laidAll _ (by kernel_rfl) (by kernel_rfl)
theorem words_data {H : Type} : (Rows.laid_bowsprit_lex_words : DataW H) = .agg (wordsL.map fun s => .lit (.string s.data.toList)) := rfl
theorem at_of1 {cs : List Value} {i : Nat} {v : Value} (h : (cs.drop i).take 1 = [v]) : cs[i]? = some v := by
  have h9 : ((cs.drop i).take 1)[0]? = some v := by rw [h]; rfl
  rw [List.getElem?_take, if_pos (by omega), List.getElem?_drop] at h9
  exact h9
theorem lit_str {s s' : ByteArray} {q q' : List MemPlace} (h : ((DataW.lit (.string s.data.toList) : DataW H), q) = (.lit (.string s'.data.toList), q')) : s' = s := by
  have h1 := (Prod.mk.inj h).1
  injection h1 with h1
  injection h1 with h1
  apply ByteArray.ext
  apply Array.ext'
  exact h1.symm
set_option maxRecDepth 100000 in
theorem words_of {W : World} (h : Lib.VarReads Tryd.prog W "bowsprit/lex.words" Rows.laid_bowsprit_lex_words) : ∀ i s, wordsL[i]? = some s → W.cell? ⟨1, i, none⟩ = some (.string s) := by
  obtain ⟨g, t, cs, fuel, p, hg, ht, hv, hd⟩ := h
  obtain rfl := Option.some.inj ((show Tryd.prog.globalNamed "bowsprit/lex.words" = some 1 by kernel_rfl).symm.trans hg)
  obtain rfl := Option.some.inj ((show (Tryd.prog.globals[1]?).map (·.type) = some 110 by kernel_rfl).symm.trans ht)
  intro i s hi
  rw [words_data] at hd
  have hlt : i < 28 := (List.getElem?_eq_some_iff.1 hi).1
  obtain ⟨f2, d, q, hdi, hdt⟩ := Lib.array_elem Tryd.underlying110 hd i hlt
  have k1 : Tryd.prog.cellsOf 9 = 1 := by kernel_rfl
  rw [k1, Nat.mul_one] at hdt
  rw [List.getElem?_map, hi] at hdi
  obtain rfl := Option.some.inj hdi
  obtain ⟨s', e, hx, _⟩ := DataW.trod_string Tryd.underlying9 hdt
  rw [World.var?_cell hg hv i, ← Array.getElem?_toList, at_of1 e, lit_str hx]
def kindsL : List (ByteArray × Int) := [(sBool, 1), (sInt, 2), (sText, 3)]
theorem kinds_data {H : Type} : (Rows.laid_bowsprit_catalog_kinds : DataW H) = .agg (kindsL.map fun s => .agg [.lit (.string s.1.data.toList), .lit (.int .i64 s.2)]) := rfl
set_option maxRecDepth 100000 in
theorem kinds_of {W : World} (h : Lib.VarReads Tryd.prog W "bowsprit/catalog.kinds" Rows.laid_bowsprit_catalog_kinds) : ∀ i x, kindsL[i]? = some x → W.cell? ⟨0, i * 2, none⟩ = some (.string x.1) ∧ W.cell? ⟨0, i * 2 + 1, none⟩ = some (.int .i64 x.2) := by
  obtain ⟨g, t, cs, fuel, p, hg, ht, hv, hd⟩ := h
  obtain rfl := Option.some.inj ((show Tryd.prog.globalNamed "bowsprit/catalog.kinds" = some 0 by kernel_rfl).symm.trans hg)
  obtain rfl := Option.some.inj ((show (Tryd.prog.globals[0]?).map (·.type) = some 96 by kernel_rfl).symm.trans ht)
  intro i x hi
  rw [kinds_data] at hd
  have hlt : i < 3 := (List.getElem?_eq_some_iff.1 hi).1
  obtain ⟨f2, d, q, hdi, hdt⟩ := Lib.array_elem Tryd.underlying96 hd i hlt
  have k2 : Tryd.prog.cellsOf 95 = 2 := by kernel_rfl
  rw [k2] at hdt
  rw [List.getElem?_map, hi] at hdi
  obtain rfl := Option.some.inj hdi
  obtain ⟨xs, m, _, ex, hcl, hl, hf⟩ := DataW.trod_struct Tryd.underlying95 hdt
  match xs, hl with
  | [x0, x1], _ =>
    have k1 : Tryd.prog.cellsOf 9 = 1 := by kernel_rfl
    have k3 : Tryd.prog.cellsOf 3 = 1 := by kernel_rfl
    have f0 : DataW.trod _ Tryd.prog W 0 _ _ m 9 ((((cs.toList.drop (i * 2)).take 2).drop 0).take (Tryd.prog.cellsOf 9)) = some x0 := hf 0 _ rfl
    rw [k1] at f0
    have f1 : DataW.trod _ Tryd.prog W 0 _ _ m 3 ((((cs.toList.drop (i * 2)).take 2).drop 1).take (Tryd.prog.cellsOf 3)) = some x1 := hf 1 _ rfl
    rw [k3] at f1
    obtain ⟨s0, a0, b0, _⟩ := DataW.trod_string Tryd.underlying9 f0
    obtain ⟨z1, a1, b1, _⟩ := DataW.trod_int Tryd.underlying3 f1
    have e := (Prod.mk.inj ex).1
    simp only [b0, b1, List.map_cons, List.map_nil, DataW.agg.injEq, List.cons.injEq, DataW.lit.injEq, Lit.int.injEq, Lit.string.injEq, true_and, and_true] at e
    obtain ⟨e1, e2⟩ := e
    have h0 := at_of1 a0
    have h1 := at_of1 a1
    rw [List.getElem?_take, if_pos (by omega), List.getElem?_drop] at h0 h1
    have es : s0 = x.1 := by apply ByteArray.ext; apply Array.ext'; exact e1.symm
    exact ⟨by rw [World.var?_cell hg hv, ← Array.getElem?_toList]; exact h0.trans (by rw [es]), by rw [World.var?_cell hg hv, ← Array.getElem?_toList]; exact h1.trans (by rw [e2])⟩
set_option maxRecDepth 100000 in
theorem of_laid {W : World} (h : laidMetH Tryd.prog LD W) (hs : W.ShapedOpen Tryd.prog) : Tab W := by
  rw [MakeChecks.laidMetH_plain _ _ _ (by kernel_rfl)] at h
  have hk := kinds_of (Lib.laidMet.reads h (.tail _ (.tail _ (.head _))))
  have hw := words_of (Lib.laidMet.reads h (.tail _ (.head _)))
  have hc := caseVar_of_reads { Tryd.lays158 with } Tryd.lays158.t206 ⟨by kernel_rfl, by kernel_rfl, by kernel_rfl, by kernel_rfl, by kernel_rfl, by kernel_rfl⟩ (Lib.laidMet.reads h (.tail _ (.tail _ (.tail _ (.head _)))))
  have hu := utf8Tabs_of_reads { Tryd.lays158 with } ⟨by kernel_rfl, by kernel_rfl, by kernel_rfl, by kernel_rfl, by kernel_rfl, by kernel_rfl, by kernel_rfl⟩ (Lib.laidMet.reads h (.tail _ (.tail _ (.tail _ (.tail _ (.head _)))))) (Lib.laidMet.reads h (.head _))
  exact ⟨(hk 0 _ rfl).1, (hk 0 _ rfl).2, (hk 1 _ rfl).1, (hk 1 _ rfl).2, (hk 2 _ rfl).1, (hk 2 _ rfl).2, hw,
    Go.Proofs.cell_of_shapedOpen_int (P := Tryd.prog) (w := W) (g := 2) (zero := #[.int .i64 0]) (t := 3) hs (of_decide_eq_true (by kernel_rfl)) (by kernel_rfl) rfl (by kernel_rfl) (by kernel_rfl) Tryd.underlying3, hc, hu⟩
theorem open_agg {P : Program} {t : TypeId} {fs : Array Field} (ht : P.underlying t = some (.struct fs)) {α : Type} {L : Lay α} {G : α → Prop} (ho : Opens P t L G) {H : Type} {enc : TypeId × Value → H} {W : World} {r : Reach} {base : Nat} {v : Value} {d : DataW H} {p : List MemPlace}
    (hv : Value.okWide P W r base t v) (h : DataW.Trod enc P W 0 (fun _ => true) true t v d p) : ∃ a cs, v = .agg cs ∧ L.rep W AllB a cs.toList ∧ G a := by
  obtain ⟨cs, rfl, _⟩ := okWide_struct ht hv
  obtain ⟨fuel, hf⟩ := h
  obtain ⟨a, ha, g⟩ := ho.2 enc W fuel _ _ hf
  exact ⟨a, cs, rfl, by simpa [Value.cells] using ha, g⟩
theorem opens_col : Opens Tryd.prog 59 LCO (fun _ => True) :=
  opens_as (opens_struct Tryd.underlying59 (by kernel_rfl)
    (opensAt_cons 0 9 (by kernel_rfl) (opens_str Tryd.underlying9 (by kernel_rfl))
      (opensAt_last 1 3 (by kernel_rfl) (opens_int Tryd.underlying3 (by kernel_rfl))))) rfl
    (fun w a cs h g => by
      obtain ⟨s, k⟩ := a
      obtain ⟨_, _, rfl, rfl, rfl⟩ := h
      exact ⟨⟨s, k⟩, rfl, trivial⟩)
set_option maxRecDepth 100000 in
theorem opens_table : Opens Tryd.prog 28 LT3 (fun _ => True) :=
  opens_as (opens_struct Tryd.underlying28 (by kernel_rfl)
    (opensAt_cons 0 9 (by kernel_rfl) (opens_str Tryd.underlying9 (by kernel_rfl))
    (opensAt_cons 1 25 (by kernel_rfl) (opens_slice Tryd.underlying25 (by kernel_rfl) (by decide) opens_col)
      (opensAt_last 2 26 (by kernel_rfl) (opens_slice Tryd.underlying26 (by kernel_rfl) (by decide) (opens_int Tryd.underlying3 (by kernel_rfl))))))) rfl
    (fun w a cs h g => by
      obtain ⟨s, l, ks⟩ := a
      obtain ⟨_, _, rfl, rfl, _, _, rfl, ⟨A, n, c, rfl, h1, h2, hr⟩, B, m, d, rfl, h3, h4, hr2⟩ := h
      exact ⟨⟨s, l, ks⟩, ⟨A, n, c, B, m, d, rfl, h1, h2, hr, h3, h4, hr2⟩, trivial⟩)
theorem opens_tables : Opens Tryd.prog 22 LT3.slice (fun xs => ∀ x ∈ xs, True) := opens_slice Tryd.underlying22 (by kernel_rfl) (by decide) opens_table
theorem opens_cat : Opens Tryd.prog 24 LT3.slice (fun xs => ∀ x ∈ xs, True) := opens_struct Tryd.underlying24 (by kernel_rfl) (opensAt_last 0 22 (by kernel_rfl) opens_tables)
set_option maxRecDepth 100000 in
theorem open_cat {W : World} {r : Reach} {base : Nat} {v : Value} {d : DataW H} {p : List MemPlace} (hv : Value.okWide Tryd.prog W r base 24 v) (h : DataW.Trod enc Tryd.prog W 0 (fun _ => true) true 24 v d p) :
    ∃ (xs : List TC) (A : Option Addr) (n c : Nat), v = .agg #[.slice A n c] ∧ LT3.rd W AllB A n xs ∧ n ≤ c ∧ c ≤ 9223372036854775807 := by
  obtain ⟨xs, cs, rfl, ⟨A, n, c, e, h1, h2, hr⟩, g⟩ := open_agg Tryd.underlying24 opens_cat hv h
  exact ⟨xs, A, n, c, by rw [show cs = #[.slice A n c] from by apply Array.ext'; exact e], hr, h1, h2⟩
set_option maxRecDepth 100000 in
theorem open_table {W : World} {r : Reach} {base : Nat} {v : Value} {d : DataW H} {p : List MemPlace} (hv : Value.okWide Tryd.prog W r base 28 v) (h : DataW.Trod enc Tryd.prog W 0 (fun _ => true) true 28 v d p) :
    ∃ (x : TC) (A : Option Addr) (n c : Nat) (B : Option Addr) (m k : Nat), v = .agg (x.cells A n c B m k) ∧ LCO.rd W AllB A n x.cols ∧ n ≤ c ∧ c ≤ 9223372036854775807 ∧ LK.rd W AllB B m x.keys ∧ m ≤ k ∧ k ≤ 9223372036854775807 := by
  obtain ⟨x, cs, rfl, ⟨A, n, c, B, m, k, e, h1, h2, hr, h3, h4, hr2⟩, g⟩ := open_agg Tryd.underlying28 opens_table hv h
  exact ⟨x, A, n, c, B, m, k, by rw [show cs = x.cells A n c B m k from by apply Array.ext'; exact e], hr, h1, h2, hr2, h3, h4⟩
set_option maxRecDepth 100000 in
theorem open_tables {W : World} {A : Option Addr} {n c : Nat} {d : DataW H} {p : List MemPlace} (h : DataW.Trod enc Tryd.prog W 0 (fun _ => true) true 22 (.slice A n c) d p) :
    ∃ xs, LT3.rd W AllB A n xs ∧ (∀ x ∈ xs, True) ∧ n ≤ c ∧ c ≤ 9223372036854775807 := open_arg opens_tables h
set_option maxRecDepth 100000 in
theorem open_strV {W : World} {r : Reach} {base : Nat} {v : Value} {d : DataW H} {p : List MemPlace} (hv : Value.okWide Tryd.prog W r base 9 v) (h : DataW.Trod enc Tryd.prog W 0 (fun _ => true) true 9 v d p) :
    ∃ s : ByteArray, v = .string s ∧ s.size ≤ maxLen := by
  obtain ⟨s, rfl⟩ := okWide_string Tryd.underlying9 hv
  obtain ⟨fuel, hf⟩ := h
  obtain ⟨n, e, _, wf⟩ := DataW.trod_string Tryd.underlying9 hf
  simp [Value.cells] at e
  subst e
  exact ⟨s, rfl, wf⟩
end Go.Proofs.YthgcdilkkldgjaaDoor
