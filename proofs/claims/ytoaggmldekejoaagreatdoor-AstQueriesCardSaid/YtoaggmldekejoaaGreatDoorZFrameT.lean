/- The frame of the layer of trees's laws: what the tables hold, the first world, the wrap with the world's shape, the arguments. Conditions: none. -/
import Derived.Test.YtoaggmldekejoaaGreatDoorPkQ26
import Derived.Test.YtoaggmldekejoaaGreatDoorTie
import Derived.LaidMore
import Derived.Lay
import Derived.Handed
import Derived.SevenTiedAt
import Derived.Stop.Joined
import Derived.Stop.LaidErr
import Derived.Lib.LaidCase
import Derived.Lib.LaidU8
import Derived.Deep.Fields
import Derived.Lib.LaidTab
namespace Go.Proofs.YtoaggmldekejoaaGreatDoor
open Go.ChangeShapes Go.WideShapes Go.ChangeAt Go.RowKit Go.Deep
variable {H : Type} {enc : TypeId × Value → H}
theorem Tryz.own : ownKnob Tryz.prog.godebug = none := by kernel_rfl
theorem Tryz.laidOut : laidOutB Tryz.prog = true := by kernel_rfl
def LD : List (String × DataW Unit) := [("math/bits.deBruijn32tab", Rows.laid_math_bits_deBruijn32tab), ("math/bits.deBruijn64tab", Rows.laid_math_bits_deBruijn64tab), ("internal/strconv.uint64pow10", Rows.laid_internal_strconv_uint64pow10), ("unicode/utf8.acceptRanges", Rows.laid_unicode_utf8_acceptRanges), ("bowsprit/lex.words", Rows.laid_bowsprit_lex_words), ("bowsprit/value.words", Rows.laid_bowsprit_value_words), ("bowsprit/ast.signs", Rows.laid_bowsprit_ast_signs), ("unicode.CaseRanges", Rows.laid_unicode_CaseRanges), ("unicode/utf8.first", Rows.laid_unicode_utf8_first)]
theorem wrap_and_shaped {a : Assume} {C : Checked} {os : Os} {f : FuncId} {fn : Func} {s : ChangeSpec} {conds : List PathCond} {apart fresh handsOn again : Bool} {X : World → Array Value → Prop}
 (hX : ∀ (w w' : World) (args : Array Value), w.heap = w'.heap → X w args → X w' args)
 (own : ownKnob C.prog.godebug = none) (started : os.Started) (noInit : C.prog.inits.idxOf? f = none) (hfn : C.prog.funcs[f]? = some fn)
 (witness : ∃ (w : World) (tape : Tape) (i : Input), w.os = os ∧ (w.forCall tape i).Shaped C.prog ∧ i.vars = [] ∧ Input.okWide C.prog (w.forCall tape i) .any w.heap.size f i ∧
  ((s.pre enc C.prog fn conds apart (w.forCall tape i).memory i.args ∧ X (w.forCall tape i).memory i.args) ∧ sizedMet enc C.prog fn (OpenSpec.ofChange s) apart (w.forCall tape i).memory i.args) ∧ a.holds C.prog (lone (Frame.enter C.prog f i.args .normal) [] (w.forCall tape i)))
 (contract : ∀ (W : World) (base : Nat) (args : Array Value) (ds gs : List (DataW H)) (before : List MemPlace),
  (∀ (j : Nat) t v, fn.params[j]? = some t → args[j]? = some v → Value.okWide C.prog W .any base t v) →
  DataW.Whole enc C.prog fn.params.toList s.vars apart W args.toList ds gs before →
  X W args → W.ShapedOpen C.prog →
  Calls C.prog f args W fun e W' => ∃ v, e = .returned v ∧ s.post enc C.prog fn apart fresh handsOn again W args v W') :
 ReturnsInHanded a C os f .any (fun w args => (s.pre enc C.prog fn conds apart w args ∧ X w args) ∧ sizedMet enc C.prog fn (OpenSpec.ofChange s) apart w args) (s.post enc C.prog fn apart fresh handsOn again) := by
 refine returnsInHanded_of_calls own started noInit witness ?_
 intro w tape i _ hsh _ hok hpre _
 obtain ⟨_, _, _, fn', hfn', _, _, _, _, hval⟩ := hok
 have e : fn' = fn := Option.some.inj (hfn'.symm.trans hfn)
 subst e
 obtain ⟨⟨⟨ds, gs, before, hw, _⟩, hx⟩, _⟩ := hpre
 have hw' := DataW.Whole.of_heap (w' := w.forCall tape i) (by rfl) hw
 refine (contract (w.forCall tape i) w.heap.size i.args ds gs before hval hw' (hX _ _ _ (by rfl) hx) hsh).mono fun e W' ⟨v, he, hp⟩ => ?_
 subst he
 exact ChangeSpec.post_blind hp
theorem first_met (os : Os) (args : Array Value) : laidMetH Tryz.prog LD ((World.laidAll Tryz.prog os LD).forCall (fun _ _ => 0) ⟨#[], args, []⟩).memory := by
 rw [MakeChecks.laidMetH_plain _ _ _ (by kernel_rfl)]; exact laidMet_laidAll _ (by kernel_rfl) (by kernel_rfl)
theorem words_data {H : Type} : (Rows.laid_bowsprit_lex_words : DataW H) = .agg (wordsL.map fun s => .lit (.string s.data.toList)) := rfl
theorem vwords_data {H : Type} : (Rows.laid_bowsprit_value_words : DataW H) = .agg (vwords.map fun s => .lit (.string (bS s).data.toList)) := rfl
theorem asigns_data {H : Type} : (Rows.laid_bowsprit_ast_signs : DataW H) = .agg (asigns.map fun s => .lit (.string (bS s).data.toList)) := rfl
theorem at_of1 {cs : List Value} {i : Nat} {v : Value} (h : (cs.drop i).take 1 = [v]) : cs[i]? = some v := by
 have h9 : ((cs.drop i).take 1)[0]? = some v := by rw [h]; rfl
 rw [List.getElem?_take, if_pos (by omega), List.getElem?_drop] at h9
 exact h9
theorem lit_str {s s' : ByteArray} {q q' : List MemPlace} (h : ((DataW.lit (.string s.data.toList) : DataW H), q) = (.lit (.string s'.data.toList), q')) : s' = s := by
 have h1 := (Prod.mk.inj h).1
 injection h1 with h1
 injection h1 with h1
 apply ByteArray.ext
 apply Array.ext'
 exact h1.symm
set_option maxRecDepth 100000 in
theorem words_of {W : World} (h : Lib.VarReads Tryz.prog W "bowsprit/lex.words" Rows.laid_bowsprit_lex_words) : ∀ i s, wordsL[i]? = some s → W.cell? ⟨2, i, none⟩ = some (.string s) := by
 obtain ⟨g, t, cs, fuel, p, hg, ht, hv, hd⟩ := h
 obtain rfl := Option.some.inj ((show Tryz.prog.globalNamed "bowsprit/lex.words" = some 2 by kernel_rfl).symm.trans hg)
 obtain rfl := Option.some.inj ((show (Tryz.prog.globals[2]?).map (·.type) = some 148 by kernel_rfl).symm.trans ht)
 intro i s hi
 rw [words_data] at hd
 have hlt : i < 28 := (List.getElem?_eq_some_iff.1 hi).1
 obtain ⟨f2, d, q, hdi, hdt⟩ := Lib.array_elem Tryz.underlying148 hd i hlt
 have k1 : Tryz.prog.cellsOf 9 = 1 := by kernel_rfl
 rw [k1, Nat.mul_one] at hdt
 rw [List.getElem?_map, hi] at hdi
 obtain rfl := Option.some.inj hdi
 obtain ⟨s', e, hx, _⟩ := DataW.trod_string Tryz.underlying9 hdt
 rw [World.var?_cell hg hv i, ← Array.getElem?_toList, at_of1 e, lit_str hx]
set_option maxRecDepth 100000 in
theorem vwords_of {W : World} (h : Lib.VarReads Tryz.prog W "bowsprit/value.words" Rows.laid_bowsprit_value_words) : ∀ i s, vwords[i]? = some s → W.cell? ⟨1, i, none⟩ = some (.string (bS s)) := by
 obtain ⟨g, t, cs, fuel, p, hg, ht, hv, hd⟩ := h
 obtain rfl := Option.some.inj ((show Tryz.prog.globalNamed "bowsprit/value.words" = some 1 by kernel_rfl).symm.trans hg)
 obtain rfl := Option.some.inj ((show (Tryz.prog.globals[1]?).map (·.type) = some 146 by kernel_rfl).symm.trans ht)
 intro i s hi
 rw [vwords_data] at hd
 have hlt : i < 3 := (List.getElem?_eq_some_iff.1 hi).1
 obtain ⟨f2, d, q, hdi, hdt⟩ := Lib.array_elem Tryz.underlying146 hd i hlt
 have k1 : Tryz.prog.cellsOf 9 = 1 := by kernel_rfl
 rw [k1, Nat.mul_one] at hdt
 rw [List.getElem?_map, hi] at hdi
 obtain rfl := Option.some.inj hdi
 obtain ⟨s', e, hx, _⟩ := DataW.trod_string Tryz.underlying9 hdt
 rw [World.var?_cell hg hv i, ← Array.getElem?_toList, at_of1 e, lit_str (s := bS s) hx]
set_option maxRecDepth 100000 in
theorem asigns_of {W : World} (h : Lib.VarReads Tryz.prog W "bowsprit/ast.signs" Rows.laid_bowsprit_ast_signs) : ∀ i s, asigns[i]? = some s → W.cell? ⟨0, i, none⟩ = some (.string (bS s)) := by
 obtain ⟨g, t, cs, fuel, p, hg, ht, hv, hd⟩ := h
 obtain rfl := Option.some.inj ((show Tryz.prog.globalNamed "bowsprit/ast.signs" = some 0 by kernel_rfl).symm.trans hg)
 obtain rfl := Option.some.inj ((show (Tryz.prog.globals[0]?).map (·.type) = some 118 by kernel_rfl).symm.trans ht)
 intro i s hi
 rw [asigns_data] at hd
 have hlt : i < 24 := (List.getElem?_eq_some_iff.1 hi).1
 obtain ⟨f2, d, q, hdi, hdt⟩ := Lib.array_elem Tryz.underlying118 hd i hlt
 have k1 : Tryz.prog.cellsOf 9 = 1 := by kernel_rfl
 rw [k1, Nat.mul_one] at hdt
 rw [List.getElem?_map, hi] at hdi
 obtain rfl := Option.some.inj hdi
 obtain ⟨s', e, hx, _⟩ := DataW.trod_string Tryz.underlying9 hdt
 rw [World.var?_cell hg hv i, ← Array.getElem?_toList, at_of1 e, lit_str (s := bS s) hx]
theorem pow_data : (Rows.laid_internal_strconv_uint64pow10 : DataW Unit) = Lib.tabData .u64 Lib.pow10Tab := rfl
set_option maxRecDepth 100000 in
theorem of_laid {W : World} (h : laidMetH Tryz.prog LD W) (hs : W.ShapedOpen Tryz.prog) : Tab W := by
 rw [MakeChecks.laidMetH_plain _ _ _ (by kernel_rfl)] at h
 have hw := words_of (Lib.laidMet.reads h (.tail _ (.tail _ (.tail _ (.tail _ (.head _))))))
 have hv := vwords_of (Lib.laidMet.reads h (.tail _ (.tail _ (.tail _ (.tail _ (.tail _ (.head _)))))))
 have hg := asigns_of (Lib.laidMet.reads h (.tail _ (.tail _ (.tail _ (.tail _ (.tail _ (.tail _ (.head _))))))))
 have hc := caseVar_of_reads { Tryz.lays158 with } Tryz.lays158.t206 ⟨by kernel_rfl, by kernel_rfl, by kernel_rfl, by kernel_rfl, by kernel_rfl, by kernel_rfl⟩ (Lib.laidMet.reads h (.tail _ (.tail _ (.tail _ (.tail _ (.tail _ (.tail _ (.tail _ (.head _)))))))))
 have hu := utf8Tabs_of_reads { Tryz.lays158 with } ⟨by kernel_rfl, by kernel_rfl, by kernel_rfl, by kernel_rfl, by kernel_rfl, by kernel_rfl, by kernel_rfl⟩ (Lib.laidMet.reads h (.tail _ (.tail _ (.tail _ (.tail _ (.tail _ (.tail _ (.tail _ (.tail _ (.head _)))))))))) (Lib.laidMet.reads h (.tail _ (.tail _ (.tail _ (.head _)))))
 have hp : Lib.TabIs Tryz.prog W "internal/strconv.uint64pow10" .u64 Lib.pow10Tab := Lib.tabIs_of_head (show Tryz.prog.globalNamed "internal/strconv.uint64pow10" = some 4 by kernel_rfl) (show (Tryz.prog.globals[4]?).map (·.type) = some 180 by kernel_rfl) Tryz.underlying180 Tryz.underlying53 (by kernel_rfl) (by kernel_rfl) (pow_data ▸ h.tail.tail)
 exact ⟨hw, hv, hg, Go.Proofs.cell_of_shapedOpen_int (P := Tryz.prog) (w := W) (g := 5) (zero := #[.int .i64 0]) (t := 3) hs (of_decide_eq_true (by kernel_rfl)) (by kernel_rfl) rfl (by kernel_rfl) (by kernel_rfl) Tryz.underlying3, hc, hu, hp⟩
theorem i64_wf {n : Int} (h : (Lit.int .i64 n).wf = true) : -9223372036854775808 ≤ n ∧ n ≤ 9223372036854775807 := by
 have h9 : (decide (IntKind.min .i64 ≤ n) && decide (n ≤ IntKind.max .i64)) = true := h
 rw [Bool.and_eq_true, decide_eq_true_iff, decide_eq_true_iff] at h9
 have e1 : IntKind.min .i64 = -9223372036854775808 := by decide
 have e2 : IntKind.max .i64 = 9223372036854775807 := by decide
 omega
theorem opens_value : Opens Tryz.prog 55 (Lay.pair (Lay.cell (Value.int .i64) (fun _ => rfl)) (Lay.pair (Lay.cell (Value.int .i64) (fun _ => rfl)) (Lay.pair (Lay.cell (Value.int .u64) (fun _ => rfl)) (Lay.cell Value.string (fun _ => rfl))))) (fun p => (Lit.int .i64 p.1).wf = true ∧ ((Lit.int .i64 p.2.1).wf = true ∧ ((Lit.int .u64 p.2.2.1).wf = true ∧ p.2.2.2.size ≤ maxLen))) := opens_struct (P := Tryz.prog) Tryz.underlying55 (by kernel_rfl)
 (opensAt_cons 0 3 (by kernel_rfl) (opens_int Tryz.underlying3 (by kernel_rfl))
 (opensAt_cons 1 2 (by kernel_rfl) (opens_int Tryz.underlying2 (by kernel_rfl))
 (opensAt_cons 2 53 (by kernel_rfl) (opens_int Tryz.underlying53 (by kernel_rfl))
  (opensAt_last 3 9 (by kernel_rfl) (opens_str Tryz.underlying9 (by kernel_rfl))))))
set_option maxRecDepth 100000 in
theorem opens_node : Opens Tryz.prog 57 LN (fun x => SmP x.p ∧ RgP x.p) :=
 opens_as (opens_struct Tryz.underlying57 (by kernel_rfl)
  (opensAt_cons 0 3 (by kernel_rfl) (opens_int Tryz.underlying3 (by kernel_rfl))
  (opensAt_cons 1 3 (by kernel_rfl) (opens_int Tryz.underlying3 (by kernel_rfl))
  (opensAt_cons 2 3 (by kernel_rfl) (opens_int Tryz.underlying3 (by kernel_rfl))
  (opensAt_cons 3 55 (by kernel_rfl) opens_value
  (opensAt_cons 4 9 (by kernel_rfl) (opens_str Tryz.underlying9 (by kernel_rfl))
   (opensAt_last 5 9 (by kernel_rfl) (opens_str Tryz.underlying9 (by kernel_rfl))))))))) rfl
  (fun w a cs h g => by
   obtain ⟨tg, l, r, ⟨k, n, u, s⟩, tb, nm⟩ := a
   obtain ⟨_, _, rfl, rfl, _, _, rfl, rfl, _, _, rfl, rfl, _, _, rfl, ⟨_, _, rfl, rfl, _, _, rfl, rfl, _, _, rfl, rfl, rfl⟩, _, _, rfl, rfl, rfl⟩ := h
   obtain ⟨_, _, _, ⟨_, hn, _, hs⟩, ht, hm⟩ := g
   exact ⟨⟨⟨tg, k, n, u, s, tb, nm⟩, l, r⟩, rfl, ⟨hs, ht, hm⟩, (i64_wf hn).2⟩)
theorem opens_tree : Opens Tryz.prog 26 LN.slice (fun xs => ∀ x ∈ xs, SmP x.p ∧ RgP x.p) := opens_struct Tryz.underlying26 (by kernel_rfl) (opensAt_last 0 24 (by kernel_rfl) (opens_slice Tryz.underlying24 (by kernel_rfl) (by decide) opens_node))
end Go.Proofs.YtoaggmldekejoaaGreatDoor
