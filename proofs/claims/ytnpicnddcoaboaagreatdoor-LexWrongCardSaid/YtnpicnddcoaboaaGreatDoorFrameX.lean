/- The frame of the token layer's laws: what the tables hold, the first world, the wrap with the world's shape, the arguments. Conditions: none. -/
import Derived.Test.YtnpicnddcoaboaaGreatDoorOpens
import Derived.Test.YtnpicnddcoaboaaGreatDoorShelf
import Derived.Test.YtnpicnddcoaboaaGreatDoorTie
import Derived.LaidMore
import Derived.Lay
import Derived.Handed
import Derived.SevenTiedAt
import Derived.Stop.Joined
import Derived.Stop.LaidErr
import Derived.Lib.LaidCase
import Derived.Lib.LaidU8
import Derived.Deep.Fields
import Derived.Lib.LaidTab
namespace Go.Proofs.YtnpicnddcoaboaaGreatDoor
open Go.ChangeShapes Go.WideShapes Go.ChangeAt Go.RowKit Go.Deep
variable {H : Type} {enc : TypeId × Value → H}
theorem Tryz.own : ownKnob Tryz.prog.godebug = none := by kernel_rfl
theorem Tryz.laidOut : laidOutB Tryz.prog = true := by kernel_rfl
def LD : List (String × DataW Unit) := [("math/bits.deBruijn32tab", Rows.laid_math_bits_deBruijn32tab), ("math/bits.deBruijn64tab", Rows.laid_math_bits_deBruijn64tab), ("internal/strconv.uint64pow10", Rows.laid_internal_strconv_uint64pow10), ("unicode/utf8.acceptRanges", Rows.laid_unicode_utf8_acceptRanges), ("strconv.ErrRange", Rows.laid_strconv_ErrRange), ("strconv.ErrSyntax", Rows.laid_strconv_ErrSyntax), ("bowsprit/lex.words", Rows.laid_bowsprit_lex_words), ("bowsprit/lex.signs", Rows.laid_bowsprit_lex_signs), ("unicode.CaseRanges", Rows.laid_unicode_CaseRanges), ("unicode/utf8.first", Rows.laid_unicode_utf8_first)]
theorem wrap_and_shaped {a : Assume} {C : Checked} {os : Os} {f : FuncId} {fn : Func} {s : ChangeSpec} {conds : List PathCond} {apart fresh handsOn again : Bool} {X : World → Array Value → Prop}
    (hX : ∀ (w w' : World) (args : Array Value), w.heap = w'.heap → X w args → X w' args)
    (own : ownKnob C.prog.godebug = none) (started : os.Started) (noInit : C.prog.inits.idxOf? f = none) (hfn : C.prog.funcs[f]? = some fn)
    (witness : ∃ (w : World) (tape : Tape) (i : Input), w.os = os ∧ (w.forCall tape i).Shaped C.prog ∧ i.vars = [] ∧ Input.okWide C.prog (w.forCall tape i) .any w.heap.size f i ∧
      ((s.pre enc C.prog fn conds apart (w.forCall tape i).memory i.args ∧ X (w.forCall tape i).memory i.args) ∧ sizedMet enc C.prog fn (OpenSpec.ofChange s) apart (w.forCall tape i).memory i.args) ∧ a.holds C.prog (lone (Frame.enter C.prog f i.args .normal) [] (w.forCall tape i)))
    (contract : ∀ (W : World) (base : Nat) (args : Array Value) (ds gs : List (DataW H)) (before : List MemPlace),
      (∀ (j : Nat) t v, fn.params[j]? = some t → args[j]? = some v → Value.okWide C.prog W .any base t v) →
      DataW.Whole enc C.prog fn.params.toList s.vars apart W args.toList ds gs before →
      X W args → W.ShapedOpen C.prog →
      Calls C.prog f args W fun e W' => ∃ v, e = .returned v ∧ s.post enc C.prog fn apart fresh handsOn again W args v W') :
    ReturnsInHanded a C os f .any (fun w args => (s.pre enc C.prog fn conds apart w args ∧ X w args) ∧ sizedMet enc C.prog fn (OpenSpec.ofChange s) apart w args) (s.post enc C.prog fn apart fresh handsOn again) := by
  refine returnsInHanded_of_calls own started noInit witness ?_
  intro w tape i _ hsh _ hok hpre _
  obtain ⟨_, _, _, fn', hfn', _, _, _, _, hval⟩ := hok
  have e : fn' = fn := Option.some.inj (hfn'.symm.trans hfn)
  subst e
  obtain ⟨⟨⟨ds, gs, before, hw, _⟩, hx⟩, _⟩ := hpre
  have hw' := DataW.Whole.of_heap (w' := w.forCall tape i) (by rfl) hw
  refine (contract (w.forCall tape i) w.heap.size i.args ds gs before hval hw' (hX _ _ _ (by rfl) hx) hsh).mono fun e W' ⟨v, he, hp⟩ => ?_
  subst he
  exact ChangeSpec.post_blind hp
theorem first_met (os : Os) (args : Array Value) : laidMetH Tryz.prog LD ((World.laidAll Tryz.prog os LD).forCall (fun _ _ => 0) ⟨#[], args, []⟩).memory := by
  rw [MakeChecks.laidMetH_plain _ _ _ (by kernel_rfl)]; exact laidMet_laidAll _ (by kernel_rfl) (by kernel_rfl)
theorem words_data {H : Type} : (Rows.laid_bowsprit_lex_words : DataW H) = .agg (wordsL.map fun s => .lit (.string s.data.toList)) := rfl
theorem signs_data {H : Type} : (Rows.laid_bowsprit_lex_signs : DataW H) = .agg (signsU.map fun s => .lit (.string (bS s).data.toList)) := rfl
theorem at_of1 {cs : List Value} {i : Nat} {v : Value} (h : (cs.drop i).take 1 = [v]) : cs[i]? = some v := by
  have h9 : ((cs.drop i).take 1)[0]? = some v := by rw [h]; rfl
  rw [List.getElem?_take, if_pos (by omega), List.getElem?_drop] at h9
  exact h9
theorem lit_str {s s' : ByteArray} {q q' : List MemPlace} (h : ((DataW.lit (.string s.data.toList) : DataW H), q) = (.lit (.string s'.data.toList), q')) : s' = s := by
  have h1 := (Prod.mk.inj h).1
  injection h1 with h1
  injection h1 with h1
  apply ByteArray.ext
  apply Array.ext'
  exact h1.symm
set_option maxRecDepth 100000 in
theorem words_of {W : World} (h : Lib.VarReads Tryz.prog W "bowsprit/lex.words" Rows.laid_bowsprit_lex_words) : ∀ i s, wordsL[i]? = some s → W.cell? ⟨1, i, none⟩ = some (.string s) := by
  obtain ⟨g, t, cs, fuel, p, hg, ht, hv, hd⟩ := h
  obtain rfl := Option.some.inj ((show Tryz.prog.globalNamed "bowsprit/lex.words" = some 1 by kernel_rfl).symm.trans hg)
  obtain rfl := Option.some.inj ((show (Tryz.prog.globals[1]?).map (·.type) = some 86 by kernel_rfl).symm.trans ht)
  intro i s hi
  rw [words_data] at hd
  have hlt : i < 28 := (List.getElem?_eq_some_iff.1 hi).1
  obtain ⟨f2, d, q, hdi, hdt⟩ := Lib.array_elem Tryz.underlying86 hd i hlt
  have k1 : Tryz.prog.cellsOf 9 = 1 := by kernel_rfl
  rw [k1, Nat.mul_one] at hdt
  rw [List.getElem?_map, hi] at hdi
  obtain rfl := Option.some.inj hdi
  obtain ⟨s', e, hx, _⟩ := DataW.trod_string Tryz.underlying9 hdt
  rw [World.var?_cell hg hv i, ← Array.getElem?_toList, at_of1 e, lit_str hx]
set_option maxRecDepth 100000 in
theorem signs_of {W : World} (h : Lib.VarReads Tryz.prog W "bowsprit/lex.signs" Rows.laid_bowsprit_lex_signs) : ∀ i s, signsU[i]? = some s → W.cell? ⟨0, i, none⟩ = some (.string (bS s)) := by
  obtain ⟨g, t, cs, fuel, p, hg, ht, hv, hd⟩ := h
  obtain rfl := Option.some.inj ((show Tryz.prog.globalNamed "bowsprit/lex.signs" = some 0 by kernel_rfl).symm.trans hg)
  obtain rfl := Option.some.inj ((show (Tryz.prog.globals[0]?).map (·.type) = some 72 by kernel_rfl).symm.trans ht)
  intro i s hi
  rw [signs_data] at hd
  have hlt : i < 14 := (List.getElem?_eq_some_iff.1 hi).1
  obtain ⟨f2, d, q, hdi, hdt⟩ := Lib.array_elem Tryz.underlying72 hd i hlt
  have k1 : Tryz.prog.cellsOf 9 = 1 := by kernel_rfl
  rw [k1, Nat.mul_one] at hdt
  rw [List.getElem?_map, hi] at hdi
  obtain rfl := Option.some.inj hdi
  obtain ⟨s', e, hx, _⟩ := DataW.trod_string Tryz.underlying9 hdt
  rw [World.var?_cell hg hv i, ← Array.getElem?_toList, at_of1 e, lit_str (s := bS s) hx]
theorem errStar : ("*errors.errorString" : String) = "*" ++ "errors.errorString" := by decide
theorem errRow (u : TypeId) (h : Tryz.prog.typeName? 3 u = some "*errors.errorString") : u = 141 :=
  typeName_ptr_named (nm := "errors.errorString") (by rw [← errStar]; kernel_rfl) (by kernel_rfl) (by decide) u (by rw [← errStar]; exact h)
theorem pow_data : (Rows.laid_internal_strconv_uint64pow10 : DataW Unit) = Lib.tabData .u64 Lib.pow10Tab := rfl
set_option maxRecDepth 100000 in
theorem of_laid {W : World} (h : laidMetH Tryz.prog LD W) (hs : W.ShapedOpen Tryz.prog) : Tab W := by
  rw [MakeChecks.laidMetH_plain _ _ _ (by kernel_rfl)] at h
  have hw := words_of (Lib.laidMet.reads h (.tail _ (.tail _ (.tail _ (.tail _ (.tail _ (.tail _ (.head _))))))))
  have hg := signs_of (Lib.laidMet.reads h (.tail _ (.tail _ (.tail _ (.tail _ (.tail _ (.tail _ (.tail _ (.head _)))))))))
  have hc := caseVar_of_reads { Tryz.lays158 with } Tryz.lays158.t206 ⟨by kernel_rfl, by kernel_rfl, by kernel_rfl, by kernel_rfl, by kernel_rfl, by kernel_rfl⟩ (Lib.laidMet.reads h (.tail _ (.tail _ (.tail _ (.tail _ (.tail _ (.tail _ (.tail _ (.tail _ (.head _))))))))))
  have hu := utf8Tabs_of_reads { Tryz.lays158 with } ⟨by kernel_rfl, by kernel_rfl, by kernel_rfl, by kernel_rfl, by kernel_rfl, by kernel_rfl, by kernel_rfl⟩ (Lib.laidMet.reads h (.tail _ (.tail _ (.tail _ (.tail _ (.tail _ (.tail _ (.tail _ (.tail _ (.tail _ (.head _))))))))))) (Lib.laidMet.reads h (.tail _ (.tail _ (.tail _ (.head _)))))
  obtain ⟨pe, _, hes, _⟩ := laid_sentinel h.tail.tail.tail.tail (show Tryz.prog.globalNamed "strconv.ErrRange" = some 8 by kernel_rfl) (show (Tryz.prog.globals[8]?).map (·.type) = some 57 by kernel_rfl) Tryz.underlying57 errRow Tryz.underlying141 Tryz.underlying143 rfl rfl Tryz.underlying9 (by kernel_rfl) (by kernel_rfl)
  have hp : Lib.TabIs Tryz.prog W "internal/strconv.uint64pow10" .u64 Lib.pow10Tab := Lib.tabIs_of_head (show Tryz.prog.globalNamed "internal/strconv.uint64pow10" = some 6 by kernel_rfl) (show (Tryz.prog.globals[6]?).map (·.type) = some 120 by kernel_rfl) Tryz.underlying120 Tryz.underlying27 (by kernel_rfl) (by kernel_rfl) (pow_data ▸ h.tail.tail)
  exact ⟨hw, hg,
    Go.Proofs.cell_of_shapedOpen_int (P := Tryz.prog) (w := W) (g := 3) (zero := #[.int .i64 0]) (t := 3) hs (of_decide_eq_true (by kernel_rfl)) (by kernel_rfl) rfl (by kernel_rfl) (by kernel_rfl) Tryz.underlying3,
    hc, hu, hp, _, _, World.var?_cell (show Tryz.prog.globalNamed "strconv.ErrRange" = some 8 by kernel_rfl) hes 0⟩
theorem u64_wf {n : Int} (h : (Lit.int .u64 n).wf = true) : 0 ≤ n ∧ n < 18446744073709551616 := by
  have h9 : (decide (IntKind.min .u64 ≤ n) && decide (n ≤ IntKind.max .u64)) = true := h
  rw [Bool.and_eq_true, decide_eq_true_iff, decide_eq_true_iff] at h9
  have e1 : IntKind.min .u64 = 0 := by decide
  have e2 : IntKind.max .u64 = 18446744073709551615 := by decide
  omega
set_option maxRecDepth 100000 in
theorem opens_token : Opens Tryz.prog 29 LT (fun t => t.n < 18446744073709551616) :=
  opens_as (opens_struct Tryz.underlying29 (by kernel_rfl)
    (opensAt_cons 0 3 (by kernel_rfl) (opens_int Tryz.underlying3 (by kernel_rfl))
    (opensAt_cons 1 3 (by kernel_rfl) (opens_int Tryz.underlying3 (by kernel_rfl))
    (opensAt_cons 2 9 (by kernel_rfl) (opens_str Tryz.underlying9 (by kernel_rfl))
      (opensAt_last 3 27 (by kernel_rfl) (opens_int Tryz.underlying27 (by kernel_rfl))))))) rfl
    (fun w a cs h g => by
      obtain ⟨k, p, s, n⟩ := a
      obtain ⟨_, _, rfl, rfl, _, _, rfl, rfl, _, _, rfl, rfl, rfl⟩ := h
      obtain ⟨h0, h1⟩ : 0 ≤ n ∧ n < 18446744073709551616 := u64_wf g.2.2.2
      refine ⟨⟨k, p, s.data.toList, n.toNat⟩, ?_, by show n.toNat < _; omega⟩
      have e : ((n.toNat : Nat) : Int) = n := by omega
      show _ = [Value.int .i64 k, .int .i64 p, .string (bS s.data.toList), .int .u64 ((n.toNat : Nat) : Int)]
      rw [e]
      rfl)
set_option maxRecDepth 100000 in
theorem open_tokens {W : World} {A : Option Addr} {n c : Nat} {d : DataW H} {p : List MemPlace} (h : DataW.Trod enc Tryz.prog W 0 (fun _ => true) true 23 (.slice A n c) d p) :
    ∃ xs, LT.rd W AllB A n xs ∧ (∀ x ∈ xs, x.n < 18446744073709551616) ∧ n ≤ c ∧ c ≤ 9223372036854775807 := open_arg (opens_slice Tryz.underlying23 (by kernel_rfl) (by decide) opens_token) h
set_option maxRecDepth 100000 in
theorem open_strV {W : World} {r : Reach} {base : Nat} {v : Value} {d : DataW H} {p : List MemPlace} (hv : Value.okWide Tryz.prog W r base 9 v) (h : DataW.Trod enc Tryz.prog W 0 (fun _ => true) true 9 v d p) :
    ∃ s : ByteArray, v = .string s ∧ s.size ≤ maxLen := by
  obtain ⟨s, rfl⟩ := okWide_string Tryz.underlying9 hv
  obtain ⟨fuel, hf⟩ := h
  obtain ⟨n, e, _, wf⟩ := DataW.trod_string Tryz.underlying9 hf
  simp [Value.cells] at e
  subst e
  exact ⟨s, rfl, wf⟩
end Go.Proofs.YtnpicnddcoaboaaGreatDoor
