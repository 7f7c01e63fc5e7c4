/- The frame of the catalog's laws: what the tables hold, the first world, the wrap with the world's shape, the arguments. Conditions: none. -/
import Derived.Test.YthgcdilkkldgjaaDoorPkC16
import Derived.Test.YthgcdilkkldgjaaDoorTie
import Derived.LaidMore
import Derived.Lay
import Derived.Handed
import Derived.SevenTiedAt
import Derived.Stop.Joined
import Derived.Stop.LaidErr
import Derived.Lib.LaidCase
import Derived.Lib.LaidU8
import Derived.Deep.Fields
namespace Go.Proofs.YthgcdilkkldgjaaDoor
open Go.ChangeShapes Go.WideShapes Go.ChangeAt Go.RowKit Go.Deep
variable {H : Type} {enc : TypeId × Value → H}
theorem Tryd.own : ownKnob Tryd.prog.godebug = none := by kernel_rfl
theorem Tryd.laidOut : laidOutB Tryd.prog = true := by kernel_rfl
def LD : List (String × DataW Unit) := Rows.catalogTellsRow.laid
theorem wrap_and_shaped {a : Assume} {C : Checked} {os : Os} {f : FuncId} {fn : Func} {s : ChangeSpec} {conds : List PathCond} {apart fresh handsOn again : Bool} {X : World → Array Value → Prop}
    (hX : ∀ (w w' : World) (args : Array Value), w.heap = w'.heap → X w args → X w' args)
    (own : ownKnob C.prog.godebug = none) (started : os.Started) (noInit : C.prog.inits.idxOf? f = none) (hfn : C.prog.funcs[f]? = some fn)
    (witness : ∃ (w : World) (tape : Tape) (i : Input), w.os = os ∧ (w.forCall tape i).Shaped C.prog ∧ i.vars = [] ∧ Input.okWide C.prog (w.forCall tape i) .any w.heap.size f i ∧
      ((s.pre enc C.prog fn conds apart (w.forCall tape i).memory i.args ∧ X (w.forCall tape i).memory i.args) ∧ sizedMet enc C.prog fn (OpenSpec.ofChange s) apart (w.forCall tape i).memory i.args) ∧ a.holds C.prog (lone (Frame.enter C.prog f i.args .normal) [] (w.forCall tape i)))
    (contract : ∀ (W : World) (base : Nat) (args : Array Value) (ds gs : List (DataW H)) (before : List MemPlace),
      (∀ (j : Nat) t v, fn.params[j]? = some t → args[j]? = some v → Value.okWide C.prog W .any base t v) →
      DataW.Whole enc C.prog fn.params.toList s.vars apart W args.toList ds gs before →
      X W args → W.ShapedOpen C.prog →
      Calls C.prog f args W fun e W' => ∃ v, e = .returned v ∧ s.post enc C.prog fn apart fresh handsOn again W args v W') :
    ReturnsInHanded a C os f .any (fun w args => (s.pre enc C.prog fn conds apart w args ∧ X w args) ∧ sizedMet enc C.prog fn (OpenSpec.ofChange s) apart w args) (s.post enc C.prog fn apart fresh handsOn again) := by
  refine returnsInHanded_of_calls own started noInit witness ?_
  intro w tape i _ hsh _ hok hpre _
  obtain ⟨_, _, _, fn', hfn', _, _, _, _, hval⟩ := hok
  have e : fn' = fn := Option.some.inj (hfn'.symm.trans hfn)
  subst e
  obtain ⟨⟨⟨ds, gs, before, hw, _⟩, hx⟩, _⟩ := hpre
  have hw' := DataW.Whole.of_heap (w' := w.forCall tape i) (by rfl) hw
  refine (contract (w.forCall tape i) w.heap.size i.args ds gs before hval hw' (hX _ _ _ (by rfl) hx) hsh).mono fun e W' ⟨v, he, hp⟩ => ?_
  subst he
  exact ChangeSpec.post_blind hp
theorem first_met (os : Os) (args : Array Value) : laidMetH Tryd.prog LD ((World.laidAll Tryd.prog os LD).forCall (fun _ _ => 0) ⟨#[], args, []⟩).memory := by
  rw [MakeChecks.laidMetH_plain _ _ _ (by kernel_rfl)]; exact laidMet_laidAll _ (by kernel_rfl) (by kernel_rfl)
theorem words_data {H : Type} : (Rows.laid_bowsprit_lex_words : DataW H) = .agg (wordsL.map fun s => .lit (.string s.data.toList)) := rfl
theorem at_of1 {cs : List Value} {i : Nat} {v : Value} (h : (cs.drop i).take 1 = [v]) : cs[i]? = some v := by
  have h9 : ((cs.drop i).take 1)[0]? = some v := by rw [h]; rfl
  rw [List.getElem?_take, if_pos (by omega), List.getElem?_drop] at h9
  exact h9
theorem lit_str {s s' : ByteArray} {q q' : List MemPlace} (h : ((DataW.lit (.string s.data.toList) : DataW H), q) = (.lit (.string s'.data.toList), q')) : s' = s := by
  have h1 := (Prod.mk.inj h).1
  injection h1 with h1
  injection h1 with h1
  apply ByteArray.ext
  apply Array.ext'
  exact h1.symm
set_option maxRecDepth 100000 in
theorem words_of {W : World} (h : Lib.VarReads Tryd.prog W "bowsprit/lex.words" Rows.laid_bowsprit_lex_words) : ∀ i s, wordsL[i]? = some s → W.cell? ⟨1, i, none⟩ = some (.string s) := by
  obtain ⟨g, t, cs, fuel, p, hg, ht, hv, hd⟩ := h
  obtain rfl := Option.some.inj ((show Tryd.prog.globalNamed "bowsprit/lex.words" = some 1 by kernel_rfl).symm.trans hg)
  obtain rfl := Option.some.inj ((show (Tryd.prog.globals[1]?).map (·.type) = some 110 by kernel_rfl).symm.trans ht)
  intro i s hi
  rw [words_data] at hd
  have hlt : i < 28 := (List.getElem?_eq_some_iff.1 hi).1
  obtain ⟨f2, d, q, hdi, hdt⟩ := Lib.array_elem Tryd.underlying110 hd i hlt
  have k1 : Tryd.prog.cellsOf 9 = 1 := by kernel_rfl
  rw [k1, Nat.mul_one] at hdt
  rw [List.getElem?_map, hi] at hdi
  obtain rfl := Option.some.inj hdi
  obtain ⟨s', e, hx, _⟩ := DataW.trod_string Tryd.underlying9 hdt
  rw [World.var?_cell hg hv i, ← Array.getElem?_toList, at_of1 e, lit_str hx]
def kindsL : List (ByteArray × Int) := [(sBool, 1), (sInt, 2), (sText, 3)]
theorem kinds_data {H : Type} : (Rows.laid_bowsprit_catalog_kinds : DataW H) = .agg (kindsL.map fun s => .agg [.lit (.string s.1.data.toList), .lit (.int .i64 s.2)]) := rfl
set_option maxRecDepth 100000 in
theorem kinds_of {W : World} (h : Lib.VarReads Tryd.prog W "bowsprit/catalog.kinds" Rows.laid_bowsprit_catalog_kinds) : ∀ i x, kindsL[i]? = some x → W.cell? ⟨0, i * 2, none⟩ = some (.string x.1) ∧ W.cell? ⟨0, i * 2 + 1, none⟩ = some (.int .i64 x.2) := by
  obtain ⟨g, t, cs, fuel, p, hg, ht, hv, hd⟩ := h
  obtain rfl := Option.some.inj ((show Tryd.prog.globalNamed "bowsprit/catalog.kinds" = some 0 by kernel_rfl).symm.trans hg)
  obtain rfl := Option.some.inj ((show (Tryd.prog.globals[0]?).map (·.type) = some 96 by kernel_rfl).symm.trans ht)
  intro i x hi
  rw [kinds_data] at hd
  have hlt : i < 3 := (List.getElem?_eq_some_iff.1 hi).1
  obtain ⟨f2, d, q, hdi, hdt⟩ := Lib.array_elem Tryd.underlying96 hd i hlt
  have k2 : Tryd.prog.cellsOf 95 = 2 := by kernel_rfl
  rw [k2] at hdt
  rw [List.getElem?_map, hi] at hdi
  obtain rfl := Option.some.inj hdi
  obtain ⟨xs, m, _, ex, hcl, hl, hf⟩ := DataW.trod_struct Tryd.underlying95 hdt
  match xs, hl with
  | [x0, x1], _ =>
    have k1 : Tryd.prog.cellsOf 9 = 1 := by kernel_rfl
    have k3 : Tryd.prog.cellsOf 3 = 1 := by kernel_rfl
    have f0 : DataW.trod _ Tryd.prog W 0 _ _ m 9 ((((cs.toList.drop (i * 2)).take 2).drop 0).take (Tryd.prog.cellsOf 9)) = some x0 := hf 0 _ rfl
    rw [k1] at f0
    have f1 : DataW.trod _ Tryd.prog W 0 _ _ m 3 ((((cs.toList.drop (i * 2)).take 2).drop 1).take (Tryd.prog.cellsOf 3)) = some x1 := hf 1 _ rfl
    rw [k3] at f1
    obtain ⟨s0, a0, b0, _⟩ := DataW.trod_string Tryd.underlying9 f0
    obtain ⟨z1, a1, b1, _⟩ := DataW.trod_int Tryd.underlying3 f1
    have e := (Prod.mk.inj ex).1
    simp only [b0, b1, List.map_cons, List.map_nil, DataW.agg.injEq, List.cons.injEq, DataW.lit.injEq, Lit.int.injEq, Lit.string.injEq, true_and, and_true] at e
    obtain ⟨e1, e2⟩ := e
    have h0 := at_of1 a0
    have h1 := at_of1 a1
    rw [List.getElem?_take, if_pos (by omega), List.getElem?_drop] at h0 h1
    have es : s0 = x.1 := by apply ByteArray.ext; apply Array.ext'; exact e1.symm
    exact ⟨by rw [World.var?_cell hg hv, ← Array.getElem?_toList]; exact h0.trans (by rw [es]), by rw [World.var?_cell hg hv, ← Array.getElem?_toList]; exact h1.trans (by rw [e2])⟩
set_option maxRecDepth 100000 in
theorem of_laid {W : World} (h : laidMetH Tryd.prog LD W) (hs : W.ShapedOpen Tryd.prog) : Tab W := by
  rw [MakeChecks.laidMetH_plain _ _ _ (by kernel_rfl)] at h
  have hk := kinds_of (Lib.laidMet.reads h (.tail _ (.tail _ (.head _))))
  have hw := words_of (Lib.laidMet.reads h (.tail _ (.head _)))
  have hc := caseVar_of_reads { Tryd.lays158 with } Tryd.lays158.t206 ⟨by kernel_rfl, by kernel_rfl, by kernel_rfl, by kernel_rfl, by kernel_rfl, by kernel_rfl⟩ (Lib.laidMet.reads h (.tail _ (.tail _ (.tail _ (.head _)))))
  have hu := utf8Tabs_of_reads { Tryd.lays158 with } ⟨by kernel_rfl, by kernel_rfl, by kernel_rfl, by kernel_rfl, by kernel_rfl, by kernel_rfl, by kernel_rfl⟩ (Lib.laidMet.reads h (.tail _ (.tail _ (.tail _ (.tail _ (.head _)))))) (Lib.laidMet.reads h (.head _))
  exact ⟨(hk 0 _ rfl).1, (hk 0 _ rfl).2, (hk 1 _ rfl).1, (hk 1 _ rfl).2, (hk 2 _ rfl).1, (hk 2 _ rfl).2, hw,
    Go.Proofs.cell_of_shapedOpen_int (P := Tryd.prog) (w := W) (g := 2) (zero := #[.int .i64 0]) (t := 3) hs (of_decide_eq_true (by kernel_rfl)) (by kernel_rfl) rfl (by kernel_rfl) (by kernel_rfl) Tryd.underlying3, hc, hu⟩
theorem open_agg {P : Program} {t : TypeId} {fs : Array Field} (ht : P.underlying t = some (.struct fs)) {α : Type} {L : Lay α} {G : α → Prop} (ho : Opens P t L G) {H : Type} {enc : TypeId × Value → H} {W : World} {r : Reach} {base : Nat} {v : Value} {d : DataW H} {p : List MemPlace}
    (hv : Value.okWide P W r base t v) (h : DataW.Trod enc P W 0 (fun _ => true) true t v d p) : ∃ a cs, v = .agg cs ∧ L.rep W AllB a cs.toList ∧ G a := by
  obtain ⟨cs, rfl, _⟩ := okWide_struct ht hv
  obtain ⟨fuel, hf⟩ := h
  obtain ⟨a, ha, g⟩ := ho.2 enc W fuel _ _ hf
  exact ⟨a, cs, rfl, by simpa [Value.cells] using ha, g⟩
theorem opens_col : Opens Tryd.prog 59 LCO (fun _ => True) :=
  opens_as (opens_struct Tryd.underlying59 (by kernel_rfl)
    (opensAt_cons 0 9 (by kernel_rfl) (opens_str Tryd.underlying9 (by kernel_rfl))
      (opensAt_last 1 3 (by kernel_rfl) (opens_int Tryd.underlying3 (by kernel_rfl))))) rfl
    (fun w a cs h g => by
      obtain ⟨s, k⟩ := a
      obtain ⟨_, _, rfl, rfl, rfl⟩ := h
      exact ⟨⟨s, k⟩, rfl, trivial⟩)
set_option maxRecDepth 100000 in
theorem opens_table : Opens Tryd.prog 28 LT3 (fun _ => True) :=
  opens_as (opens_struct Tryd.underlying28 (by kernel_rfl)
    (opensAt_cons 0 9 (by kernel_rfl) (opens_str Tryd.underlying9 (by kernel_rfl))
    (opensAt_cons 1 25 (by kernel_rfl) (opens_slice Tryd.underlying25 (by kernel_rfl) (by decide) opens_col)
      (opensAt_last 2 26 (by kernel_rfl) (opens_slice Tryd.underlying26 (by kernel_rfl) (by decide) (opens_int Tryd.underlying3 (by kernel_rfl))))))) rfl
    (fun w a cs h g => by
      obtain ⟨s, l, ks⟩ := a
      obtain ⟨_, _, rfl, rfl, _, _, rfl, ⟨A, n, c, rfl, h1, h2, hr⟩, B, m, d, rfl, h3, h4, hr2⟩ := h
      exact ⟨⟨s, l, ks⟩, ⟨A, n, c, B, m, d, rfl, h1, h2, hr, h3, h4, hr2⟩, trivial⟩)
theorem opens_tables : Opens Tryd.prog 22 LT3.slice (fun xs => ∀ x ∈ xs, True) := opens_slice Tryd.underlying22 (by kernel_rfl) (by decide) opens_table
theorem opens_cat : Opens Tryd.prog 24 LT3.slice (fun xs => ∀ x ∈ xs, True) := opens_struct Tryd.underlying24 (by kernel_rfl) (opensAt_last 0 22 (by kernel_rfl) opens_tables)
set_option maxRecDepth 100000 in
theorem open_cat {W : World} {r : Reach} {base : Nat} {v : Value} {d : DataW H} {p : List MemPlace} (hv : Value.okWide Tryd.prog W r base 24 v) (h : DataW.Trod enc Tryd.prog W 0 (fun _ => true) true 24 v d p) :
    ∃ (xs : List TC) (A : Option Addr) (n c : Nat), v = .agg #[.slice A n c] ∧ LT3.rd W AllB A n xs ∧ n ≤ c ∧ c ≤ 9223372036854775807 := by
  obtain ⟨xs, cs, rfl, ⟨A, n, c, e, h1, h2, hr⟩, g⟩ := open_agg Tryd.underlying24 opens_cat hv h
  exact ⟨xs, A, n, c, by rw [show cs = #[.slice A n c] from by apply Array.ext'; exact e], hr, h1, h2⟩
set_option maxRecDepth 100000 in
theorem open_table {W : World} {r : Reach} {base : Nat} {v : Value} {d : DataW H} {p : List MemPlace} (hv : Value.okWide Tryd.prog W r base 28 v) (h : DataW.Trod enc Tryd.prog W 0 (fun _ => true) true 28 v d p) :
    ∃ (x : TC) (A : Option Addr) (n c : Nat) (B : Option Addr) (m k : Nat), v = .agg (x.cells A n c B m k) ∧ LCO.rd W AllB A n x.cols ∧ n ≤ c ∧ c ≤ 9223372036854775807 ∧ LK.rd W AllB B m x.keys ∧ m ≤ k ∧ k ≤ 9223372036854775807 := by
  obtain ⟨x, cs, rfl, ⟨A, n, c, B, m, k, e, h1, h2, hr, h3, h4, hr2⟩, g⟩ := open_agg Tryd.underlying28 opens_table hv h
  exact ⟨x, A, n, c, B, m, k, by rw [show cs = x.cells A n c B m k from by apply Array.ext'; exact e], hr, h1, h2, hr2, h3, h4⟩
set_option maxRecDepth 100000 in
theorem open_tables {W : World} {A : Option Addr} {n c : Nat} {d : DataW H} {p : List MemPlace} (h : DataW.Trod enc Tryd.prog W 0 (fun _ => true) true 22 (.slice A n c) d p) :
    ∃ xs, LT3.rd W AllB A n xs ∧ (∀ x ∈ xs, True) ∧ n ≤ c ∧ c ≤ 9223372036854775807 := open_arg opens_tables h
set_option maxRecDepth 100000 in
theorem open_strV {W : World} {r : Reach} {base : Nat} {v : Value} {d : DataW H} {p : List MemPlace} (hv : Value.okWide Tryd.prog W r base 9 v) (h : DataW.Trod enc Tryd.prog W 0 (fun _ => true) true 9 v d p) :
    ∃ s : ByteArray, v = .string s ∧ s.size ≤ maxLen := by
  obtain ⟨s, rfl⟩ := okWide_string Tryd.underlying9 hv
  obtain ⟨fuel, hf⟩ := h
  obtain ⟨n, e, _, wf⟩ := DataW.trod_string Tryd.underlying9 hf
  simp [Value.cells] at e
  subst e
  exact ⟨s, rfl, wf⟩
end Go.Proofs.YthgcdilkkldgjaaDoor
/- The law CatalogBack. Conditions: the slice reads so; what the tables hold. -/
namespace Go.Proofs.YthgcdilkkldgjaaDoor
open Go.RowKit
theorem large_noB {t : TC} (h : largeB t = false) : Sz t ∧ Ln t := by
  unfold largeB at h
  simp only [Bool.or_eq_false_iff, decide_eq_false_iff_not, List.any_eq_false, decide_eq_true_eq] at h
  obtain ⟨h1, h2, h3, h4⟩ := h
  refine ⟨⟨by omega, fun k c hk => ?_⟩, by omega, by omega⟩
  obtain ⟨hlt, e⟩ := List.getElem?_eq_some_iff.1 hk
  have := h4 c (by rw [← e]; exact List.getElem_mem hlt)
  omega
theorem over_noB {l : List TC} (h : overB l = false) : l.length ≤ 20 ∧ ∀ (k : Nat) (t : TC), l[k]? = some t → Sz t ∧ Ln t := by
  unfold overB at h
  simp only [Bool.or_eq_false_iff, decide_eq_false_iff_not, List.any_eq_false] at h
  refine ⟨by omega, fun k t hk => large_noB ?_⟩
  obtain ⟨hlt, e⟩ := List.getElem?_eq_some_iff.1 hk
  have := h.2 t (by rw [← e]; exact List.getElem_mem hlt)
  simpa using this
theorem name_size {s : ByteArray} (h : nameB s = true) : s.size ≤ 16 := by
  unfold nameB at h
  simp only [Bool.and_eq_true, decide_eq_true_eq] at h
  exact h.2.1
theorem cat_sz {l : List TC} (h : catB l = true) : ∀ (k : Nat) (t : TC), l[k]? = some t → Sz t := fun k t hk => by
  have ht := (tabB_iff t).1 (((catB_iff l).1 h).ok k t hk)
  refine ⟨by have := name_size ht.nm; omega, fun j c hc => ?_⟩
  have hb := ht.ok j c hc
  unfold colB at hb
  simp only [Bool.and_eq_true] at hb
  have := name_size hb.1
  omega
/-- what Parse answers on any text -/
theorem parseT_says (s : ByteArray) : (∃ a e, parseT s = ([], a, e) ∧ e ≠ 0) ∨ ∃ ts, parseT s = (ts, 0, 0) ∧ catB ts = true ∧ linesL ts = s.data.toList := by
  by_cases h : s.size ≤ 1000
  · rw [parseT_fT h]
    rcases wrong_fT _ s.data.toList 0 [] (Nat.le_refl _) with h3 | ⟨k, h3, _⟩
    · obtain ⟨ts, h4, h5, h6⟩ := back_fT _ s.data.toList 0 [] (Nat.le_refl _) nil_cat h3
      exact .inr ⟨ts, h4, h5, h6⟩
    · exact .inl ⟨_, _, h3, by decide⟩
  · exact .inl ⟨0, 3, by unfold parseT; rw [if_pos (by omega)], by decide⟩
theorem parseT_lines {ts : List TC} (h : catB ts = true) (hs : (⟨(linesL ts).toArray⟩ : ByteArray).size ≤ 1000) : parseT ⟨(linesL ts).toArray⟩ = (ts, 0, 0) := by
  rw [parseT_fT hs]
  have := lines_fT ts 0 [] h
  simpa using this
set_option maxRecDepth 100000 in
set_option maxHeartbeats 16000000 in
theorem back_law (xs : List TC) (A : Option Addr) (n c : Nat) (s : ByteArray) (w : World) (hx : LT3.rd w AllB A n xs) (hm : n ≤ 9223372036854775807) (hT : Tab w) :
    Calls Tryd.prog 7 #[.agg #[.slice A n c], .string s] w fun e w' => e = .returned (.bool true) ∧ Below w.heap.size w w' := by
  have q1 := bl_al (Below.refl w.heap.size w) (.cells #[.slice A n c] 24)
  have HX1 := Lib.hid (Lay.rd_below hx q1)
  have HT1 := Lib.hid (hT.below q1)
  have HB1 := Lib.hid (Blk.new w 24 #[.slice A n c])
  have HQ1 := Lib.hid q1
  have HLX := Lib.hid (Lay.rd_len hx)
  have hs1 : (w.alloc (.cells #[.slice A n c] 24)).heap.size = w.heap.size + 1 := by simp only [World.size_alloc]
  clear q1 hx hT
  go_enter Tryd.func7, Tryd.ntmps7
  go_wp2_with fail
  generalize w.alloc (.cells #[.slice A n c] 24) = w1 at *
  refine (wakes_any w1 HT1.out).mono ?_
  rintro e w2 ⟨rfl, q2⟩
  have HX2 := Lib.hid (Lay.rd_below HX1.out q2)
  have HT2 := Lib.hid (HT1.out.below q2)
  have HB2 := Lib.hid (HB1.out.ca q2)
  have HQ2 := Lib.hid (bl_ca HQ1.out q2)
  clear q2
  have y0 := HB2.out.cell 0
  go_wp2_with fail
  refine (over_any AllB xs A n c w2 HX2.out hm).mono ?_
  rintro e w3 ⟨rfl, q3⟩
  have HX3 := Lib.hid (Lay.rd_below HX2.out q3)
  have HT3 := Lib.hid (HT2.out.below q3)
  have HB3 := Lib.hid (HB2.out.ca q3)
  have HQ3 := Lib.hid (bl_ca HQ2.out q3)
  clear q3 y0
  cases hov : overB xs
  case true =>
    clear hov
    go_wp2
    go_ret
    exact ⟨rfl, HQ3.out⟩
  have HOV := Lib.hid (over_noB hov)
  clear hov
  by_cases h1 : (5000 : Int) < (s.size : Int)
  · go_wp2
    go_ret
    exact ⟨rfl, HQ3.out⟩
  have y0 := HB3.out.cell 0
  go_wp2_with fail
  refine (print_any AllB xs A n c w3 HX3.out (by have := HLX.out; have := HOV.out.1; omega) HT3.out (fun k t hk => (HOV.out.2 k t hk).1)).mono ?_
  rintro e w4 ⟨rfl, q4⟩
  have HX4 := Lib.hid (Lay.rd_below HX3.out q4)
  have HT4 := Lib.hid (HT3.out.below q4)
  have HB4 := Lib.hid (HB3.out.ca q4)
  have HQ4 := Lib.hid (bl_ca HQ3.out q4)
  clear q4 y0
  cases hc : catB xs
  case false =>
    rw [show eC false = 210 from rfl]
    clear hc
    generalize prS xs = PS
    go_wp2_with fail
    refine (parse_any s w4 HT4.out).mono ?_
    rintro e v5 ⟨A3, n3, c3, rfl, hr3, hn3, hc3, p5⟩
    have hs5 := p5.size
    have PT5 := Lib.hid (HT4.out.below p5)
    have PQ5 := Lib.hid (bl_ca HQ4.out p5)
    have p6 := bl_al (Below.refl v5.heap.size v5) (.cells #[.slice A3 n3 c3] 24)
    have PT6 := Lib.hid (PT5.out.below p6)
    have PQ6 := Lib.hid (bl_ca PQ5.out p6)
    have PB6 := Lib.hid (Blk.new v5 24 #[.slice A3 n3 c3])
    have PR6 := Lib.hid (Lay.rd_below hr3 p6)
    have z0 := PB6.out.cell 0
    clear p5 p6 hr3
    rcases parseT_says s with ⟨a, e, hE, hne⟩ | ⟨ts, hE, hcb, hl⟩
    · rw [hE] at PR6 ⊢
      obtain rfl : n3 = 0 := (Lay.rd_len PR6.out).symm
      clear hE
      have hne1 : ¬ (e = 0) := hne
      go_wp2
      go_ret
      exact ⟨rfl, PQ6.out⟩
    · rw [hE] at PR6 ⊢
      clear hE
      have HTS := Lib.hid hcb
      have HLL := Lib.hid hl
      have hn4 : n3 ≤ 4 := by rw [← Lay.rd_len PR6.out]; exact ((catB_iff ts).1 hcb).hi
      clear hcb hl
      go_wp2_with fail
      generalize v5.alloc (.cells #[.slice A3 n3 c3] 24) = v6 at *
      refine (print_any _ ts A3 n3 c3 v6 PR6.out (by omega) PT6.out (cat_sz HTS.out)).mono ?_
      rintro e v7 ⟨rfl, p7⟩
      have PQ7 := Lib.hid (bl_ca PQ6.out p7)
      clear p7 z0
      have e1 : prS ts = s := by
        unfold prS
        rw [if_pos HTS.out, HLL.out]
      rw [e1, HTS.out, show eC true = 0 from rfl]
      clear e1
      go_wp2
      go_ret
      exact ⟨rfl, PQ7.out⟩
  rw [show eC true = 0 from rfl]
  by_cases hle : ((prS xs).size : Int) ≤ 1000
  · have hP : parseT (prS xs) = (xs, 0, 0) := by
      have e1 : prS xs = ⟨(linesL xs).toArray⟩ := by unfold prS; rw [if_pos hc]
      rw [e1] at hle ⊢
      exact parseT_lines hc (by omega)
    have HP := Lib.hid hP
    clear hP hc
    generalize prS xs = PS at *
    go_wp2_with fail
    refine (parse_any _ w4 HT4.out).mono ?_
    rintro e w5 ⟨A2, n2, c2, rfl, hr2, hn2, hc2, q5⟩
    rw [HP.out] at hr2 ⊢
    have HT5 := Lib.hid (HT4.out.below q5)
    have HQ5 := Lib.hid (bl_ca HQ4.out q5)
    have HX5 := Lib.hid (Lay.rd_below HX4.out q5)
    have HB5 := Lib.hid (HB4.out.ca q5)
    have hs5 := q5.size
    have hs4 := HQ4.out.size
    have q6 := bl_al (Below.refl w5.heap.size w5) (.cells #[.slice A2 n2 c2] 24)
    have HT6 := Lib.hid (HT5.out.below q6)
    have HQ6 := Lib.hid (bl_ca HQ5.out q6)
    have HX6 := Lib.hid (Lay.rd_below HX5.out q6)
    have HO6 := Lib.hid (Lay.rd_below hr2 q6)
    have HB6 := Lib.hid (HB5.out.ca q6)
    have HN6 := Lib.hid (Blk.new w5 24 #[.slice A2 n2 c2])
    have HN2 := Lib.hid (show n2 ≤ 9223372036854775807 from Nat.le_trans hn2 hc2)
    clear q5 q6 hr2 hn2 hc2 HX5 HB5
    have y0 := HB6.out.cell 0
    have y1 := HN6.out.cell 0
    go_wp2_with fail
    generalize w5.alloc (.cells #[.slice A2 n2 c2] 24) = w6 at *
    refine (same_any _ AllB xs xs A2 n2 c2 A n c w6 HO6.out HX6.out HN2.out).mono ?_
    rintro e w7 ⟨rfl, q7⟩
    rw [decide_eq_true (p := xs = xs) rfl]
    have HT7 := Lib.hid (HT6.out.below q7)
    have HQ7 := Lib.hid (bl_ca HQ6.out q7)
    clear q7 y0 y1
    go_wp2_with fail
    refine (parse_any s w7 HT7.out).mono ?_
    rintro e v5 ⟨A3, n3, c3, rfl, hr3, hn3, hc3, p5⟩
    have hs5 := p5.size
    have PT5 := Lib.hid (HT7.out.below p5)
    have PQ5 := Lib.hid (bl_ca HQ7.out p5)
    have p6 := bl_al (Below.refl v5.heap.size v5) (.cells #[.slice A3 n3 c3] 24)
    have PT6 := Lib.hid (PT5.out.below p6)
    have PQ6 := Lib.hid (bl_ca PQ5.out p6)
    have PB6 := Lib.hid (Blk.new v5 24 #[.slice A3 n3 c3])
    have PR6 := Lib.hid (Lay.rd_below hr3 p6)
    have z0 := PB6.out.cell 0
    clear p5 p6 hr3
    rcases parseT_says s with ⟨a, e, hE, hne⟩ | ⟨ts, hE, hcb, hl⟩
    · rw [hE] at PR6 ⊢
      obtain rfl : n3 = 0 := (Lay.rd_len PR6.out).symm
      clear hE
      have hne1 : ¬ (e = 0) := hne
      go_wp2
      go_ret
      exact ⟨rfl, PQ6.out⟩
    · rw [hE] at PR6 ⊢
      clear hE
      have HTS := Lib.hid hcb
      have HLL := Lib.hid hl
      have hn4 : n3 ≤ 4 := by rw [← Lay.rd_len PR6.out]; exact ((catB_iff ts).1 hcb).hi
      clear hcb hl
      go_wp2_with fail
      generalize v5.alloc (.cells #[.slice A3 n3 c3] 24) = v6 at *
      refine (print_any _ ts A3 n3 c3 v6 PR6.out (by omega) PT6.out (cat_sz HTS.out)).mono ?_
      rintro e v7 ⟨rfl, p7⟩
      have PQ7 := Lib.hid (bl_ca PQ6.out p7)
      clear p7 z0
      have e1 : prS ts = s := by
        unfold prS
        rw [if_pos HTS.out, HLL.out]
      rw [e1, HTS.out, show eC true = 0 from rfl]
      clear e1
      go_wp2
      go_ret
      exact ⟨rfl, PQ7.out⟩
  · clear hc
    generalize prS xs = PS at *
    go_wp2_with fail
    refine (parse_any s w4 HT4.out).mono ?_
    rintro e v5 ⟨A3, n3, c3, rfl, hr3, hn3, hc3, p5⟩
    have hs5 := p5.size
    have PT5 := Lib.hid (HT4.out.below p5)
    have PQ5 := Lib.hid (bl_ca HQ4.out p5)
    have p6 := bl_al (Below.refl v5.heap.size v5) (.cells #[.slice A3 n3 c3] 24)
    have PT6 := Lib.hid (PT5.out.below p6)
    have PQ6 := Lib.hid (bl_ca PQ5.out p6)
    have PB6 := Lib.hid (Blk.new v5 24 #[.slice A3 n3 c3])
    have PR6 := Lib.hid (Lay.rd_below hr3 p6)
    have z0 := PB6.out.cell 0
    clear p5 p6 hr3
    rcases parseT_says s with ⟨a, e, hE, hne⟩ | ⟨ts, hE, hcb, hl⟩
    · rw [hE] at PR6 ⊢
      obtain rfl : n3 = 0 := (Lay.rd_len PR6.out).symm
      clear hE
      have hne1 : ¬ (e = 0) := hne
      go_wp2
      go_ret
      exact ⟨rfl, PQ6.out⟩
    · rw [hE] at PR6 ⊢
      clear hE
      have HTS := Lib.hid hcb
      have HLL := Lib.hid hl
      have hn4 : n3 ≤ 4 := by rw [← Lay.rd_len PR6.out]; exact ((catB_iff ts).1 hcb).hi
      clear hcb hl
      go_wp2_with fail
      generalize v5.alloc (.cells #[.slice A3 n3 c3] 24) = v6 at *
      refine (print_any _ ts A3 n3 c3 v6 PR6.out (by omega) PT6.out (cat_sz HTS.out)).mono ?_
      rintro e v7 ⟨rfl, p7⟩
      have PQ7 := Lib.hid (bl_ca PQ6.out p7)
      clear p7 z0
      have e1 : prS ts = s := by
        unfold prS
        rw [if_pos HTS.out, HLL.out]
      rw [e1, HTS.out, show eC true = 0 from rfl]
      clear e1
      go_wp2
      go_ret
      exact ⟨rfl, PQ7.out⟩
theorem back_walk (xs : List TC) (A : Option Addr) (m c : Nat) (s : ByteArray) (W : World) (r0 : LT3.rd W AllB A m xs) (h0 : m ≤ c) (k0 : c ≤ 9223372036854775807) (_ : s.size ≤ maxLen) (hT : Tab W) :
    Calls Tryd.prog 7 #[.agg #[.slice A m c], .string s] W fun e w' => e = .returned (.bool true) ∧ Below W.heap.size W w' := back_law xs A m c s W r0 (Nat.le_trans h0 k0) hT
end Go.Proofs.YthgcdilkkldgjaaDoor
