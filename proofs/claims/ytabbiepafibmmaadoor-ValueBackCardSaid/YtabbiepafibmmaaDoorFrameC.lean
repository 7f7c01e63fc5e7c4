/- The frame of a law whose row lists the layer's tables: what the tables hold, the first world, the wrap with the world's shape. Conditions: none. -/
import Derived.Test.YtabbiepafibmmaaDoorFrameV
import Derived.Test.YtabbiepafibmmaaDoorTie
import Derived.LaidMore
import Derived.Lay
import Derived.Handed
import Derived.SevenTiedAt
import Derived.Stop.Joined
import Derived.Stop.LaidErr
namespace Go.Proofs.YtabbiepafibmmaaDoor
open Go.ChangeShapes Go.WideShapes Go.ChangeAt Go.RowKit Go.Deep
variable {H : Type} {enc : TypeId × Value → H}
def LD : List (String × DataW Unit) := Rows.valueTruthsRow.laid
theorem wrap_and_shaped {a : Assume} {C : Checked} {os : Os} {f : FuncId} {fn : Func} {s : ChangeSpec} {conds : List PathCond} {apart fresh handsOn again : Bool} {X : World → Array Value → Prop}
    (hX : ∀ (w w' : World) (args : Array Value), w.heap = w'.heap → X w args → X w' args)
    (own : ownKnob C.prog.godebug = none) (started : os.Started) (noInit : C.prog.inits.idxOf? f = none) (hfn : C.prog.funcs[f]? = some fn)
    (witness : ∃ (w : World) (tape : Tape) (i : Input), w.os = os ∧ (w.forCall tape i).Shaped C.prog ∧ i.vars = [] ∧ Input.okWide C.prog (w.forCall tape i) .any w.heap.size f i ∧
      ((s.pre enc C.prog fn conds apart (w.forCall tape i).memory i.args ∧ X (w.forCall tape i).memory i.args) ∧ sizedMet enc C.prog fn (OpenSpec.ofChange s) apart (w.forCall tape i).memory i.args) ∧ a.holds C.prog (lone (Frame.enter C.prog f i.args .normal) [] (w.forCall tape i)))
    (contract : ∀ (W : World) (base : Nat) (args : Array Value) (ds gs : List (DataW H)) (before : List MemPlace),
      (∀ (j : Nat) t v, fn.params[j]? = some t → args[j]? = some v → Value.okWide C.prog W .any base t v) →
      DataW.Whole enc C.prog fn.params.toList s.vars apart W args.toList ds gs before →
      X W args → W.ShapedOpen C.prog →
      Calls C.prog f args W fun e W' => ∃ v, e = .returned v ∧ s.post enc C.prog fn apart fresh handsOn again W args v W') :
    ReturnsInHanded a C os f .any (fun w args => (s.pre enc C.prog fn conds apart w args ∧ X w args) ∧ sizedMet enc C.prog fn (OpenSpec.ofChange s) apart w args) (s.post enc C.prog fn apart fresh handsOn again) := by
  refine returnsInHanded_of_calls own started noInit witness ?_
  intro w tape i _ hsh _ hok hpre _
  obtain ⟨_, _, _, fn', hfn', _, _, _, _, hval⟩ := hok
  have e : fn' = fn := Option.some.inj (hfn'.symm.trans hfn)
  subst e
  obtain ⟨⟨⟨ds, gs, before, hw, _⟩, hx⟩, _⟩ := hpre
  have hw' := DataW.Whole.of_heap (w' := w.forCall tape i) (by rfl) hw
  refine (contract (w.forCall tape i) w.heap.size i.args ds gs before hval hw' (hX _ _ _ (by rfl) hx) hsh).mono fun e W' ⟨v, he, hp⟩ => ?_
  subst he
  exact ChangeSpec.post_blind hp
theorem first_met (os : Os) (args : Array Value) : laidMetH Tryd.prog LD ((World.laidAll Tryd.prog os LD).forCall (fun _ _ => 0) ⟨#[], args, []⟩).memory := by
  rw [MakeChecks.laidMetH_plain _ _ _ (by kernel_rfl)]; exact laidMet_laidAll _ (by kernel_rfl) (by kernel_rfl)
set_option maxRecDepth 100000 in
theorem trod_val {W : World} {base fuel : Nat} {spare : Nat → Bool} {held : Bool} {cs : List Value} {p : List MemPlace} {k n u : Int} {s : List UInt8}
    (h : DataW.trod enc Tryd.prog W base spare held fuel 28 cs = some (.agg [.lit (.int .i64 k), .lit (.int .i64 n), .lit (.int .u64 u), .lit (.string s)], p)) : cs = [.int .i64 k, .int .i64 n, .int .u64 u, .string ⟨s.toArray⟩] := by
  obtain ⟨xs, m, _, ex, hcl, hl, hf⟩ := DataW.trod_struct Tryd.underlying28 h
  have hc4 : Tryd.prog.cellsOf 28 = 4 := by kernel_rfl
  rw [hc4] at hcl
  match cs, hcl with
  | [a, b, c, d], _ =>
    match xs, hl with
    | [x0, x1, x2, x3], _ =>
      have k1 : Tryd.prog.cellsOf 3 = 1 := by kernel_rfl
      have k2 : Tryd.prog.cellsOf 2 = 1 := by kernel_rfl
      have k3 : Tryd.prog.cellsOf 26 = 1 := by kernel_rfl
      have k4 : Tryd.prog.cellsOf 9 = 1 := by kernel_rfl
      have f0 : DataW.trod enc Tryd.prog W base spare held m 3 (([a, b, c, d].drop 0).take (Tryd.prog.cellsOf 3)) = some x0 := hf 0 _ rfl
      rw [k1] at f0
      have f1 : DataW.trod enc Tryd.prog W base spare held m 2 (([a, b, c, d].drop 1).take (Tryd.prog.cellsOf 2)) = some x1 := hf 1 _ rfl
      rw [k2] at f1
      have f2 : DataW.trod enc Tryd.prog W base spare held m 26 (([a, b, c, d].drop 2).take (Tryd.prog.cellsOf 26)) = some x2 := hf 2 _ rfl
      rw [k3] at f2
      have f3 : DataW.trod enc Tryd.prog W base spare held m 9 (([a, b, c, d].drop 3).take (Tryd.prog.cellsOf 9)) = some x3 := hf 3 _ rfl
      rw [k4] at f3
      obtain ⟨z0, a0, b0, _⟩ := DataW.trod_int Tryd.underlying3 (show DataW.trod _ _ _ _ _ _ _ _ [a] = some x0 from f0)
      obtain ⟨z1, a1, b1, _⟩ := DataW.trod_int Tryd.underlying2 (show DataW.trod _ _ _ _ _ _ _ _ [b] = some x1 from f1)
      obtain ⟨z2, a2, b2, _⟩ := DataW.trod_int Tryd.underlying26 (show DataW.trod _ _ _ _ _ _ _ _ [c] = some x2 from f2)
      obtain ⟨z3, a3, b3, _⟩ := DataW.trod_string Tryd.underlying9 (show DataW.trod _ _ _ _ _ _ _ _ [d] = some x3 from f3)
      have e := (Prod.mk.inj ex).1
      simp only [b0, b1, b2, b3, List.map_cons, List.map_nil, DataW.agg.injEq, List.cons.injEq, DataW.lit.injEq, Lit.int.injEq, Lit.string.injEq, true_and, and_true] at e
      injection a0 with a0
      injection a1 with a1
      injection a2 with a2
      injection a3 with a3
      obtain ⟨e0, e1, e2, e3⟩ := e
      subst a0 a1 a2 a3 e0 e1 e2 e3
      rfl
theorem at_of {cs l : List Value} {i k j : Nat} (h : (cs.drop i).take k = l) (hj : j < k) : cs[i + j]? = l[j]? := by rw [← h, List.getElem?_take, if_pos hj, List.getElem?_drop]
set_option maxRecDepth 100000 in
theorem trod_truths {W : World} {base fuel : Nat} {spare : Nat → Bool} {held : Bool} {cs : List Value} {p : List MemPlace}
    (h : DataW.trod enc Tryd.prog W base spare held fuel 58 cs = some (Rows.laid_bowsprit_value_truths, p)) : cs[0]? = some (.int .i64 1) ∧ cs[1]? = some (.int .i64 0) ∧ cs[2]? = some (.int .u64 0) ∧ cs[3]? = some (.string ⟨#[]⟩) ∧ cs[4]? = some (.int .i64 0) ∧ cs[5]? = some (.int .i64 0) ∧ cs[6]? = some (.int .u64 0) ∧ cs[7]? = some (.string ⟨#[]⟩) ∧ cs[8]? = some (.int .i64 1) ∧ cs[9]? = some (.int .i64 1) ∧ cs[10]? = some (.int .u64 0) ∧ cs[11]? = some (.string ⟨#[]⟩) := by
  obtain ⟨xs, m, _, ex, hcl, hl, hel⟩ := DataW.trod_array Tryd.underlying58 h
  have k4 : Tryd.prog.cellsOf 28 = 4 := by kernel_rfl
  match xs, hl with
  | [(d0, q0), (d1, q1), (d2, q2)], _ =>
    have f0 := hel 0 (by omega)
    have f1 := hel 1 (by omega)
    have f2 := hel 2 (by omega)
    rw [k4] at f0 f1 f2
    have e := (Prod.mk.inj ex).1
    unfold Rows.laid_bowsprit_value_truths at e
    simp only [List.map_cons, List.map_nil, DataW.agg.injEq, List.cons.injEq, and_true] at e
    obtain ⟨rfl, rfl, rfl⟩ := e
    have a0 := trod_val (show DataW.trod _ _ _ _ _ _ _ _ _ = some (_, _) from f0)
    have a1 := trod_val (show DataW.trod _ _ _ _ _ _ _ _ _ = some (_, _) from f1)
    have a2 := trod_val (show DataW.trod _ _ _ _ _ _ _ _ _ = some (_, _) from f2)
    exact ⟨at_of a0 (show 0 < 4 by omega), at_of a0 (show 1 < 4 by omega), at_of a0 (show 2 < 4 by omega), at_of a0 (show 3 < 4 by omega), at_of a1 (show 0 < 4 by omega), at_of a1 (show 1 < 4 by omega), at_of a1 (show 2 < 4 by omega), at_of a1 (show 3 < 4 by omega), at_of a2 (show 0 < 4 by omega), at_of a2 (show 1 < 4 by omega), at_of a2 (show 2 < 4 by omega), at_of a2 (show 3 < 4 by omega)⟩
set_option maxRecDepth 100000 in
theorem trod_words {W : World} {base fuel : Nat} {spare : Nat → Bool} {held : Bool} {cs : List Value} {p : List MemPlace}
    (h : DataW.trod enc Tryd.prog W base spare held fuel 54 cs = some (Rows.laid_bowsprit_value_words, p)) : cs[0]? = some (.string sFalse) ∧ cs[1]? = some (.string sNull) ∧ cs[2]? = some (.string sTrue) := by
  obtain ⟨xs, m, _, ex, hcl, hl, hel⟩ := DataW.trod_array Tryd.underlying54 h
  have k4 : Tryd.prog.cellsOf 9 = 1 := by kernel_rfl
  match xs, hl with
  | [(d0, q0), (d1, q1), (d2, q2)], _ =>
    have f0 := hel 0 (by omega)
    have f1 := hel 1 (by omega)
    have f2 := hel 2 (by omega)
    rw [k4] at f0 f1 f2
    have e := (Prod.mk.inj ex).1
    unfold Rows.laid_bowsprit_value_words at e
    simp only [List.map_cons, List.map_nil, DataW.agg.injEq, List.cons.injEq, and_true] at e
    obtain ⟨rfl, rfl, rfl⟩ := e
    obtain ⟨s0, a0, b0, _⟩ := DataW.trod_string Tryd.underlying9 (show DataW.trod _ _ _ _ _ _ _ _ _ = some (_, _) from f0)
    obtain ⟨s1, a1, b1, _⟩ := DataW.trod_string Tryd.underlying9 (show DataW.trod _ _ _ _ _ _ _ _ _ = some (_, _) from f1)
    obtain ⟨s2, a2, b2, _⟩ := DataW.trod_string Tryd.underlying9 (show DataW.trod _ _ _ _ _ _ _ _ _ = some (_, _) from f2)
    have key : ∀ (s : ByteArray) (l : List UInt8) (q : List MemPlace), ((DataW.lit (.string l) : DataW H), q) = (.lit (.string s.data.toList), []) → s = ⟨l.toArray⟩ := by
      intro s l q h
      have := (Prod.mk.inj h).1
      injection this with this
      injection this with this
      subst this
      rfl
    exact ⟨(at_of a0 (show 0 < 1 by omega)).trans (by rw [key _ _ _ b0]; rfl), (at_of a1 (show 0 < 1 by omega)).trans (by rw [key _ _ _ b1]; rfl), (at_of a2 (show 0 < 1 by omega)).trans (by rw [key _ _ _ b2]; rfl)⟩
theorem errStar : ("*errors.errorString" : String) = "*" ++ "errors.errorString" := by decide
theorem errRow (u : TypeId) (h : Tryd.prog.typeName? 3 u = some "*errors.errorString") : u = 128 :=
  typeName_ptr_named (nm := "errors.errorString") (by rw [← errStar]; kernel_rfl) (by kernel_rfl) (by decide) u (by rw [← errStar]; exact h)
set_option maxRecDepth 100000 in
theorem of_laid {W : World} (h : laidMetH Tryd.prog LD W) (hs : W.ShapedOpen Tryd.prog) : Tab W := by
  rw [MakeChecks.laidMetH_plain _ _ _ (by kernel_rfl)] at h
  obtain ⟨_, _, hes, _⟩ := laid_sentinel h.tail.tail.tail.tail.tail (show Tryd.prog.globalNamed "strconv.ErrSyntax" = some 4 by kernel_rfl) (show (Tryd.prog.globals[4]?).map (·.type) = some 60 by kernel_rfl) Tryd.underlying60 errRow Tryd.underlying128 Tryd.underlying130 rfl rfl Tryd.underlying9 (by kernel_rfl) (by kernel_rfl)
  obtain ⟨ps, hl, _, _⟩ := h
  obtain ⟨g0, t0, cs0, u0, p0, q0, hg0, ht0, hv0, hd0, ⟨g1, t1, cs1, u1, p1, q1, hg1, ht1, hv1, hd1, ⟨g2, t2, cs2, u2, p2, q2, hg2, ht2, hv2, hd2, ⟨g3, t3, cs3, u3, p3, q3, hg3, ht3, hv3, hd3, ⟨g4, t4, cs4, u4, p4, q4, hg4, ht4, hv4, hd4, ⟨g5, t5, cs5, u5, p5, q5, hg5, ht5, hv5, hd5, ⟨g6, t6, cs6, u6, p6, q6, hg6, ht6, hv6, hd6, ⟨g7, t7, cs7, u7, p7, q7, hg7, ht7, hv7, hd7, ⟨g8, t8, cs8, u8, p8, q8, hg8, ht8, hv8, hd8, _, _⟩, _⟩, _⟩, _⟩, _⟩, _⟩, _⟩, _⟩, _⟩ := hl
  obtain rfl := Option.some.inj ((show Tryd.prog.globalNamed "bowsprit/value.truths" = some 1 by kernel_rfl).symm.trans hg6)
  obtain rfl := Option.some.inj ((show (Tryd.prog.globals[1]?).map (·.type) = some 58 by kernel_rfl).symm.trans ht6)
  obtain rfl := Option.some.inj ((show Tryd.prog.globalNamed "bowsprit/value.words" = some 0 by kernel_rfl).symm.trans hg7)
  obtain rfl := Option.some.inj ((show (Tryd.prog.globals[0]?).map (·.type) = some 54 by kernel_rfl).symm.trans ht7)
  obtain ⟨c0, c1, c2, c3, c4, c5, c6, c7, c8, c9, c10, c11⟩ := trod_truths hd6
  obtain ⟨d0, d1, d2⟩ := trod_words hd7
  have cell6 : ∀ j, W.cell? ⟨1, j, none⟩ = cs6.toList[j]? := fun j => by rw [World.var?_cell hg6 hv6 j, Array.getElem?_toList]
  have cell7 : ∀ j, W.cell? ⟨0, j, none⟩ = cs7.toList[j]? := fun j => by rw [World.var?_cell hg7 hv7 j, Array.getElem?_toList]
  obtain ⟨m, hm⟩ := Go.Proofs.cell_of_shapedOpen_int (P := Tryd.prog) (w := W) (g := 2) (zero := #[.int .i64 0]) (t := 3) hs (of_decide_eq_true (by kernel_rfl)) (by kernel_rfl) rfl (by kernel_rfl) (by kernel_rfl) Tryd.underlying3
  have lt_of : ∀ {b o : Nat} {v : Value}, W.cell? ⟨b, o, none⟩ = some v → b < W.heap.size := fun {b o v} h => World.block_lt_of_cell? W ⟨b, o, none⟩ h
  exact ⟨⟨lt_of ((cell6 0).trans c0), (cell6 0).trans c0, (cell6 1).trans c1, (cell6 2).trans c2, (cell6 3).trans c3, (cell6 4).trans c4, (cell6 5).trans c5, (cell6 6).trans c6, (cell6 7).trans c7, (cell6 8).trans c8, (cell6 9).trans c9, (cell6 10).trans c10, (cell6 11).trans c11⟩,
    ⟨lt_of hm, m, hm⟩, ⟨(cell7 0).trans d0, (cell7 1).trans d1, (cell7 2).trans d2⟩, _, _, hes⟩
end Go.Proofs.YtabbiepafibmmaaDoor
