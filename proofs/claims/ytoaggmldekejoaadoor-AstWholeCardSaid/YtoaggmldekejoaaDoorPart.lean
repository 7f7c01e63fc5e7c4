/- A part of a whole variable is stored. Conditions: none. -/
import Derived.Test.YtoaggmldekejoaaDoorPs
namespace Go.Proofs.YtoaggmldekejoaaDoor
open Go.RowKit
def splice (cs : Array Value) (o : Nat) (vs : List Value) : Array Value := (cs.toList.take o ++ vs ++ cs.toList.drop (o + vs.length)).toArray
theorem blk_setMid {g : Nat} {t : TypeId} : ∀ (vs : List Value) (o : Nat) (w : World) (cs : List Value), Blk w g t cs.toArray → o + vs.length ≤ cs.length → Blk (w.setCells g o vs) g t (cs.take o ++ vs ++ cs.drop (o + vs.length)).toArray
  | [], o, w, cs, h, _ => by rw [World.setCells]; simpa using h
  | v :: vs, o, w, cs, h, hl => by
    rw [World.setCells]
    simp only [List.length_cons] at hl
    have h1 := h.set_ o v
    rw [List.setIfInBounds_toArray] at h1
    have h2 := blk_setMid vs (o + 1) _ _ h1 (by rw [List.length_set]; omega)
    have e : (cs.set o v).take (o + 1) ++ vs ++ (cs.set o v).drop (o + 1 + vs.length) = cs.take o ++ v :: vs ++ cs.drop (o + (v :: vs).length) := by
      rw [List.take_add_one, List.take_set, List.set_eq_of_length_le (by rw [List.length_take]; omega), List.getElem?_set_self (by omega), List.drop_set_of_lt (by omega)]
      simp only [Option.toList, List.length_cons, List.append_assoc, List.cons_append]
      rw [show o + 1 + vs.length = o + (vs.length + 1) from by omega]
      rfl
    rw [e] at h2
    exact h2
theorem there_mid {w : World} {g : Nat} {t : TypeId} {cs : Array Value} (h : Blk w g t cs) {o n : Nat} (hl : o + n ≤ cs.size) : w.there g o n := fun j hj => by
  have := there_blk h (o + j) (by omega)
  rwa [Nat.zero_add] at this
section
variable {P : Program}
theorem wpList_store_part {ops : Array Oper} {rest : List Oper} {op : Oper} {a : Act} {w : World} {Q : Exit → Act → World → Prop} (hgd : op.guard = none) (ty : TypeId) (x y : Operand) (ho : op.op = .store ty x y)
    (g o : Nat) (t : TypeId) (cs new cs' : Array Value) (hx : a.eval x = .pointer (some ⟨g, o, none⟩)) (hy : a.eval y = .agg new) (hb : Blk w g t cs) (hs : o + new.size ≤ cs.size) (hi : (P.info? ty).map (·.size) = some new.size) (h1 : new.all (·.oneCell') = true) (hc : splice cs o new.toList = cs')
    (h : ∀ w', Blk w' g t cs' → w.grownBy w' (some g) → wpList P ops Q rest (a.put op.dst undef) w') : wpList P ops Q (op :: rest) a w :=
  wpList_store_mid hgd ty x y ho g o new hx hy (there_mid hb hs) hi h1 (h _ (by rw [← hc]; exact blk_setMid new.toList o w cs.toList (by simpa using hb) (by simpa using hs)) (grown_setCells _ _ _ (World.grownBy.refl w _)))
theorem exec_store_part {o : Oper} {a : Act} {w : World} (ty : TypeId) (x y : Operand) (ho : o.op = .store ty x y) (g k : Nat) (t : TypeId) (cs new cs' : Array Value) (hx : a.eval x = .pointer (some ⟨g, k, none⟩)) (hy : a.eval y = .agg new) (hb : Blk w g t cs) (hs : k + new.size ≤ cs.size)
    (hi : (P.info? ty).map (·.size) = some new.size) (h1 : new.all (·.oneCell') = true) (hc : splice cs k new.toList = cs') : ∃ w', (execOp a.eval o).run P w = .ok .skip w' ∧ Blk w' g t cs' ∧ w.grownBy w' (some g) := by
  refine ⟨w.setCells g k new.toList, ?_, ?_, grown_setCells _ _ _ (World.grownBy.refl w _)⟩
  · unfold execOp
    simp only [ho, hx, hy, Instr.storeAt, Instr.sureAddr, Sem.run_bind, Sem.run_pure, Result.andThen_ok, run_storeVar_mid w g k ty new (there_mid hb hs) hi h1]
  · rw [← hc]; exact blk_setMid new.toList k w cs.toList (by simpa using hb) (by simpa using hs)
end
end Go.Proofs.YtoaggmldekejoaaDoor
