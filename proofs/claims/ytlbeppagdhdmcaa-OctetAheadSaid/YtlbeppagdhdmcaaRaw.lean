/- (*Reader).Raw: the next bytes, in new memory. Conditions: the reader lies at a block of its own. -/
import Derived.Test.YtlbeppagdhdmcaaRead
namespace Go.Proofs.Ytlbeppagdhdmcaa
open Go.RowKit
theorem OwnB.belowB {w w' : World} {A : Option Addr} {B B' n c : Nat} {bs : List UInt8} (h : OwnB w B A n c bs) (hb : Below B' w w') (hg : ∀ g, (Value.slice A n c).ownBlock = some g → g < B') : OwnB w' B A n c bs := by
  refine ⟨h.1, ?_⟩
  rcases h.2 with h2 | ⟨g, cap, cur, e, hB, hh, r⟩
  · exact .inl h2
  · refine .inr ⟨g, cap, cur, e, hB, (hb.block g (hg g ?_)).trans hh, r⟩
    injection e with e1; subst e1; simp [Value.ownBlock]
theorem Rdr.belowB {w w' : World} {R : Nat} {O : Option Addr} {n c : Nat} {bs : List UInt8} {p : Nat} {why : Int} {B : Nat} (h : Rdr w R O n c bs p why) (hb : Below B w w') (hR : R < B) (hg : ∀ g, (Value.slice O n c).ownBlock = some g → g < B) : Rdr w' R O n c bs p why :=
  ⟨h.blk.below hb hR, h.own.belowB hb hg, h.le, h.lim⟩
theorem grownBy_below {a w w' : World} {row : Option Nat} {B : Nat} (h : a.grownBy w row) (hb : Below B w w') (hB : a.heap.size ≤ B) : a.grownBy w' row :=
  ⟨hb.os.trans h.os, hb.tape.trans h.tape, hb.output.trans h.output, Nat.le_trans h.size hb.size, fun i hi hn => (hb.block i (Nat.lt_of_lt_of_le hi hB)).trans (h.block i hi hn)⟩
end Go.Proofs.Ytlbeppagdhdmcaa
