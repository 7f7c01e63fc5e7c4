/- More words on variables of several cells. Conditions: none. -/
import Derived.Test.YtabbiepafibmmaaDoorBlks
namespace Go.Proofs.YtabbiepafibmmaaDoor
open Go.RowKit
theorem Blk.mk' {w : World} {t : TypeId} {cs : Array Value} {g : Nat} (hg : g = w.heap.size) : Blk (w.alloc (.cells cs t)) g t cs := hg ▸ Blk.new w t cs
theorem Blk.ca {w w' : World} {g : Nat} {t : TypeId} {cs : Array Value} (h : Blk w g t cs) (q : Below w.heap.size w w') : Blk w' g t cs := h.below q h.lt
theorem vS {w : World} {g : Nat} {t : TypeId} {k n u : Int} {s : ByteArray} (h : Blk w g t #[.int .i64 k, .int .i64 n, .int .u64 u, .string s]) :
    w.cell? ⟨g, 0, none⟩ = some (.int .i64 k) ∧ w.cell? ⟨g, 1, none⟩ = some (.int .i64 n) ∧ w.cell? ⟨g, 2, none⟩ = some (.int .u64 u) ∧ w.cell? ⟨g, 3, none⟩ = some (.string s) := ⟨h.cell 0, h.cell 1, h.cell 2, h.cell 3⟩
end Go.Proofs.YtabbiepafibmmaaDoor
