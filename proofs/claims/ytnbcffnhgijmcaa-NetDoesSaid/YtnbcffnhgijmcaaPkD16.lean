/- Op.wants on a net that is not right. Conditions: the net's slice reads as these parcels. -/
import Derived.Test.YtnbcffnhgijmcaaPkD15
namespace Go.Proofs.Ytnbcffnhgijmcaa
open Go.RowKit
def RSep (w : World) (B : Nat) (T : Told) (A : Option Addr) (m _c : Nat) (D : Option Addr) (n d : Nat) : Prop := LP.rd w (fun b => B ≤ b) A m T.ps ∧ OwnB w B D n d T.p.bs
theorem RSep.below {w w' : World} {B : Nat} {T : Told} {A : Option Addr} {m c : Nat} {D : Option Addr} {n d : Nat} (h : RSep w B T A m c D n d) (q : Below w.heap.size w w') : RSep w' B T A m c D n d := ⟨Lay.rd_below h.1 q, h.2.below q⟩
theorem RSep.kept {w w' : World} {B r : Nat} {T : Told} {A : Option Addr} {m c : Nat} {D : Option Addr} {n d : Nat} (h : RSep w B T A m c D n d) (hg : w.grownBy w' (some r)) (hr : r < B) : RSep w' B T A m c D n d :=
  ⟨Lay.rd_keep (fun b hF hb => hg.block b hb (fun e => by have h9 : B ≤ b := hF; injection e with e; omega)) h.1, h.2.kept hg (fun e => by have := (h.2.base_ r e).1; omega)⟩
theorem RSep.less {w : World} {B B' : Nat} {T : Told} {A : Option Addr} {m c : Nat} {D : Option Addr} {n d : Nat} (h : RSep w B T A m c D n d) (hB : B' ≤ B) : RSep w B' T A m c D n d :=
  ⟨Lay.rd_weak (fun b hb _ => by have h9 : B ≤ b := hb; show B' ≤ b; omega) h.1, h.2.less hB⟩
/-- the document's answer, behind the call's own start -/
def WantC (w : World) (T : Told) (e : Ending) (w' : World) : Prop :=
  ∃ A m c D n d, e = .returned (.agg (tcells T.s A m c T.num T.p D n d T.gone T.e)) ∧ RSep w' w.heap.size T A m c D n d ∧ Below w.heap.size w w'
set_option maxRecDepth 100000 in
set_option maxHeartbeats 16000000 in
theorem want_wrong (o : OpC) (oA : Option Addr) (on oc : Nat) (sent : Int) (A : Option Addr) (m c : Nat) (ps : List PC) (w : World) (hc : chkB sent ps = false) (h : LP.rd w AllB A m ps) (hm : m ≤ 9223372036854775807) :
    Calls Try.prog 23 #[.agg (o.cells oA on oc), .agg #[.int .u64 sent, .slice A m c]] w (WantC w ⟨0, [], 0, zeroPC, 0, 340⟩) := by
  obtain ⟨k, f, t, a, p, ot, y, bs⟩ := o
  have bb := Below.refl w.heap.size w
  have bO := Blk.new w 49 #[.int .i64 k, .int .i64 f, .int .i64 t, .int .i64 a, .int .i64 p, .bool ot, vb y, .slice oA on oc]
  replace bb := bl_al bb (.cells #[.int .i64 k, .int .i64 f, .int .i64 t, .int .i64 a, .int .i64 p, .bool ot, vb y, .slice oA on oc] 49)
  replace bO := bO.ca (bl_al (Below.refl _ _) (.cells #[.int .u64 sent, .slice A m c] 26))
  have bN : Blk ((w.alloc (.cells #[.int .i64 k, .int .i64 f, .int .i64 t, .int .i64 a, .int .i64 p, .bool ot, vb y, .slice oA on oc] 49)).alloc (.cells #[.int .u64 sent, .slice A m c] 26)) (w.heap.size + 1) 26 #[.int .u64 sent, .slice A m c] := Blk.mk' (by simp only [World.size_alloc])
  replace bb := bl_al bb (.cells #[.int .u64 sent, .slice A m c] 26)
  replace bO := bO.ca (bl_al (Below.refl _ _) (.cells #[.int .u64 0, .slice none 0 0, .int .u64 0, .int .u64 0, .int .i64 0, .int .i64 0, .slice none 0 0, .bool false, .int .i64 0, .int .i64 0] 51))
  replace bN := bN.ca (bl_al (Below.refl _ _) (.cells #[.int .u64 0, .slice none 0 0, .int .u64 0, .int .u64 0, .int .i64 0, .int .i64 0, .slice none 0 0, .bool false, .int .i64 0, .int .i64 0] 51))
  have bT : Blk (((w.alloc (.cells #[.int .i64 k, .int .i64 f, .int .i64 t, .int .i64 a, .int .i64 p, .bool ot, vb y, .slice oA on oc] 49)).alloc (.cells #[.int .u64 sent, .slice A m c] 26)).alloc (.cells #[.int .u64 0, .slice none 0 0, .int .u64 0, .int .u64 0, .int .i64 0, .int .i64 0, .slice none 0 0, .bool false, .int .i64 0, .int .i64 0] 51)) (w.heap.size + 2) 51 #[.int .u64 0, .slice none 0 0, .int .u64 0, .int .u64 0, .int .i64 0, .int .i64 0, .slice none 0 0, .bool false, .int .i64 0, .int .i64 0] := Blk.mk' (by simp only [World.size_alloc])
  replace bb := bl_al bb (.cells #[.int .u64 0, .slice none 0 0, .int .u64 0, .int .u64 0, .int .i64 0, .int .i64 0, .slice none 0 0, .bool false, .int .i64 0, .int .i64 0] 51)
  have hsz : w.heap.size + 3 ≤ (((w.alloc (.cells #[.int .i64 k, .int .i64 f, .int .i64 t, .int .i64 a, .int .i64 p, .bool ot, vb y, .slice oA on oc] 49)).alloc (.cells #[.int .u64 sent, .slice A m c] 26)).alloc (.cells #[.int .u64 0, .slice none 0 0, .int .u64 0, .int .u64 0, .int .i64 0, .int .i64 0, .slice none 0 0, .bool false, .int .i64 0, .int .i64 0] 51)).heap.size := by simp only [World.size_alloc]; omega
  have HRT := Lib.hid (right_any sent A m c ps _ (Lay.rd_below h bb) hm)
  rw [hc] at HRT
  clear h hc
  have x0 : (((w.alloc (.cells #[.int .i64 k, .int .i64 f, .int .i64 t, .int .i64 a, .int .i64 p, .bool ot, vb y, .slice oA on oc] 49)).alloc (.cells #[.int .u64 sent, .slice A m c] 26)).alloc (.cells #[.int .u64 0, .slice none 0 0, .int .u64 0, .int .u64 0, .int .i64 0, .int .i64 0, .slice none 0 0, .bool false, .int .i64 0, .int .i64 0] 51)).cell? ⟨w.heap.size + 1, 0, none⟩ = some (.int .u64 sent) := bN.cell 0
  have x1 : (((w.alloc (.cells #[.int .i64 k, .int .i64 f, .int .i64 t, .int .i64 a, .int .i64 p, .bool ot, vb y, .slice oA on oc] 49)).alloc (.cells #[.int .u64 sent, .slice A m c] 26)).alloc (.cells #[.int .u64 0, .slice none 0 0, .int .u64 0, .int .u64 0, .int .i64 0, .int .i64 0, .slice none 0 0, .bool false, .int .i64 0, .int .i64 0] 51)).cell? ⟨w.heap.size + 1, 1, none⟩ = some (.slice A m c) := bN.cell 1
  go_enter Try.func23, Try.ntmps23
  go_wp2_with fail
  generalize (((w.alloc (.cells #[.int .i64 k, .int .i64 f, .int .i64 t, .int .i64 a, .int .i64 p, .bool ot, vb y, .slice oA on oc] 49)).alloc (.cells #[.int .u64 sent, .slice A m c] 26)).alloc (.cells #[.int .u64 0, .slice none 0 0, .int .u64 0, .int .u64 0, .int .i64 0, .int .i64 0, .slice none 0 0, .bool false, .int .i64 0, .int .i64 0] 51)) = w1 at *
  refine HRT.out.mono ?_
  rintro e w5 ⟨rfl, q5⟩
  have hT := bT.ca q5
  have x9 : w5.cell? ⟨w.heap.size + 2, 9, none⟩ = some (.int .i64 0) := hT.cell 9
  have f9 : w5.frozen? ⟨w.heap.size + 2, 9, none⟩ = false := hT.frozen 9
  have HB3 := Lib.hid (show Blk (w5.setCell ⟨w.heap.size + 2, 9, none⟩ (.int .i64 340)) (w.heap.size + 2) 51 #[.int .u64 0, .slice none 0 0, .int .u64 0, .int .u64 0, .int .i64 0, .int .i64 0, .slice none 0 0, .bool false, .int .i64 0, .int .i64 340] from by simpa using hT.set_ 9 (.int .i64 340))
  have g1 : w5.grownBy (w5.setCell ⟨w.heap.size + 2, 9, none⟩ (.int .i64 340)) (some (w.heap.size + 2)) := only_setCell (World.grownBy.refl _ _) (.inl rfl) _
  have HBB := Lib.hid (bl_gr (bl_ca bb q5) g1 (by omega))
  clear bO bN bT bb q5 HRT x0 x1 hT g1
  go_wp2_with (first | (refine wpList_load_blk rfl 51 (.tmp 4) rfl (w.heap.size + 2) rfl 51 #[.int .u64 0, .slice none 0 0, .int .u64 0, .int .u64 0, .int .i64 0, .int .i64 0, .slice none 0 0, .bool false, .int .i64 0, .int .i64 340] _ HB3.out Try.underlying51 rfl toldI ?_) | (refine wpList_store_blk rfl 51 (.tmp 4) (.tmp 9) rfl (w.heap.size + 2) 51 #[.int .u64 0, .slice none 0 0, .int .u64 0, .int .u64 0, .int .i64 0, .int .i64 0, .slice none 0 0, .bool false, .int .i64 0, .int .i64 340] #[.int .u64 0, .slice none 0 0, .int .u64 0, .int .u64 0, .int .i64 0, .int .i64 0, .slice none 0 0, .bool false, .int .i64 0, .int .i64 340] rfl rfl HB3.out rfl toldI (by simp [Value.oneCell']) ?_; intro wz hZ gz))
  exact bodyPost_ret (res1 Try.results23 rfl hZ Try.underlying51 rfl toldI) rfl ⟨none, 0, 0, none, 0, 0, rfl, ⟨Lay.rd_nil none, OwnB.none_ _ _⟩, bl_gr HBB.out gz (by omega)⟩
end Go.Proofs.Ytnbcffnhgijmcaa
