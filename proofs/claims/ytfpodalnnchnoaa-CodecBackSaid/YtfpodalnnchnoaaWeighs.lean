/- (*Reader).weighs: what the next bytes weigh together. Conditions: the reader lies at a block of its own. -/
import Derived.Test.YtfpodalnnchnoaaReader
import Derived.Shelf.Abstract
namespace Go.Proofs.Ytfpodalnnchnoaa
open Go.RowKit
/-- what bytes weigh together -/
def val (l : List UInt8) : Nat := l.foldl (fun a c => a * 256 + c.toNat) 0
def M64 : Nat := 18446744073709551616
def wv (l : List UInt8) : Nat := val l % M64
theorem val_snoc (l : List UInt8) (c : UInt8) : val (l ++ [c]) = val l * 256 + c.toNat := by simp [val]
theorem wv_lt (l : List UInt8) : wv l < M64 := Nat.mod_lt _ (by decide)
theorem wrap_u64_nat (m : Nat) : IntKind.u64.wrap (m : Int) = ((m % M64 : Nat) : Int) := by
  simp [IntKind.wrap, IntKind.bits, IntKind.signed, M64]
theorem wv_snoc (l : List UInt8) (c : UInt8) : IntKind.u64.wrap (IntKind.u64.wrap ((wv l : Int) * 256) + IntKind.u64.wrap (c.toNat : Int)) = ((wv (l ++ [c]) : Nat) : Int) := by
  have h1 : ((wv l : Int) * 256) = ((wv l * 256 : Nat) : Int) := by simp
  rw [h1, wrap_u64_nat, wrap_u64_nat, ← Int.natCast_add, wrap_u64_nat]
  congr 1
  unfold wv
  rw [val_snoc]
  unfold M64
  omega
set_option maxHeartbeats 1000000 in
theorem weighs1_any (l : List UInt8) (b : UInt8) (X : Nat) (w : World) (h : Blk w X 22 #[.int .u64 (wv l : Nat)]) :
    Calls Try.prog 56 #[vb b, .pointer (some ⟨X, 0, none⟩)] w fun e w' => e = .returned (.tuple #[]) ∧ w' = w.setCell ⟨X, 0, none⟩ (.int .u64 (wv (l ++ [b]) : Nat)) := by
  have h0 : w.cell? ⟨X, 0, none⟩ = some (.int .u64 (wv l : Nat)) := h.cell 0
  have hf : w.frozen? ⟨X, 0, none⟩ = false := h.frozen 0
  have HW := Lib.hid (wv_snoc l b)
  generalize wv l = x at *
  clear h
  unfold vb
  go_enter Try.func56, Try.ntmps56
  go_wp2
  go_end0
  exact ⟨rfl, by rw [← HW.out]⟩
theorem weighs_tells (R : Nat) (O : Option Addr) (n c : Nat) (bs : List UInt8) (w : World) (X : Nat) (hX : X = w.heap.size) :
    Tells 56 #[.pointer (some ⟨X, 0, none⟩)] R O n c bs (fun l W => Blk W X 22 #[.int .u64 (wv l : Nat)] ∧ w.grownBy W (some R) ∧ R < w.heap.size) where
  tell := by
    rintro l b W p ⟨h1, h2, h3⟩ hr _ _
    refine (weighs1_any l b X W h1).mono ?_
    rintro e w' ⟨rfl, rfl⟩
    have hg : W.grownBy (W.setCell ⟨X, 0, none⟩ (.int .u64 (wv (l ++ [b]) : Nat))) (some X) := only_setCell (World.grownBy.refl W (some X)) (p := ⟨X, 0, none⟩) (.inl rfl) _
    refine ⟨rfl, ⟨h1.set_ 0 _, only_setCell h2 (p := ⟨X, 0, none⟩) (.inr (by simp [hX])) _, h3⟩, hr.grown hg (by intro e; injection e with e; omega) (.inr (own_ne hr.own h1 (by decide)))⟩
  enters := Go.Proofs.enters_of Try.func56 (by kernel_rfl) rfl
  set := by
    rintro l W i v ⟨h1, h2, h3⟩
    exact ⟨h1.far (p := ⟨R, i, none⟩) (by simp; omega) v, only_setCell h2 (p := ⟨R, i, none⟩) (.inl rfl) v, h3⟩
  drew := by
    rintro l W ⟨h1, h2, h3⟩
    exact ⟨h1.drew, only_drew h2, h3⟩
set_option maxRecDepth 100000 in
set_option maxHeartbeats 1000000 in
theorem weighs_any (R : Nat) (O : Option Addr) (n c : Nat) (bs : List UInt8) (p : Nat) (why : Int) (m : Int) (w : World) (h : Rdr w R O n c bs p why) (hm : m ≤ 9223372036854775807) :
    Calls Try.prog 53 #[.pointer (some ⟨R, 0, none⟩), .int .i64 m] w fun e w' =>
      e = .returned (.int .u64 (wv (rdO bs p why m) : Nat)) ∧ Rdr w' R O n c bs (rdP bs p why m) (rdW bs p why m) ∧ w.grownBy w' (some R) := by
  have hR := h.lt
  have h0 := h.below ((Below.refl _ _).alloc (Nat.le_refl _) (.cells #[.int .u64 0] 22))
  have hX := Blk.new w 22 #[.int .u64 0]
  have hg : w.grownBy (w.alloc (.cells #[.int .u64 0] 22)) (some R) := only_alloc (World.grownBy.refl w _) _
  have hT := weighs_tells R O n c bs w w.heap.size rfl
  have HT := Lib.hid hT
  clear hT h
  go_enter Try.func53, Try.ntmps53
  go_wp2_with fail
  refine (next_any R O n c bs p why m _ _ _ _ h0 HT.out ⟨hX, hg, hR⟩ hm).mono ?_
  rintro e w1 ⟨rfl, hr, hx, hg1, _⟩
  have hc : w1.cell? ⟨w.heap.size, 0, none⟩ = some (.int .u64 (wv (rdO bs p why m) : Nat)) := hx.cell 0
  have hf : w1.frozen? ⟨w.heap.size, 0, none⟩ = false := hx.frozen 0
  clear h0 hX hg
  have hx2 := hx.set_ 0 (.int .u64 (wv (rdO bs p why m) : Nat))
  have hc2 : (w1.setCell ⟨w.heap.size, 0, none⟩ (.int .u64 (wv (rdO bs p why m) : Nat))).cell? ⟨w.heap.size, 0, none⟩ = some (.int .u64 (wv (rdO bs p why m) : Nat)) := hx2.cell 0
  have hr2 := hr.grown (row := some w.heap.size) (only_setCell (World.grownBy.refl w1 (some w.heap.size)) (p := ⟨w.heap.size, 0, none⟩) (.inl rfl) (.int .u64 (wv (rdO bs p why m) : Nat))) (by intro e; injection e with e; omega) (.inr (own_ne hr.own hx (by decide)))
  have hg2 := only_setCell hg1 (p := ⟨w.heap.size, 0, none⟩) (.inr (Nat.le_refl _)) (.int .u64 (wv (rdO bs p why m) : Nat))
  clear hr hx hg1
  go_wp2
  exact bodyPost_ret (v := .int .u64 (wv (rdO bs p why m) : Nat)) (by simp [results, Try.results53, go_sem, hc2]) rfl ⟨rfl, hr2, hg2⟩
end Go.Proofs.Ytfpodalnnchnoaa
