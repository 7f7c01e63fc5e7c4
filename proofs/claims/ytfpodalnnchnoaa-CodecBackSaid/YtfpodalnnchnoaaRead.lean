/- octet.Read: a reader of bytes, in new memory. Conditions: the slice reads as these bytes, its length within what a row lets in. -/
import Derived.Test.YtfpodalnnchnoaaWeighs
import Derived.Laws.CopyOwn
namespace Go.Proofs.Ytfpodalnnchnoaa
open Go.RowKit
/-- copy(out, src), both of one length: out the call's own. -/
theorem wpList_copyB {ops : Array Oper} {rest : List Oper} {o : Oper} {a : Act} {w : World} {Q : Exit → Act → World → Prop} (hgd : o.guard = none) (s x : Operand)
    (ho : o.op = .call { callee := .builtin .copy, args := #[s, x], argTypes := #[29, 29] })
    (B g n c : Nat) (zs : List UInt8) (A2 : Option Addr) (c2 : Nat) (ys : List UInt8)
    (hs : a.eval s = .slice (some ⟨g, 0, none⟩) n c) (hx : a.eval x = .slice A2 n c2) (hown : OwnB w B (some ⟨g, 0, none⟩) n c zs) (hr : RdB w A2 n ys)
    (h : ∀ w', OwnB w' B (some ⟨g, 0, none⟩) n c ys → w.grownBy w' (some g) → wpList Try.prog ops Q rest (a.put o.dst (.int .i64 (n : Int))) w') : wpList Try.prog ops Q (o :: rest) a w := by
  have hsz : (Try.prog.info? 5).map (·.size) = some 1 := by
    obtain ⟨i0, hi0, _, hz1, _⟩ := info_parts Try.byteInfo
    rw [hi0]; simp [hz1]
  have hl := hr.len
  have hzl := hown.len
  rcases Nat.eq_zero_or_pos n with h0 | h0
  · subst h0
    obtain rfl : ys = [] := List.eq_nil_of_length_eq_zero hl
    obtain rfl : zs = [] := List.eq_nil_of_length_eq_zero hzl
    refine wpList_copy_nothing hgd s x 29 29 ho 5 Try.underlying29 hsz _ _ _ _ _ _ hs hx (by simp) ?_
    exact h w hown (World.grownBy.refl w _)
  · obtain ⟨ad, rfl, _, _⟩ := hr.cellAt 0 h0
    rcases hown.2 with ⟨e, _⟩ | ⟨g', cap, cur, e, hB, hh, h1, h2, h3, h4⟩
    · cases e
    · injection e with e1 e2 e3
      injection e1 with e1
      injection e1 with e1
      subst e1 e3
      have hcl : (ys.map vb).length = n := by simp [hl]
      refine wpList_copy_own hgd s x 29 29 ho 5 Try.underlying29 hsz g 0 n c ad n c2 hs hx cur 5 hh (ys.map vb) (by rw [hcl]; simp) (fun j v hv => ?_) (by rw [hcl, h3]; omega) (vb_one ys) ?_
      · obtain ⟨_, e, _, hc⟩ := hr.2 h0
        injection e with e; subst e
        exact hc j v hv
      · rw [hcl]
        refine h _ ⟨by rw [hcl]; omega, .inr ⟨g, c, _, rfl, hB, setRow_heap w g cur _ _ _ hh, h1, h2, ?_, ?_⟩⟩ ?_
        · simp; omega
        · simp only [List.take_zero, List.nil_append, Nat.zero_add, Nat.mul_one]
          rw [List.take_append_of_le_length (by rw [hcl]; exact Nat.le_refl _), List.take_of_length_le (by rw [hcl]; exact Nat.le_refl _)]
        · refine ⟨rfl, rfl, rfl, by simp [World.setRow], fun k hk hne => ?_⟩
          simp only [World.setRow, Array.getElem?_modify]
          rw [if_neg (fun e => hne (by rw [e]))]
set_option maxRecDepth 100000 in
set_option maxHeartbeats 1000000 in
theorem read_any (A : Option Addr) (n c : Nat) (bs : List UInt8) (w : World) (h : RdB w A n bs) (hn : n ≤ 140737488351232) :
    Calls Try.prog 42 #[.slice A n c] w fun e w' => ∃ R O c', e = .returned (.pointer (some ⟨R, 0, none⟩)) ∧ w.heap.size ≤ R ∧ (∀ g, (Value.slice O n c').ownBlock = some g → w.heap.size ≤ g) ∧ Rdr w' R O n c' bs 0 0 ∧ Below w.heap.size w w' := by
  have hmk : ∀ W, (Instr.makeSlice 29 (.int .i64 (n : Int)) (.int .i64 (n : Int))).run Try.prog W = .ok (.slice (some ⟨W.heap.size, 0, none⟩) n n) (W.alloc (.cells (Array.replicate n (vb 0)) 5)) := fun W => run_makeBc n n (by omega) (by omega) W
  have ho := OwnB.made w n n (by omega) (by omega)
  have h0 := RdB.alloc h (.cells (Array.replicate n (vb 0)) 5)
  have b0 : Below w.heap.size w (w.alloc (.cells (Array.replicate n (vb 0)) 5)) := (Below.refl _ _).alloc (Nat.le_refl _) _
  clear h
  have hbR := Blk.new (w.alloc (.cells (Array.replicate n (vb 0)) 5)) 89 #[.int .i64 0, .int .i64 0, .slice (some ⟨w.heap.size, 0, none⟩) n n]
  have hoR := ho.alloc (.cells #[.int .i64 0, .int .i64 0, .slice (some ⟨w.heap.size, 0, none⟩) n n] 89)
  have h0R := h0.alloc (.cells #[.int .i64 0, .int .i64 0, .slice (some ⟨w.heap.size, 0, none⟩) n n] 89)
  have b0R : Below w.heap.size w ((w.alloc (.cells (Array.replicate n (vb 0)) 5)).alloc (.cells #[.int .i64 0, .int .i64 0, .slice (some ⟨w.heap.size, 0, none⟩) n n] 89)) := b0.alloc b0.size _
  have hsz : (w.alloc (.cells (Array.replicate n (vb 0)) 5)).heap.size = w.heap.size + 1 := by simp
  rw [hsz] at hbR
  clear ho h0 b0 hsz
  go_enter Try.func42, Try.ntmps42
  go_wp2_with (refine wpList_copyB rfl (.tmp 12) (.tmp 13) rfl w.heap.size w.heap.size n n _ A c bs rfl rfl hoR h0R ?_; intro w1 ho1 hg1)
  go_ret
  refine ⟨w.heap.size + 1, _, _, rfl, by omega, fun g e => ?_, ⟨hbR.grown hg1 (by intro e; injection e with e; omega), ho1.less (Nat.zero_le _), Nat.zero_le _, hn⟩, b0R.grown hg1 b0R.size (fun k e => by injection e with e; omega)⟩
  simp [Value.ownBlock] at e
  omega
end Go.Proofs.Ytfpodalnnchnoaa
