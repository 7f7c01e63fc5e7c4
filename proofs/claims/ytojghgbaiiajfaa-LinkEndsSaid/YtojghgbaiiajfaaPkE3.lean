/- append(out, src...) of whatever data; slices.Clone of rows, batches, held batches, packets. Conditions: the slice reads so. -/
import Derived.Test.YtojghgbaiiajfaaPkE2
import Derived.Laws.AppendOwn
namespace Go.Proofs.Ytojghgbaiiajfaa
open Go.RowKit
theorem Lay.reads {α : Type} {L : Lay α} {w : World} {F : Nat → Prop} {A : Option Addr} {m : Nat} {ys : List α} (h : L.rd w F A m ys) : ∃ cs, L.reps w F ys cs ∧ Reads w w.heap.size L.size A m cs := by
 obtain ⟨hl, cs, hr, hc⟩ := h
 refine ⟨cs, hr, by rw [Lay.reps_len hr, hl], fun hn => ?_⟩
 obtain ⟨ad, e, hb, _, hh⟩ := hc hn
 exact ⟨ad, e, hb, hh⟩
/-- append(out, src...): out the call's own, src whatever can be read -/
theorem wpList_appLs {α : Type} {L : Lay α} {e : TypeId} {P : Program} {ops : Array Oper} {rest : List Oper} {o : Oper} {a : Act} {w : World} {Q : Exit → Act → World → Prop} (hgd : o.guard = none) (s x : Operand) (t : TypeId)
 (ho : o.op = .call { callee := .builtin .append, args := #[s, x], argTypes := #[t, t] })
 (z : Value) (k bytes : Nat) (ht : P.underlying t = some (.slice e)) (hi : (P.info? e).map (fun i => (i.zero, i.size, i.bytes)) = some (some z, k, bytes)) (hk : L.size = k) (hzs : z.cells.size = k) (hk0 : 0 < k)
 (B : Nat) (G F : Nat → Prop) (A : Option Addr) (n c : Nat) (xs : List α) (A2 : Option Addr) (m c2 : Nat) (ys : List α) (k2 : Nat) (hk2 : k2 = n + m)
 (hs : a.eval s = .slice A n c) (hx : a.eval x = .slice A2 m c2) (hown : L.own e w B G A n c xs) (hr : L.rd w F A2 m ys)
 (hFG : ∀ b, F b → b < w.heap.size → G b ∧ (Value.slice A n c).ownBlock ≠ some b) (hG : ∀ b, G b → b < w.heap.size) (hb : (n + m) * bytes ≤ 140737488355328) (hn : n + m ≤ maxLen) (hB : B ≤ w.heap.size)
 (h : ∀ A' c' w', L.own e w' B G A' k2 c' (xs ++ ys) → w.grownBy w' (Value.slice A n c).ownBlock → ((Value.slice A' k2 c').ownBlock = (Value.slice A n c).ownBlock ∨ (Value.slice A' k2 c').ownBlock = some w.heap.size) → wpList P ops Q rest (a.put o.dst (.slice A' k2 c')) w') : wpList P ops Q (o :: rest) a w := by
 subst hk2
 obtain ⟨hl, cs, hreps, hrow⟩ := hown
 obtain ⟨ds, hys, hrd⟩ := Lay.reads hr
 obtain ⟨i0, hi0, hz0, hz1, hz2⟩ := info_parts hi
 subst hk
 have hyl := Lay.rd_len hr
 refine wpList_append_any w hgd s x t ho B e i0 _ L.size bytes ht hi0 hz0 hz1 hz2 hzs hk0 (.slice A n c) n cs hs hrow w.heap.size A2 m c2 ds hx hrd (Lay.reps_one hys) hn hb hB ?_
 intro v' w' hown' hg hat
 obtain ⟨A', c', rfl⟩ := own_form' hown'
 have hne : ∀ b, G b → (Value.slice A n c).ownBlock ≠ some b → (Value.slice A' (n + m) c').ownBlock ≠ some b := fun b hb hne => by
  rcases hat with hat | hat
  · rw [hat]; exact hne
  · rw [hat]; intro e; injection e with e; have := hG b hb; omega
 have hkeep : ∀ b, (G b ∧ (Value.slice A n c).ownBlock ≠ some b) → b < w.heap.size → w'.heap[b]? = w.heap[b]? := fun b hb hlt => hg.block b hlt (fun e => hb.2 e.symm)
 have hys2 := Lay.reps_keep hkeep (Lay.reps_weak hFG hys)
 exact h A' c' w' ⟨by rw [List.length_append, hl, hyl], cs ++ ds, Lay.reps_append (Lay.reps_weak (fun b hb _ => ⟨hb.1, hne b hb.1 hb.2⟩) (Lay.reps_keep hkeep hreps)) (Lay.reps_weak (fun b hb _ => ⟨hb.1, hne b hb.1 hb.2⟩) hys2), hown'⟩ hg hat
/-- a literal without elements -/
theorem Lay.own_empty {α : Type} (L : Lay α) (w : World) (e : TypeId) (G : Nat → Prop) (_hz : 0 < L.size) : L.own e (w.alloc (.cells #[] e)) w.heap.size G (some ⟨w.heap.size, 0, none⟩) 0 0 [] :=
 ⟨rfl, [], rfl, by simp, .inr ⟨w.heap.size, 0, #[], rfl, Nat.le_refl _, heap_alloc_new w _, Nat.le_refl _, by decide, by simp, by simp⟩⟩
theorem infoB : (Try.prog.info? 45).map (fun i => (i.zero, i.size, i.bytes)) = some (some (.agg #[.slice none 0 0, .bool false, .int .u64 0]), 3, 40) := by kernel_rfl
set_option maxRecDepth 100000 in
set_option maxHeartbeats 4000000 in
theorem cloneB (F : Nat → Prop) (A : Option Addr) (m c : Nat) (xs : List BC) (w : World) (h : LB3.rd w F A m xs) (hm : m ≤ 100000) :
 Calls Try.prog 83 #[.slice A m c] w fun e w' => ∃ A' c', e = .returned (.slice A' m c') ∧ LB3.own 45 w' w.heap.size (fun b => F b ∧ b < w.heap.size) A' m c' xs ∧ Below w.heap.size w w' := by
 cases A with
 | none =>
  have hm0 : m = 0 := by
   rcases Nat.eq_zero_or_pos m with h0 | h0
   · exact h0
   · obtain ⟨ad, x, cs, e, _⟩ := Lay.rd_at h h0; cases e
  subst hm0
  obtain rfl : xs = [] := List.eq_nil_of_length_eq_zero (Lay.rd_len h)
  clear h
  have HQ : ∀ W, (binOp .eql 27 (.slice none 0 c) (.slice none 0 0)).run Try.prog W = .ok (.bool true) W := fun W => Lib.run_eql_slice_nil W _ _ _ _ _ _ _ Try.underlying27
  go_enter Try.func83, Try.ntmps83
  go_wp2
  go_ret
  exact ⟨none, 0, rfl, Lay.own_nil _ _, Below.refl _ _⟩
 | some a =>
  have oe := Lay.own_empty LB3 w 45 (fun b => F b ∧ b < w.heap.size) (by decide)
  have b1 := bl_al (Below.refl w.heap.size w) (.cells #[] 45)
  have h1 := Lay.rd_below h b1
  have h2 : LB3.rd (w.alloc (.cells #[] 45)) (fun b => F b ∧ b < w.heap.size) (some a) m xs := Lay.rd_below (Lay.rd_weak (fun b hb hl => ⟨hb, hl⟩) h) b1
  have hz := b1.size
  have HOE := Lib.hid oe
  have HH2 := Lib.hid h2
  have HB := Lib.hid b1
  have HQ : ∀ W, (binOp .eql 27 (.slice (some a) m c) (.slice none 0 0)).run Try.prog W = .ok (.bool false) W := fun W => Lib.run_eql_slice_nil W _ _ _ _ _ _ _ Try.underlying27
  clear h h1 h2 oe b1
  go_enter Try.func83, Try.ntmps83
  go_wp2_with (at_builtin; refine wpList_appLs (L := LB3) (e := 45) rfl (.tmp 5) (.tmp 6) 27 rfl (.agg #[.slice none 0 0, .bool false, .int .u64 0]) 3 40 Try.underlying27 infoB rfl rfl (by decide) w.heap.size (fun b => F b ∧ b < w.heap.size) (fun b => F b ∧ b < w.heap.size) (some ⟨w.heap.size, 0, none⟩) 0 0 [] (some a) m c xs m (by omega) rfl rfl HOE.out HH2.out (fun b hb _ => ⟨hb, fun e => by simp [Value.ownBlock] at e; have := hb.2; omega⟩) (fun b hb => Nat.lt_of_lt_of_le hb.2 hz) (by omega) (by unfold maxLen; omega) hz ?_; intro A4 c4 w4 o4 g4 _; rw [List.nil_append] at o4; have HO4 := Lib.hid o4; have HG4 := Lib.hid g4; clear o4 g4)
  go_ret
  exact ⟨A4, c4, rfl, HO4.out, HB.out.grown HG4.out hz (fun k e => by simp [Value.ownBlock] at e; omega)⟩
theorem infoR : (Try.prog.info? 89).map (fun i => (i.zero, i.size, i.bytes)) = some (some (.slice none 0 0), 1, 24) := by kernel_rfl
set_option maxRecDepth 100000 in
set_option maxHeartbeats 4000000 in
theorem cloneR (F : Nat → Prop) (A : Option Addr) (m c : Nat) (xs : List (List VV)) (w : World) (h : LR.rd w F A m xs) (hm : m ≤ 100000) :
 Calls Try.prog 99 #[.slice A m c] w fun e w' => ∃ A' c', e = .returned (.slice A' m c') ∧ LR.own 89 w' w.heap.size (fun b => F b ∧ b < w.heap.size) A' m c' xs ∧ Below w.heap.size w w' := by
 cases A with
 | none =>
  have hm0 : m = 0 := by
   rcases Nat.eq_zero_or_pos m with h0 | h0
   · exact h0
   · obtain ⟨ad, x, cs, e, _⟩ := Lay.rd_at h h0; cases e
  subst hm0
  obtain rfl : xs = [] := List.eq_nil_of_length_eq_zero (Lay.rd_len h)
  clear h
  have HQ : ∀ W, (binOp .eql 43 (.slice none 0 c) (.slice none 0 0)).run Try.prog W = .ok (.bool true) W := fun W => Lib.run_eql_slice_nil W _ _ _ _ _ _ _ Try.underlying43
  go_enter Try.func99, Try.ntmps99
  go_wp2
  go_ret
  exact ⟨none, 0, rfl, Lay.own_nil _ _, Below.refl _ _⟩
 | some a =>
  have oe := Lay.own_empty LR w 89 (fun b => F b ∧ b < w.heap.size) (by decide)
  have b1 := bl_al (Below.refl w.heap.size w) (.cells #[] 89)
  have h1 := Lay.rd_below h b1
  have h2 : LR.rd (w.alloc (.cells #[] 89)) (fun b => F b ∧ b < w.heap.size) (some a) m xs := Lay.rd_below (Lay.rd_weak (fun b hb hl => ⟨hb, hl⟩) h) b1
  have hz := b1.size
  have HOE := Lib.hid oe
  have HH2 := Lib.hid h2
  have HB := Lib.hid b1
  have HQ : ∀ W, (binOp .eql 43 (.slice (some a) m c) (.slice none 0 0)).run Try.prog W = .ok (.bool false) W := fun W => Lib.run_eql_slice_nil W _ _ _ _ _ _ _ Try.underlying43
  clear h h1 h2 oe b1
  go_enter Try.func99, Try.ntmps99
  go_wp2_with (at_builtin; refine wpList_appLs (L := LR) (e := 89) rfl (.tmp 5) (.tmp 6) 43 rfl (.slice none 0 0) 1 24 Try.underlying43 infoR rfl rfl (by decide) w.heap.size (fun b => F b ∧ b < w.heap.size) (fun b => F b ∧ b < w.heap.size) (some ⟨w.heap.size, 0, none⟩) 0 0 [] (some a) m c xs m (by omega) rfl rfl HOE.out HH2.out (fun b hb _ => ⟨hb, fun e => by simp [Value.ownBlock] at e; have := hb.2; omega⟩) (fun b hb => Nat.lt_of_lt_of_le hb.2 hz) (by omega) (by unfold maxLen; omega) hz ?_; intro A4 c4 w4 o4 g4 _; rw [List.nil_append] at o4; have HO4 := Lib.hid o4; have HG4 := Lib.hid g4; clear o4 g4)
  go_ret
  exact ⟨A4, c4, rfl, HO4.out, HB.out.grown HG4.out hz (fun k e => by simp [Value.ownBlock] at e; omega)⟩
theorem infoH : (Try.prog.info? 81).map (fun i => (i.zero, i.size, i.bytes)) = some (some (.agg #[.int .u64 0, .slice none 0 0, .bool false, .int .u64 0]), 4, 48) := by kernel_rfl
set_option maxRecDepth 100000 in
set_option maxHeartbeats 4000000 in
theorem cloneH (F : Nat → Prop) (A : Option Addr) (m c : Nat) (xs : List HC) (w : World) (h : LH4.rd w F A m xs) (hm : m ≤ 100000) :
 Calls Try.prog 106 #[.slice A m c] w fun e w' => ∃ A' c', e = .returned (.slice A' m c') ∧ LH4.own 81 w' w.heap.size (fun b => F b ∧ b < w.heap.size) A' m c' xs ∧ Below w.heap.size w w' := by
 cases A with
 | none =>
  have hm0 : m = 0 := by
   rcases Nat.eq_zero_or_pos m with h0 | h0
   · exact h0
   · obtain ⟨ad, x, cs, e, _⟩ := Lay.rd_at h h0; cases e
  subst hm0
  obtain rfl : xs = [] := List.eq_nil_of_length_eq_zero (Lay.rd_len h)
  clear h
  have HQ : ∀ W, (binOp .eql 34 (.slice none 0 c) (.slice none 0 0)).run Try.prog W = .ok (.bool true) W := fun W => Lib.run_eql_slice_nil W _ _ _ _ _ _ _ Try.underlying34
  go_enter Try.func106, Try.ntmps106
  go_wp2
  go_ret
  exact ⟨none, 0, rfl, Lay.own_nil _ _, Below.refl _ _⟩
 | some a =>
  have oe := Lay.own_empty LH4 w 81 (fun b => F b ∧ b < w.heap.size) (by decide)
  have b1 := bl_al (Below.refl w.heap.size w) (.cells #[] 81)
  have h1 := Lay.rd_below h b1
  have h2 : LH4.rd (w.alloc (.cells #[] 81)) (fun b => F b ∧ b < w.heap.size) (some a) m xs := Lay.rd_below (Lay.rd_weak (fun b hb hl => ⟨hb, hl⟩) h) b1
  have hz := b1.size
  have HOE := Lib.hid oe
  have HH2 := Lib.hid h2
  have HB := Lib.hid b1
  have HQ : ∀ W, (binOp .eql 34 (.slice (some a) m c) (.slice none 0 0)).run Try.prog W = .ok (.bool false) W := fun W => Lib.run_eql_slice_nil W _ _ _ _ _ _ _ Try.underlying34
  clear h h1 h2 oe b1
  go_enter Try.func106, Try.ntmps106
  go_wp2_with (at_builtin; refine wpList_appLs (L := LH4) (e := 81) rfl (.tmp 5) (.tmp 6) 34 rfl (.agg #[.int .u64 0, .slice none 0 0, .bool false, .int .u64 0]) 4 48 Try.underlying34 infoH rfl rfl (by decide) w.heap.size (fun b => F b ∧ b < w.heap.size) (fun b => F b ∧ b < w.heap.size) (some ⟨w.heap.size, 0, none⟩) 0 0 [] (some a) m c xs m (by omega) rfl rfl HOE.out HH2.out (fun b hb _ => ⟨hb, fun e => by simp [Value.ownBlock] at e; have := hb.2; omega⟩) (fun b hb => Nat.lt_of_lt_of_le hb.2 hz) (by omega) (by unfold maxLen; omega) hz ?_; intro A4 c4 w4 o4 g4 _; rw [List.nil_append] at o4; have HO4 := Lib.hid o4; have HG4 := Lib.hid g4; clear o4 g4)
  go_ret
  exact ⟨A4, c4, rfl, HO4.out, HB.out.grown HG4.out hz (fun k e => by simp [Value.ownBlock] at e; omega)⟩
theorem infoP : (Try.prog.info? 47).map (fun i => (i.zero, i.size, i.bytes)) = some (some (.agg #[.int .i64 0, .int .u32 0, .int .u64 0, .int .u64 0, .slice none 0 0, .bool false, .int .u64 0]), 7, 72) := by kernel_rfl
set_option maxRecDepth 100000 in
set_option maxHeartbeats 4000000 in
theorem cloneP (F : Nat → Prop) (A : Option Addr) (m c : Nat) (xs : List PK) (w : World) (h : LP7.rd w F A m xs) (hm : m ≤ 100000) :
 Calls Try.prog 89 #[.slice A m c] w fun e w' => ∃ A' c', e = .returned (.slice A' m c') ∧ LP7.own 47 w' w.heap.size (fun b => F b ∧ b < w.heap.size) A' m c' xs ∧ Below w.heap.size w w' := by
 cases A with
 | none =>
  have hm0 : m = 0 := by
   rcases Nat.eq_zero_or_pos m with h0 | h0
   · exact h0
   · obtain ⟨ad, x, cs, e, _⟩ := Lay.rd_at h h0; cases e
  subst hm0
  obtain rfl : xs = [] := List.eq_nil_of_length_eq_zero (Lay.rd_len h)
  clear h
  have HQ : ∀ W, (binOp .eql 50 (.slice none 0 c) (.slice none 0 0)).run Try.prog W = .ok (.bool true) W := fun W => Lib.run_eql_slice_nil W _ _ _ _ _ _ _ Try.underlying50
  go_enter Try.func89, Try.ntmps89
  go_wp2
  go_ret
  exact ⟨none, 0, rfl, Lay.own_nil _ _, Below.refl _ _⟩
 | some a =>
  have oe := Lay.own_empty LP7 w 47 (fun b => F b ∧ b < w.heap.size) (by decide)
  have b1 := bl_al (Below.refl w.heap.size w) (.cells #[] 47)
  have h1 := Lay.rd_below h b1
  have h2 : LP7.rd (w.alloc (.cells #[] 47)) (fun b => F b ∧ b < w.heap.size) (some a) m xs := Lay.rd_below (Lay.rd_weak (fun b hb hl => ⟨hb, hl⟩) h) b1
  have hz := b1.size
  have HOE := Lib.hid oe
  have HH2 := Lib.hid h2
  have HB := Lib.hid b1
  have HQ : ∀ W, (binOp .eql 50 (.slice (some a) m c) (.slice none 0 0)).run Try.prog W = .ok (.bool false) W := fun W => Lib.run_eql_slice_nil W _ _ _ _ _ _ _ Try.underlying50
  clear h h1 h2 oe b1
  go_enter Try.func89, Try.ntmps89
  go_wp2_with (at_builtin; refine wpList_appLs (L := LP7) (e := 47) rfl (.tmp 5) (.tmp 6) 50 rfl (.agg #[.int .i64 0, .int .u32 0, .int .u64 0, .int .u64 0, .slice none 0 0, .bool false, .int .u64 0]) 7 72 Try.underlying50 infoP rfl rfl (by decide) w.heap.size (fun b => F b ∧ b < w.heap.size) (fun b => F b ∧ b < w.heap.size) (some ⟨w.heap.size, 0, none⟩) 0 0 [] (some a) m c xs m (by omega) rfl rfl HOE.out HH2.out (fun b hb _ => ⟨hb, fun e => by simp [Value.ownBlock] at e; have := hb.2; omega⟩) (fun b hb => Nat.lt_of_lt_of_le hb.2 hz) (by omega) (by unfold maxLen; omega) hz ?_; intro A4 c4 w4 o4 g4 _; rw [List.nil_append] at o4; have HO4 := Lib.hid o4; have HG4 := Lib.hid g4; clear o4 g4)
  go_ret
  exact ⟨A4, c4, rfl, HO4.out, HB.out.grown HG4.out hz (fun k e => by simp [Value.ownBlock] at e; omega)⟩
end Go.Proofs.Ytojghgbaiiajfaa
/- link.inRow, ends, last. Conditions: the slices read so. -/
namespace Go.Proofs.Ytojghgbaiiajfaa
open Go.RowKit
def inRowB : List BC → Int → Bool
 | [], _ => true
 | b :: l, n => (batchB b n && (!b.fin || l.isEmpty)) && inRowB l (n + 1)
theorem drop_at {α : Type} {l : List α} {i : Nat} {x : α} (h : l[i]? = some x) : l.drop i = x :: l.drop (i + 1) := by
 obtain ⟨hi, rfl⟩ := List.getElem?_eq_some_iff.1 h
 exact List.drop_eq_getElem_cons hi
theorem inRow_at {l : List BC} {i : Nat} {b : BC} {n : Int} (h : l[i]? = some b) : inRowB (l.drop i) (n + i) = ((batchB b (n + i) && (!b.fin || decide (l.length ≤ i + 1))) && inRowB (l.drop (i + 1)) (n + ((i + 1 : Nat) : Int))) := by
 rw [drop_at h]
 show ((batchB b (n + i) && (!b.fin || (l.drop (i + 1)).isEmpty)) && inRowB (l.drop (i + 1)) (n + i + 1)) = _
 rw [show n + (i : Int) + 1 = n + ((i + 1 : Nat) : Int) from by omega]
 congr 2
 congr 1
 rw [Bool.eq_iff_iff]
 simp
set_option maxRecDepth 100000 in
set_option maxHeartbeats 8000000 in
theorem inRow_any (F : Nat → Prop) (A : Option Addr) (m c : Nat) (l : List BC) (n : Int) (w : World) (h : LB3.rd w F A m l) (hm : m ≤ 100) (h0 : 0 ≤ n) (h1 : n ≤ 2000000000000) :
 Calls Try.prog 62 #[.slice A m c, .int .u64 n] w fun e w' => e = .returned (.bool (inRowB l n)) ∧ Below w.heap.size w w' := by
 have HL := Lib.hid (Lay.rd_len h)
 obtain ⟨r, hr⟩ : ∃ r, r = inRowB l n := ⟨_, rfl⟩
 rw [← hr]
 have HR := Lib.hid hr
 clear hr
 go_enter Try.func62, Try.ntmps62
 go_wp2_with fail
 go_loopg [9] m (fun g a wr => ∃ i : Nat, i + g = m ∧ a = .int .i64 i ∧ r = inRowB (l.drop i) (n + i) ∧ Below w.heap.size w wr)
 case atStart => exact ⟨0, by omega, rfl, by rw [HR.out]; simp, Below.refl _ _⟩
 case round =>
  obtain ⟨i, hig, rfl, hri, bb⟩ := hrel
  have HI := Lib.hid hri
  have HBB := Lib.hid bb
  clear hri
  by_cases hlt : i < m
  · have hi1 : (i : Int) < (m : Int) := by omega
    obtain ⟨p, b, B, k, d, rfl, hx, s1⟩ := LB3_at (Lay.rd_below h bb) hlt
    have e0 := s1.c0
    have e1 := s1.c1
    have e2 := s1.c2
    have q5 := bl_al (Below.refl wr.heap.size wr) (.cells (b.cells B k d) 45)
    have HC := Lib.hid (batch_any F b B k d (n + (i : Int)) _ (Lay.rd_below s1.rd q5) (Nat.le_trans s1.nc s1.cm))
    have HS := Lib.hid (inRow_at (n := n) hx)
    have HB5 := Lib.hid (bl_ca HBB.out q5)
    have f1 := (Blk.new wr 45 (b.cells B k d))
    have HF1 := Lib.hid f1
    clear hx s1 bb q5 f1
    obtain ⟨rows, fin, cnt⟩ := b
    dsimp only at *
    obtain ⟨q, hq⟩ : ∃ q, q = batchB ⟨rows, fin, cnt⟩ (n + (i : Int)) := ⟨_, rfl⟩
    rw [← hq] at HC HS
    clear hq
    cases q
    · go_wp2_with fail
      refine HC.out.mono ?_
      rintro e w2 ⟨rfl, q2⟩
      have b2 := Lib.hid (bl_ca HB5.out q2)
      clear q2
      go_wp2
      go_ret
      exact ⟨ret_bool (by rw [HI.out, HS.out]; rfl), b2.out⟩
    · cases fin
      · go_wp2_with fail
        refine HC.out.mono ?_
        rintro e w2 ⟨rfl, q2⟩
        have b2 := Lib.hid (bl_ca HB5.out q2)
        have x1 : w2.cell? ⟨wr.heap.size, 1, none⟩ = some (.bool false) := (HF1.out.ca q2).cell 1
        clear q2
        go_wp2
        go_roundg (gk - 1)
        · exact ⟨i + 1, by omega, by go_num, by rw [HI.out, HS.out]; simp, b2.out⟩
        · omega
      · by_cases hl : i + 1 = m
        · have hl2 : decide ((i : Int) < (m : Int) - 1) = false := by simp; omega
          go_wp2_with fail
          refine HC.out.mono ?_
          rintro e w2 ⟨rfl, q2⟩
          have b2 := Lib.hid (bl_ca HB5.out q2)
          have x1 : w2.cell? ⟨wr.heap.size, 1, none⟩ = some (.bool true) := (HF1.out.ca q2).cell 1
          have HL2 := Lib.hid hl
          clear q2 hl
          go_wp2
          go_roundg (gk - 1)
          · exact ⟨i + 1, by omega, by go_num, by rw [HI.out, HS.out, HL.out, show decide (m ≤ i + 1) = true from by have := HL2.out; simp; omega]; simp, b2.out⟩
          · omega
        · have hl2 : decide ((i : Int) < (m : Int) - 1) = true := by simp; omega
          have hl3 : i + 1 < m := by omega
          clear hl
          go_wp2_with fail
          refine HC.out.mono ?_
          rintro e w2 ⟨rfl, q2⟩
          have b2 := Lib.hid (bl_ca HB5.out q2)
          have x1 : w2.cell? ⟨wr.heap.size, 1, none⟩ = some (.bool true) := (HF1.out.ca q2).cell 1
          clear q2
          go_wp2
          go_ret
          exact ⟨ret_bool (by rw [HI.out, HS.out, HL.out, show decide (m ≤ i + 1) = false from by simp; omega]; rfl), b2.out⟩
  · obtain rfl : i = m := by omega
    have hi1 : (i : Int) ≤ (i : Int) := by omega
    clear bb
    go_wp2
    go_ret
    exact ⟨ret_bool (by rw [HI.out, List.drop_of_length_le (by rw [HL.out]; exact Nat.le_refl _)]; rfl), HBB.out⟩
def endsB (l : List BC) : Bool := match l[l.length - 1]? with | some b => b.fin | none => false
set_option maxRecDepth 100000 in
theorem ends_any (F : Nat → Prop) (A : Option Addr) (m c : Nat) (l : List BC) (w : World) (h : LB3.rd w F A m l) (hm : m ≤ 9223372036854775807) :
 Calls Try.prog 63 #[.slice A m c] w fun e w' => e = .returned (.bool (endsB l)) ∧ w = w' := by
 have HL := Lib.hid (Lay.rd_len h)
 obtain ⟨r, hr⟩ : ∃ r, r = endsB l := ⟨_, rfl⟩
 rw [← hr]
 rcases Nat.eq_zero_or_pos m with h0 | h0
 · subst h0
   obtain rfl : l = [] := List.eq_nil_of_length_eq_zero HL.out
   obtain rfl : r = false := hr
   clear h
   go_enter Try.func63, Try.ntmps63
   go_wp2
   go_ret
   exact ⟨rfl, rfl⟩
 · obtain ⟨p, b, B, k, d, rfl, hx, s1⟩ := LB3_at h (show m - 1 < m by omega)
   obtain rfl : r = b.fin := by rw [hr]; unfold endsB; rw [HL.out, hx]
   have e1 := s1.c1
   obtain ⟨m1, hm1⟩ : ∃ m1, m = m1 + 1 := ⟨m - 1, by omega⟩
   subst hm1
   rw [show m1 + 1 - 1 = m1 from rfl] at e1
   clear h hx s1 hr h0
   have hl : (m1 : Int) < (m1 : Int) + 1 := by omega
   go_enter Try.func63, Try.ntmps63
   go_wp2
   go_ret
   exact ⟨rfl, rfl⟩
set_option maxRecDepth 100000 in
theorem last_any (s : SC) (A : Option Addr) (n c : Nat) (w : World) (h1 : 1 ≤ s.base) (h2 : s.base ≤ 2000000000000) (hn : n ≤ 100) :
 Calls Try.prog 64 #[.agg (s.cells A n c)] w fun e w' => e = .returned (.int .u64 (s.base - 1 + n)) ∧ Below w.heap.size w w' := by
 obtain ⟨ses, base, q, sent, lim, timer, ended⟩ := s
 dsimp only at *
 have b1 := bl_al (Below.refl w.heap.size w) (.cells (SC.cells ⟨ses, base, q, sent, lim, timer, ended⟩ A n c) 29)
 go_enter Try.func64, Try.ntmps64
 go_wp2
 go_ret
 exact ⟨rfl, b1⟩
end Go.Proofs.Ytojghgbaiiajfaa
/- Regions whose order Go leaves open, walked in one order: each operation that may come up yields the same value in every world that meets S, and leaves such a world. Conditions: none. -/
namespace Go.Proofs.Ytojghgbaiiajfaa
open Go.RowKit
section
variable {P : Program} {ops : Array Oper} {Q : Exit → Act → World → Prop} {md : Region.Mode} {S : World → Prop}
/-- in every world that meets S the operation yields v, and leaves a world that meets S -/
def Runs (P : Program) (S : World → Prop) (o : Oper) (v : Value) (ρ : Operand → Value) : Prop :=
 ∀ w, S w → match (execOp ρ o).run P w with
  | .ok (.value u) w' => u = v ∧ S w'
  | .ok (.enter f args) w' => Calls P f args w' fun e w'' => e = .returned v ∧ S w''
  | _ => False
def StepsIf (P : Program) (ops : Array Oper) (S : World → Prop) (o : Oper) (v : Value) (a : Act) : Prop :=
 (Region.wanted o (yielded ops a.tmps) = true ∧ Runs P S o v a.eval) ∨ (Region.wanted o (yielded ops a.tmps) = false ∧ v = undef)
theorem StepsIf.of_same {o : Oper} {v : Value} {a a' : Act} (hy : StepsIf P ops S o v a) (he : execOp a'.eval o = execOp a.eval o)
 (hw : Region.wanted o (yielded ops a'.tmps) = Region.wanted o (yielded ops a.tmps)) : StepsIf P ops S o v a' := by
 unfold StepsIf Runs at *
 rw [he, hw]
 exact hy
theorem StepsIf.wpOp {i : Nat} {o : Oper} {v : Value} {a : Act} (hi : ops[i]? = some o) (hy : StepsIf P ops S o v a)
 {K : Act → World → Prop} {w : World} (hS : S w) (h : ∀ w', S w' → K (a.put o.dst v) w') : wpOp P ops Q i K a w := by
 unfold Go.wpOp
 simp only [hi]
 rcases hy with ⟨hw, hv⟩ | ⟨hw, rfl⟩
 · simp only [hw, if_true]
   refine .inl ?_
   have hr := hv w hS
   unfold Oper.wp
   generalize (execOp a.eval o).run P w = r at *
   cases r with
   | ok n w' =>
    cases n <;> simp only [Oper.upon] at hr ⊢
    case value u => obtain ⟨rfl, hs⟩ := hr; exact h _ hs
    case enter f args =>
     refine Calls.mono hr fun e w'' ⟨he, hs⟩ => ?_
     subst he
     exact h _ hs
   | halt x w' => exact hr.elim
 · simp only [hw, Bool.false_eq_true, if_false]; exact h _ hS
/-- Each operation that may come up steps so, whatever order is picked. -/
def Good (P : Program) (md : Region.Mode) (ops : Array Oper) (Q : Exit → Act → World → Prop) (S : World → Prop) : Nat → Array Bool → Act → Prop
 | 0, listed, a => Region.ready md ops listed = [] ∧ ∀ w, S w → Q .normal a w
 | f + 1, listed, a => (Region.ready md ops listed = [] → ∀ w, S w → Q .normal a w) ∧
  ∀ i ∈ Region.ready md ops listed, ∃ o v, ops[i]? = some o ∧ StepsIf P ops S o v a ∧ Good P md ops Q S f (listed.setIfInBounds i true) (a.put o.dst v)
theorem Good.first {i : Nat} {oi : Oper} {v : Value} (hi : ops[i]? = some oi) (hsel : ∀ (j : Nat) (o : Oper) cs b, ops[j]? = some o → o.op ≠ .select cs b) :
 ∀ (f : Nat) (listed : Array Bool) (a : Act),
  (∀ j oj, ops[j]? = some oj → j ≠ i → listed.getD j true = false → (∀ e ∈ oj.after, Region.binds md e = true → e.on ≠ i) → oi.apart ops oj = true) →
  i ∈ Region.ready md ops listed → StepsIf P ops S oi v a →
  Good P md ops Q S f (listed.setIfInBounds i true) (a.put oi.dst v) → Good P md ops Q S (f + 1) listed a := by
 intro f
 induction f with
 | zero =>
  intro listed a _ hr hy H
  refine ⟨fun h => (by rw [h] at hr; cases hr), fun j hj => ?_⟩
  by_cases hji : j = i
  · subst hji; exact ⟨oi, v, hi, hy, H⟩
  · have := ready_mono hj hji
    rw [H.1] at this
    cases this
 | succ f ih =>
  intro listed a hfree hr hy H
  refine ⟨fun h => (by rw [h] at hr; cases hr), fun j hj => ?_⟩
  by_cases hji : j = i
  · subst hji; exact ⟨oi, v, hi, hy, H⟩
  · obtain ⟨oj, u, hoj, hju, hg⟩ := H.2 j (ready_mono hj hji)
    obtain ⟨hjun, oj', hoj', hall⟩ := mem_ready.1 hj
    rw [hoj] at hoj'
    injection hoj' with hoj'
    subst hoj'
    have hnot : ∀ e ∈ oj.after, Region.binds md e = true → e.on ≠ i := fun e he hb heq => by
     have h1 := hall e he hb
     have h0 := (mem_ready.1 hr).1
     rw [heq] at h1
     rcases Nat.lt_or_ge i listed.size with h' | h'
     · simp [h'] at h0 h1; rw [h0] at h1; cases h1
     · simp [Array.getElem?_eq_none h'] at h1
    obtain ⟨h1, h2, h3⟩ := Oper.apart_spec (hfree j oj hoj hji hjun hnot)
    have hsi := fun cs b => hsel i oi cs b hi
    have hsj := fun cs b => hsel j oj cs b hoj
    have hju' : StepsIf P ops S oj u a := hju.of_same (execOp_put oj hsj a oi.dst v h1).symm (wanted_put oj a oi.dst v h1).symm
    have hy' : StepsIf P ops S oi v (a.put oj.dst u) := hy.of_same (execOp_put oi hsi a oj.dst u h3) (wanted_put oi a oj.dst u h3)
    have hfree' : ∀ k ok, ops[k]? = some ok → k ≠ i → (listed.setIfInBounds j true).getD k true = false →
     (∀ e ∈ ok.after, Region.binds md e = true → e.on ≠ i) → oi.apart ops ok = true := fun k ok hk hki hun hno => by
     refine hfree k ok hk hki ?_ hno
     by_cases hjk : j = k
     · subst hjk; exact hjun
     · rw [getD_set_ne true hjk] at hun; exact hun
    refine ⟨oj, u, hoj, hju', ih (listed.setIfInBounds j true) (a.put oj.dst u) hfree' (ready_mono hr (Ne.symm hji)) hy' ?_⟩
    rw [Array.setIfInBounds_comm _ _ hji, ← Act.put_comm a v u h2]
    exact hg
theorem Good.call {i : Nat} {oi : Oper} {v : Value} {fn : FuncId} {args : Array Value} {f : Nat} {listed : Array Bool} {a : Act} {d : Option Tmp} (hi : ops[i]? = some oi) (hd : oi.dst = d)
 (hs : Region.noSelect ops = true) (hf : Region.free md ops listed i = true) (hr : (Region.ready md ops listed).contains i = true)
 (hw : Region.wanted oi (yielded ops a.tmps) = true) (hv : ∀ w, S w → (execOp a.eval oi).run P w = .ok (.enter fn args) w)
 (hc : ∀ w, S w → Calls P fn args w fun e w' => e = .returned v ∧ S w')
 (h : Good P md ops Q S f (listed.setIfInBounds i true) (a.put d v)) : Good P md ops Q S (f + 1) listed a :=
 Good.first hi (Region.noSelect_spec hs) f listed a (Region.free_spec hi hf) (by simpa using hr) (.inl ⟨hw, fun w hS => by rw [hv w hS]; exact hc w hS⟩) (hd ▸ h)
theorem Good.skip {i : Nat} {oi : Oper} {f : Nat} {listed : Array Bool} {a : Act} {d : Option Tmp} (hi : ops[i]? = some oi) (hd : oi.dst = d)
 (hs : Region.noSelect ops = true) (hf : Region.free md ops listed i = true) (hr : (Region.ready md ops listed).contains i = true)
 (hw : Region.wanted oi (yielded ops a.tmps) = false)
 (h : Good P md ops Q S f (listed.setIfInBounds i true) (a.put d undef)) : Good P md ops Q S (f + 1) listed a :=
 Good.first hi (Region.noSelect_spec hs) f listed a (Region.free_spec hi hf) (by simpa using hr) (.inr ⟨hw, rfl⟩) (hd ▸ h)
theorem Good.done {listed : Array Bool} {a : Act} (hr : Region.ready md ops listed = []) (h : ∀ w, S w → Q .normal a w) : ∀ f, Good P md ops Q S f listed a
 | 0 => ⟨hr, h⟩
 | _ + 1 => ⟨fun _ => h, by rw [hr]; simp⟩
end
section
variable {P : Program}
/-- the region's condition: the world grew -/
abbrev Grew (w0 : World) : World → Prop := fun w' => Below w0.heap.size w0 w'
theorem Grew.start (w : World) : Grew w w.drew := (Below.refl _ _).drew
theorem Grew.call {w0 : World} {fn : FuncId} {args : Array Value} {v : Value} (h : ∀ w, Below w0.heap.size w0 w → Calls P fn args w fun e w' => e = .returned v ∧ Below w.heap.size w w') :
 ∀ w, Grew w0 w → Calls P fn args w fun e w' => e = .returned v ∧ Grew w0 w' :=
 fun w q => (h w q).mono fun _ _ ⟨he, b⟩ => ⟨he, bl_ca q b⟩
end
end Go.Proofs.Ytojghgbaiiajfaa
