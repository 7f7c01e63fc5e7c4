/- codec's taker: what it holds; from, ok, need. Conditions: the taker holds a reader of these bytes. -/
import Derived.Test.YtfpodalnnchnoaaCList
import Derived.Test.YtfpodalnnchnoaaUs
import Derived.Test.YtfpodalnnchnoaaLinP
namespace Go.Proofs.Ytfpodalnnchnoaa
open Go.RowKit
/-- where a taker is: its reader's place, why that is done for, whether what was read may not be -/
structure St where
  p : Nat
  why : Int
  bad : Bool
/-- nothing that was there is changed but two blocks -/
structure Two (w w' : World) (T R : Nat) : Prop where
  os : w'.os = w.os
  tape : w'.tape = w.tape
  output : w'.output = w.output
  size : w.heap.size ≤ w'.heap.size
  block : ∀ b, b < w.heap.size → b ≠ T → b ≠ R → w'.heap[b]? = w.heap[b]?
section
variable {w w' w'' : World} {T R : Nat}
theorem Two.refl (w : World) (T R : Nat) : Two w w T R := ⟨rfl, rfl, rfl, Nat.le_refl _, fun _ _ _ _ => rfl⟩
theorem Two.trans (h : Two w w' T R) (k : Two w' w'' T R) : Two w w'' T R :=
  ⟨k.os.trans h.os, k.tape.trans h.tape, k.output.trans h.output, Nat.le_trans h.size k.size, fun b hb h1 h2 => (k.block b (Nat.lt_of_lt_of_le hb h.size) h1 h2).trans (h.block b hb h1 h2)⟩
theorem Two.of_below (h : Below w.heap.size w w') : Two w w' T R := ⟨h.os, h.tape, h.output, h.size, fun b hb _ _ => h.block b hb⟩
theorem Two.of_R (h : w.grownBy w' (some R)) : Two w w' T R := ⟨h.os, h.tape, h.output, h.size, fun b hb _ h2 => h.block b hb (fun e => h2 (by injection e))⟩
theorem Two.of_T (h : w.grownBy w' (some T)) : Two w w' T R := ⟨h.os, h.tape, h.output, h.size, fun b hb h1 _ => h.block b hb (fun e => h1 (by injection e))⟩
theorem Two.below (h : Two w w' T R) {B : Nat} (hB : B ≤ w.heap.size) (hT : B ≤ T) (hR : B ≤ R) : Below B w w' := ⟨h.os, h.tape, h.output, h.size, fun b hb => h.block b (by omega) (by omega) (by omega)⟩
theorem Two.blk (h : Two w w' T R) {g : Nat} {t : TypeId} {cs : Array Value} (hb : Blk w g t cs) (h1 : g ≠ T) (h2 : g ≠ R) : Blk w' g t cs := (h.block g hb.lt h1 h2).trans hb
end
/-- a taker over these bytes -/
structure Tk (w : World) (T R : Nat) (O : Option Addr) (n c : Nat) (bs : List UInt8) (s : St) : Prop where
  blk : Blk w T 76 #[.pointer (some ⟨R, 0, none⟩), .int .i64 (n : Int), .bool s.bad]
  rdr : Rdr w R O n c bs s.p s.why
section
variable {w w' : World} {T R n c : Nat} {O : Option Addr} {bs : List UInt8} {s : St}
theorem Tk.ne (h : Tk w T R O n c bs s) : T ≠ R := Blk.ne_ h.blk h.rdr.blk (by decide)
theorem Tk.below (h : Tk w T R O n c bs s) (q : Below w.heap.size w w') : Tk w' T R O n c bs s := ⟨h.blk.ca q, h.rdr.below q⟩
theorem Tk.reader {p : Nat} {why : Int} (h : Tk w T R O n c bs s) (hr : Rdr w' R O n c bs p why) (hg : w.grownBy w' (some R)) : Tk w' T R O n c bs ⟨p, why, s.bad⟩ := ⟨h.blk.apart hg h.ne, hr⟩
theorem Tk.set2 (h : Tk w T R O n c bs s) (b : Bool) : Tk (w.setCell ⟨T, 2, none⟩ (.bool b)) T R O n c bs ⟨s.p, s.why, b⟩ := by
  refine ⟨by simpa using h.blk.set_ 2 (.bool b), ?_⟩
  have hg : w.grownBy (w.setCell ⟨T, 2, none⟩ (.bool b)) (some T) := only_setCell (World.grownBy.refl w _) (.inl rfl) _
  refine h.rdr.grown hg (fun e => h.ne (by injection e)) (.inr fun e => ?_)
  exact own_ne h.rdr.own h.blk (by decide) e
end
/-- is all well so far? -/
def okS (s : St) : Bool := !s.bad && s.why == 0
/-- something has to be so, if it was read -/
def nd (s : St) (b : Bool) : St := ⟨s.p, s.why, s.bad || (s.why == 0 && !b)⟩
/-- so many bytes are read -/
def rdS (bs : List UInt8) (s : St) (k : Int) : St := ⟨rdP bs s.p s.why k, rdW bs s.p s.why k, s.bad⟩
theorem two_set2 (w : World) (T R : Nat) (b : Bool) : Two w (w.setCell ⟨T, 2, none⟩ (.bool b)) T R := Two.of_T (only_setCell (World.grownBy.refl w _) (.inl rfl) _)
set_option maxRecDepth 100000 in
set_option maxHeartbeats 4000000 in
theorem ok_any (T R : Nat) (O : Option Addr) (n c : Nat) (bs : List UInt8) (s : St) (w : World) (h : Tk w T R O n c bs s) :
    Calls Try.prog 50 #[.pointer (some ⟨T, 0, none⟩)] w fun e w' => e = .returned (.bool (okS s)) ∧ w = w' := by
  have c0 : w.cell? ⟨T, 0, none⟩ = some (.pointer (some ⟨R, 0, none⟩)) := h.blk.cell 0
  have c2 : w.cell? ⟨T, 2, none⟩ = some (.bool s.bad) := h.blk.cell 2
  have HE := Lib.hid (err_any R O n c bs s.p s.why w h.rdr)
  clear h
  rcases s with ⟨p, why, bad⟩
  simp only at c2 HE
  cases bad
  · cases hw : (why == 0)
    · rw [show okS ⟨p, why, false⟩ = false from by simp [okS, hw]]
      go_enter Try.func50, Try.ntmps50
      go_wp2_with fail
      refine HE.out.mono ?_
      rintro e w1 ⟨rfl, rfl⟩
      go_wp2
      go_ret
      exact ⟨rfl, rfl⟩
    · rw [show okS ⟨p, why, false⟩ = true from by simp [okS, hw]]
      go_enter Try.func50, Try.ntmps50
      go_wp2_with fail
      refine HE.out.mono ?_
      rintro e w1 ⟨rfl, rfl⟩
      go_wp2
      go_ret
      exact ⟨rfl, rfl⟩
  · rw [show okS ⟨p, why, true⟩ = false from rfl]
    go_enter Try.func50, Try.ntmps50
    go_wp2
    go_ret
    exact ⟨rfl, rfl⟩
set_option maxRecDepth 100000 in
set_option maxHeartbeats 4000000 in
theorem need_any (T R : Nat) (O : Option Addr) (n c : Nat) (bs : List UInt8) (s : St) (b : Bool) (w : World) (h : Tk w T R O n c bs s) :
    Calls Try.prog 46 #[.pointer (some ⟨T, 0, none⟩), .bool b] w fun e w' => e = .returned (.tuple #[]) ∧ Tk w' T R O n c bs (nd s b) ∧ Two w w' T R := by
  have c0 : w.cell? ⟨T, 0, none⟩ = some (.pointer (some ⟨R, 0, none⟩)) := h.blk.cell 0
  have c2 : w.cell? ⟨T, 2, none⟩ = some (.bool s.bad) := h.blk.cell 2
  have f2 : w.frozen? ⟨T, 2, none⟩ = false := h.blk.frozen 2
  have HE := Lib.hid (err_any R O n c bs s.p s.why w h.rdr)
  have HS := Lib.hid (fun x => h.set2 x)
  have HW := Lib.hid (fun x => two_set2 w T R x)
  clear h
  rcases s with ⟨p, why, bad⟩
  simp only at c2 HE HS
  cases bad
  · cases hw : (why == 0)
    · have ND := Lib.hid (show nd ⟨p, why, false⟩ b = ⟨p, why, false⟩ from by simp [nd, hw])
      go_enter Try.func46, Try.ntmps46
      go_wp2_with fail
      refine HE.out.mono ?_
      rintro e w1 ⟨rfl, rfl⟩
      go_wp2
      go_end0
      exact ⟨rfl, by rw [ND.out]; exact HS.out _, HW.out _⟩
    · have ND := Lib.hid (show nd ⟨p, why, false⟩ b = ⟨p, why, !b⟩ from by simp [nd, hw])
      go_enter Try.func46, Try.ntmps46
      go_wp2_with fail
      refine HE.out.mono ?_
      rintro e w1 ⟨rfl, rfl⟩
      go_wp2
      go_end0
      exact ⟨rfl, by rw [ND.out]; exact HS.out _, HW.out _⟩
  · have ND := Lib.hid (show nd ⟨p, why, true⟩ b = ⟨p, why, true⟩ from by simp [nd])
    go_enter Try.func46, Try.ntmps46
    go_wp2
    go_end0
    exact ⟨rfl, by rw [ND.out]; exact HS.out _, HW.out _⟩
set_option maxRecDepth 100000 in
set_option maxHeartbeats 4000000 in
theorem from_any (A : Option Addr) (n c : Nat) (bs : List UInt8) (w : World) (h : RdB w A n bs) (hn : n ≤ 140737488351232) :
    Calls Try.prog 32 #[.slice A n c] w fun e w' => ∃ T R O c', e = .returned (.pointer (some ⟨T, 0, none⟩)) ∧ w.heap.size ≤ T ∧ w.heap.size ≤ R ∧ Tk w' T R O n c' bs ⟨0, 0, false⟩ ∧ Below w.heap.size w w' := by
  have HR := Lib.hid (read_any A n c bs w h hn)
  clear h
  go_enter Try.func32, Try.ntmps32
  go_wp2_with fail
  refine HR.out.mono ?_
  rintro e w1 ⟨R, O, c1, rfl, hR, _, hr, b1⟩
  have hT := Blk.new w1 76 #[.pointer (some ⟨R, 0, none⟩), .int .i64 (n : Int), .bool false]
  have q := (Below.refl w1.heap.size w1).alloc (Nat.le_refl _) (.cells #[.pointer (some ⟨R, 0, none⟩), .int .i64 (n : Int), .bool false] 76)
  have hr2 := hr.below q
  go_wp2
  go_ret
  exact ⟨w1.heap.size, R, O, c1, rfl, b1.size, hR, ⟨hT, hr2⟩, bl_ca b1 q⟩
end Go.Proofs.Ytfpodalnnchnoaa
