/- Slices of bytes: what is read, what is owned; bytes.Equal. (The part of Bytes that needs no reference and no sum.) Conditions: the slices read as these bytes, lengths within what a row lets in. -/
import Derived.Test.YtabbiepafibmmaaDoorMem
import Derived.Deep.WholeRow
import Derived.Lib.SliceRun
import Derived.Laws.IdiomStrings
namespace Go.Proofs.YtabbiepafibmmaaDoor
open Go.RowKit
def vb (c : UInt8) : Value := .int .u8 (c.toNat : Int)
theorem ret_int {k : IntKind} {a b : Int} (h : a = b) : Ending.returned (.int k a) = .returned (.int k b) := by rw [h]
theorem below_setRow {B : Nat} (w : World) (g : Nat) (cs : Array Value) (h : B ≤ g) : Below B w (w.setRow g cs) := by
  refine ⟨rfl, rfl, rfl, by simp [World.setRow], fun k hk => ?_⟩
  simp only [World.setRow, Array.getElem?_modify]
  rw [if_neg (by omega)]

theorem Tryd.byteInfo : (Tryd.prog.info? 5).map (fun i => (i.zero, i.size, i.bytes)) = some (some (.int .u8 0), 1, 1) := by kernel_rfl
theorem vb_one (bs : List UInt8) : ∀ u ∈ bs.map vb, u.oneCell' = true := by
  intro u hu; obtain ⟨c, _, rfl⟩ := List.mem_map.1 hu; rfl
/-- A slice of bytes that the call owns: from block B on. -/
def OwnB (w : World) (B : Nat) (A : Option Addr) (n c : Nat) (bs : List UInt8) : Prop := w.ownsRow B 5 1 (.slice A n c) n (bs.map vb)
/-- A slice of bytes that can be read. -/
def RdB (w : World) (A : Option Addr) (n : Nat) (bs : List UInt8) : Prop := Reads w w.heap.size 1 A n (bs.map vb)
theorem OwnB.rd {w : World} {B : Nat} {A : Option Addr} {n c : Nat} {bs : List UInt8} (h : OwnB w B A n c bs) : RdB w A n bs := Reads.of_own h
theorem own_empty (w : World) (t : TypeId) : (w.alloc (.cells #[] t)).ownsRow w.heap.size t 1 (.slice (some ⟨w.heap.size, 0, none⟩) 0 0) 0 [] :=
  ⟨rfl, .inr ⟨w.heap.size, 0, #[], rfl, Nat.le_refl _, heap_alloc_new w _, Nat.le_refl _, by decide, rfl, rfl⟩⟩
theorem own_form {w : World} {B : Nat} {e : TypeId} {s n : Nat} {v : Value} {xs : List Value} (h : w.ownsRow B e s v n xs) : ∃ A c, v = .slice A n c := by
  rcases h.2 with ⟨rfl, rfl⟩ | ⟨g, cap, _, rfl, _⟩
  · exact ⟨_, _, rfl⟩
  · exact ⟨_, _, rfl⟩
theorem own_base {w : World} {B : Nat} {e : TypeId} {s n c : Nat} {A : Option Addr} {xs : List Value} (h : w.ownsRow B e s (.slice A n c) n xs) : ∀ k, (Value.slice A n c).ownBlock = some k → B ≤ k := by
  intro k hk
  rcases h.2 with ⟨e, _⟩ | ⟨g, cap, _, e, hg, _⟩
  · injection e with e; subst e; simp [Value.ownBlock] at hk
  · injection e with e; subst e
    have : g = k := by simpa [Value.ownBlock] using hk
    omega
section
variable {w w' : World} {A : Option Addr} {B n c : Nat} {bs : List UInt8}
theorem RdB.len (h : RdB w A n bs) : bs.length = n := by have := h.1; simpa using this
theorem RdB.cellAt (h : RdB w A n bs) (k : Nat) (hk : k < n) : ∃ ad, A = some ad ∧ ad.block < w.heap.size ∧ w.cell? (ad.add k) = some (vb (bs.getD k 0)) := by
  obtain ⟨ad, u, hA, hB, hu, hc⟩ := Reads.at_ h hk
  have hkl : k < bs.length := by rw [h.len]; exact hk
  refine ⟨ad, hA, hB, ?_⟩
  have : u = vb (bs.getD k 0) := by simpa [hkl, List.getD, List.getElem?_eq_getElem hkl] using hu.symm
  rw [← this]; exact hc
theorem RdB.below (h : RdB w A n bs) (hb : Below w.heap.size w w') : RdB w' A n bs := (Reads.below h hb).more hb.size
theorem RdB.alloc (h : RdB w A n bs) (o : Obj) : RdB (w.alloc o) A n bs := h.below ((Below.refl _ _).alloc (Nat.le_refl _) o)
theorem RdB.nil : RdB w none 0 [] := Reads.none_
theorem RdB.cut (h : RdB w A n bs) {k cap : Nat} (hk : k ≤ n) (hc : n ≤ cap) : RdB w (if cap = k then A else A.map (·.add k)) (n - k) (bs.drop k) := by
  have := Reads.cut h hk hc
  simp only [Nat.mul_one] at this
  unfold RdB
  rw [List.map_drop]
  exact this
theorem RdB.take (h : RdB w A n bs) {k : Nat} (hk : k ≤ n) : RdB w A k (bs.take k) := by
  refine ⟨by rw [List.length_map, List.length_take, h.len]; omega, fun h0 => ?_⟩
  obtain ⟨ad, e, hb, hc⟩ := h.2 (by omega)
  refine ⟨ad, e, hb, fun j u hu => hc j u ?_⟩
  rw [List.map_take, List.getElem?_take] at hu
  split at hu
  · exact hu
  · cases hu
theorem RdB.one (w : World) (b : UInt8) (v : Value) (hv : v = vb b) (t : TypeId) : RdB (w.alloc (.cells #[v] t)) (some ⟨w.heap.size, 0, none⟩) 1 [b] := by
  subst hv
  refine ⟨rfl, fun _ => ⟨_, rfl, by simp, fun j u hu => ?_⟩⟩
  match j, hu with
  | 0, hu => simp at hu; subst hu; simp [Addr.add, vb]
theorem OwnB.cap (h : OwnB w B A n c bs) : n ≤ c ∧ c ≤ maxLen := by
  rcases h.2 with ⟨e, _⟩ | ⟨g, cap, _, e, _, _, h1, h2, _⟩
  · injection e with _ e1 e2; subst e1 e2; exact ⟨Nat.le_refl _, Nat.zero_le _⟩
  · injection e with _ _ e2; subst e2; exact ⟨h1, h2⟩
theorem OwnB.below (h : OwnB w B A n c bs) (hb : Below w.heap.size w w') : OwnB w' B A n c bs := by
  refine ⟨h.1, ?_⟩
  rcases h.2 with h2 | ⟨g, cap, cur, e, hg, hh, r⟩
  · exact .inl h2
  · have hlt : g < w.heap.size := by
      rcases Nat.lt_or_ge g w.heap.size with h | h
      · exact h
      · rw [Array.getElem?_eq_none h] at hh; cases hh
    exact .inr ⟨g, cap, cur, e, hg, (hb.block g hlt).trans hh, r⟩
theorem OwnB.alloc (h : OwnB w B A n c bs) (o : Obj) : OwnB (w.alloc o) B A n c bs := h.below ((Below.refl _ _).alloc (Nat.le_refl _) o)
theorem OwnB.less (h : OwnB w B A n c bs) {B' : Nat} (hB : B' ≤ B) : OwnB w B' A n c bs := by
  refine ⟨h.1, ?_⟩
  rcases h.2 with h2 | ⟨g, cap, cur, e, hg, r⟩
  · exact .inl h2
  · exact .inr ⟨g, cap, cur, e, Nat.le_trans hB hg, r⟩
theorem OwnB.empty (w : World) : OwnB (w.alloc (.cells #[] 5)) w.heap.size (some ⟨w.heap.size, 0, none⟩) 0 0 [] := own_empty w _
theorem OwnB.none_ (w : World) (B : Nat) : OwnB w B none 0 0 [] := World.ownsRow_nil _ _ _ _
end
/-- append(out, src...): out the call's own, src whatever can be read. -/
theorem wpList_appB {ops : Array Oper} {rest : List Oper} {o : Oper} {a : Act} {w : World} {Q : Exit → Act → World → Prop} (hgd : o.guard = none) (s x : Operand)
    (ho : o.op = .call { callee := .builtin .append, args := #[s, x], argTypes := #[57, 57] })
    (B : Nat) (A : Option Addr) (n c : Nat) (xs : List UInt8) (A2 : Option Addr) (m c2 : Nat) (ys : List UInt8)
    (hs : a.eval s = .slice A n c) (hx : a.eval x = .slice A2 m c2) (hown : OwnB w B A n c xs) (hr : RdB w A2 m ys) (hb : n + m ≤ 140737488355328) (hB : B ≤ w.heap.size)
    (h : ∀ A' c' w', OwnB w' B A' (n + m) c' (xs ++ ys) → Below B w w' → wpList Tryd.prog ops Q rest (a.put o.dst (.slice A' (n + m) c')) w') : wpList Tryd.prog ops Q (o :: rest) a w := by
  obtain ⟨i0, hi0, hz0, hz1, hz2⟩ := info_parts Tryd.byteInfo
  refine wpList_append_any w hgd s x 57 ho B 5 i0 _ 1 1 Tryd.underlying57 hi0 hz0 hz1 hz2 rfl (by omega) (.slice A n c) n (xs.map vb) hs hown w.heap.size A2 m c2 (ys.map vb) hx hr (vb_one ys) (by simp only [maxLen]; omega) (by omega) hB ?_
  intro v' w' hown' hg hat
  obtain ⟨A', c', rfl⟩ := own_form hown'
  refine h A' c' w' (by unfold OwnB; rw [List.map_append]; exact hown') ?_
  exact (Below.refl _ _).grown hg hB (own_base hown)
theorem RdB.str {w : World} {A : Option Addr} {n : Nat} {bs : List UInt8} (h : RdB w A n bs) (c : Nat) : (convert 57 9 (.slice A n c)).run Tryd.prog w = .ok (.string ⟨bs.toArray⟩) w := by
  have hl := h.len
  rcases Nat.eq_zero_or_pos n with h0 | h0
  · subst h0
    obtain rfl : bs = [] := List.eq_nil_of_length_eq_zero hl
    rw [run_convert_bytes_string w 57 9 5 _ 0 c Tryd.underlying57 Tryd.underlying5 Tryd.underlying9]
    cases A <;> simp [Conv.bytesToString, loadCells]
    all_goals rfl
  · obtain ⟨ad, rfl, _, hc⟩ := h.cellAt 0 h0
    subst hl
    refine run_convert_bytes_back w 57 9 5 ad c bs Tryd.underlying57 Tryd.underlying5 Tryd.underlying9 (fun j hj => ?_)
    obtain ⟨ad', e, _, hc⟩ := h.cellAt j hj
    injection e with e; subst e
    rw [hc]; simp [vb, List.getD, List.getElem?_eq_getElem hj]
end Go.Proofs.YtabbiepafibmmaaDoor
