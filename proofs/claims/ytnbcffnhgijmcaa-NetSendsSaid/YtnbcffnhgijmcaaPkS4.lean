/- bytes.Clone, slices.Clone of parcels. Conditions: the slices read as these. -/
import Derived.Test.YtnbcffnhgijmcaaPkS3
import Derived.WalkSpells
namespace Go.Proofs.Ytnbcffnhgijmcaa
open Go.RowKit
theorem rdB_none {w : World} {n : Nat} {bs : List UInt8} (h : RdB w none n bs) : n = 0 ∧ bs = [] := by
  rcases Nat.eq_zero_or_pos n with h0 | h0
  · subst h0; exact ⟨rfl, List.eq_nil_of_length_eq_zero h.len⟩
  · obtain ⟨ad, e, _⟩ := h.2 h0; cases e
set_option maxRecDepth 100000 in
theorem bclone_any (A : Option Addr) (n c : Nat) (bs : List UInt8) (w : World) (h : RdB w A n bs) (hn : n ≤ 140737488351232) :
    Calls Try.prog 62 #[.slice A n c] w fun e w' => ∃ A' c', e = .returned (.slice A' n c') ∧ OwnB w' w.heap.size A' n c' bs ∧ Below w.heap.size w w' := by
  cases A with
  | none =>
    obtain ⟨rfl, rfl⟩ := rdB_none h
    clear h
    have HQ : ∀ W, (binOp .eql 27 (.slice none 0 c) (.slice none 0 0)).run Try.prog W = .ok (.bool true) W := fun W => Lib.run_eql_slice_nil W _ _ _ _ _ _ _ Try.underlying27
    go_enter Try.func62, Try.ntmps62
    go_wp2
    go_ret
    exact ⟨none, 0, rfl, OwnB.none_ _ _, Below.refl _ _⟩
  | some a =>
    have oe := OwnB.empty w
    have b1 := bl_al (Below.refl w.heap.size w) (.cells #[] 5)
    have h1 := h.below b1
    have hz := b1.size
    have HQ : ∀ W, (binOp .eql 27 (.slice (some a) n c) (.slice none 0 0)).run Try.prog W = .ok (.bool false) W := fun W => Lib.run_eql_slice_nil W _ _ _ _ _ _ _ Try.underlying27
    go_enter Try.func62, Try.ntmps62
    go_wp2_with (at_builtin; refine wpList_appB rfl (.tmp 5) (.tmp 6) rfl w.heap.size (some ⟨w.heap.size, 0, none⟩) 0 0 [] (some a) n c bs rfl rfl oe h1 (by omega) hz ?_; intro A4 c4 w4 o4 b4; rw [Nat.zero_add, List.nil_append] at o4)
    go_ret
    exact ⟨A4, c4, rfl, o4, b1.trans b4⟩
/-- a parcel in a row of the call's own: where its bytes lie -/
structure El where
  p : PC
  A : Option Addr
  n : Nat
  c : Nat
def El.cells (e : El) : List Value := [.int .u64 e.p.num, .int .i64 e.p.frm, .int .i64 e.p.to, .slice e.A e.n e.c, .bool e.p.sp]
def ecells (es : List El) : List Value := es.flatMap El.cells
theorem ecells_len (es : List El) : (ecells es).length = es.length * 5 := by
  induction es with
  | nil => rfl
  | cons e l ih => simp [ecells, El.cells] at ih ⊢; omega
theorem ecells_append (a b : List El) : ecells (a ++ b) = ecells a ++ ecells b := by simp [ecells]
theorem ecells_one (es : List El) : ∀ u ∈ ecells es, u.oneCell' = true := by
  intro u hu
  obtain ⟨e, _, hu⟩ := List.mem_flatMap.1 hu
  simp [El.cells] at hu
  rcases hu with rfl | rfl | rfl | rfl | rfl <;> rfl
/-- the bytes of an element can be read, among F -/
def El.ok (w : World) (F : Nat → Prop) (e : El) : Prop := LB.rd w F e.A e.n e.p.bs ∧ e.n ≤ e.c ∧ e.c ≤ 9223372036854775807
theorem El.ok_below {w w' : World} {F : Nat → Prop} {e : El} (h : e.ok w F) (q : Below w.heap.size w w') : e.ok w' F := ⟨Lay.rd_below h.1 q, h.2⟩
theorem reps_els {w : World} {F : Nat → Prop} : ∀ {ps : List PC} {cs : List Value}, LP.reps w F ps cs → ∃ es : List El, es.map El.p = ps ∧ cs = ecells es ∧ ∀ e ∈ es, e.ok w F
  | [], _, h => ⟨[], rfl, h, by simp⟩
  | p :: l, _, h => by
    obtain ⟨x, y, rfl, ⟨A, n, c, rfl, h1, h2, h3⟩, hy⟩ := h
    obtain ⟨es, rfl, rfl, he⟩ := reps_els hy
    refine ⟨⟨p, A, n, c⟩ :: es, rfl, rfl, ?_⟩
    intro e hm
    rcases List.mem_cons.1 hm with rfl | hm
    · exact ⟨h3, h1, h2⟩
    · exact he e hm
theorem LP_els {w : World} {F : Nat → Prop} {A : Option Addr} {m : Nat} {ps : List PC} (h : LP.rd w F A m ps) :
    ∃ es : List El, es.map El.p = ps ∧ Reads w w.heap.size 5 A m (ecells es) ∧ ∀ e ∈ es, e.ok w F := by
  obtain ⟨hl, cs, hr, hc⟩ := h
  obtain ⟨es, rfl, rfl, he⟩ := reps_els hr
  refine ⟨es, rfl, ⟨by rw [ecells_len, ← hl]; simp, fun hn => ?_⟩, he⟩
  obtain ⟨ad, e, hb, _, hh⟩ := hc hn
  exact ⟨ad, e, hb, hh⟩
/-- a row of parcels of the call's own -/
def Ro (w : World) (B : Nat) (A : Option Addr) (n c : Nat) (es : List El) : Prop := w.ownsRow B 29 5 (.slice A n c) n (ecells es)
theorem Ro.nil (w : World) (B : Nat) : Ro w B none 0 0 [] := World.ownsRow_nil _ _ _ _
theorem Ro.len {w : World} {B : Nat} {A : Option Addr} {n c : Nat} {es : List El} (h : Ro w B A n c es) : es.length = n := by
  have := h.1
  rw [ecells_len] at this
  omega
theorem Ro.below {w w' : World} {B : Nat} {A : Option Addr} {n c : Nat} {es : List El} (h : Ro w B A n c es) (q : Below w.heap.size w w') : Ro w' B A n c es := ownsRow_below h q
/-- append(out, src...): out the call's own, src whatever can be read -/
theorem wpList_appE {ops : Array Oper} {rest : List Oper} {o : Oper} {a : Act} {w : World} {Q : Exit → Act → World → Prop} (hgd : o.guard = none) (s x : Operand)
    (ho : o.op = .call { callee := .builtin .append, args := #[s, x], argTypes := #[24, 24] })
    (B : Nat) (A : Option Addr) (n c : Nat) (xs : List El) (A2 : Option Addr) (m c2 : Nat) (ys : List El)
    (hs : a.eval s = .slice A n c) (hx : a.eval x = .slice A2 m c2) (hown : Ro w B A n c xs) (hr : Reads w w.heap.size 5 A2 m (ecells ys)) (hb : n + m ≤ 100000) (hB : B ≤ w.heap.size)
    (h : ∀ A' c' w', Ro w' B A' (n + m) c' (xs ++ ys) → Below B w w' → (∀ b, b < w.heap.size → (Value.slice A n c).ownBlock ≠ some b → w'.heap[b]? = w.heap[b]?) → wpList Try.prog ops Q rest (a.put o.dst (.slice A' (n + m) c')) w') : wpList Try.prog ops Q (o :: rest) a w := by
  obtain ⟨i0, hi0, hz0, hz1, hz2⟩ := info_parts Try.parcelInfo
  refine wpList_append_any w hgd s x 24 ho B 29 i0 _ 5 56 Try.underlying24 hi0 hz0 hz1 hz2 rfl (by omega) (.slice A n c) n (ecells xs) hs hown w.heap.size A2 m c2 (ecells ys) hx hr (ecells_one ys) (by simp only [maxLen]; omega) (by omega) hB ?_
  intro v' w' hown' hg hat
  obtain ⟨A', c', rfl⟩ := own_form' hown'
  refine h A' c' w' (by unfold Ro; rw [ecells_append]; exact hown') ((Below.refl _ _).grown hg hB (fun k hk => (own_base' hown k hk).1)) ?_
  intro b hb hne
  exact hg.block b hb (fun e => hne e.symm)
theorem Ro.empty (w : World) : Ro (w.alloc (.cells #[] 29)) w.heap.size (some ⟨w.heap.size, 0, none⟩) 0 0 [] := ⟨rfl, .inr ⟨w.heap.size, 0, #[], rfl, Nat.le_refl _, heap_alloc_new w _, Nat.le_refl _, by decide, rfl, rfl⟩⟩
set_option maxRecDepth 100000 in
theorem sclone_any (F : Nat → Prop) (A : Option Addr) (m c : Nat) (ps : List PC) (w : World) (h : LP.rd w F A m ps) (hm : m ≤ 20000) :
    Calls Try.prog 64 #[.slice A m c] w fun e w' => ∃ A' c' es, e = .returned (.slice A' m c') ∧ es.map El.p = ps ∧ Ro w' w.heap.size A' m c' es ∧ (∀ e ∈ es, e.ok w F) ∧ Below w.heap.size w w' := by
  obtain ⟨es, hes, hr, hok⟩ := LP_els h
  have HES := Lib.hid hes
  clear hes
  cases A with
  | none =>
    have hm0 : m = 0 := by
      rcases Nat.eq_zero_or_pos m with h0 | h0
      · exact h0
      · obtain ⟨ad, e, _⟩ := hr.2 h0; cases e
    subst hm0
    have he : es = [] := by
      have := hr.1
      rw [ecells_len] at this
      exact List.eq_nil_of_length_eq_zero (by omega)
    subst he
    clear h hr hok
    have HQ : ∀ W, (binOp .eql 24 (.slice none 0 c) (.slice none 0 0)).run Try.prog W = .ok (.bool true) W := fun W => Lib.run_eql_slice_nil W _ _ _ _ _ _ _ Try.underlying24
    go_enter Try.func64, Try.ntmps64
    go_wp2
    go_ret
    exact ⟨none, 0, [], rfl, HES.out, Ro.nil _ _, by simp, Below.refl _ _⟩
  | some a =>
    have oe := Ro.empty w
    have b1 := bl_al (Below.refl w.heap.size w) (.cells #[] 29)
    have h1 : Reads (w.alloc (.cells #[] 29)) (w.alloc (.cells #[] 29)).heap.size 5 (some a) m (ecells es) := (hr.below b1).more b1.size
    have hz := b1.size
    have HQ : ∀ W, (binOp .eql 24 (.slice (some a) m c) (.slice none 0 0)).run Try.prog W = .ok (.bool false) W := fun W => Lib.run_eql_slice_nil W _ _ _ _ _ _ _ Try.underlying24
    go_enter Try.func64, Try.ntmps64
    go_wp2_with (at_builtin; refine wpList_appE rfl (.tmp 5) (.tmp 6) rfl w.heap.size (some ⟨w.heap.size, 0, none⟩) 0 0 [] (some a) m c es rfl rfl oe h1 (by omega) hz ?_; intro A4 c4 w4 o4 b4 _; rw [Nat.zero_add, List.nil_append] at o4)
    go_ret
    exact ⟨A4, c4, es, rfl, HES.out, o4, hok, b1.trans b4⟩
end Go.Proofs.Ytnbcffnhgijmcaa
/- A row of parcels that a call owns whole. Conditions: none. -/
namespace Go.Proofs.Ytnbcffnhgijmcaa
open Go.RowKit
def El.bk (e : El) : Option Nat := (Value.slice e.A e.n e.c).ownBlock
def Apart (a b : El) : Prop := ∀ k, a.bk = some k → b.bk ≠ some k
/-- the parcels' bytes, too, each in memory of its own -/
structure DO (w : World) (B : Nat) (A : Option Addr) (n c : Nat) (es : List El) : Prop where
  row : Ro w B A n c es
  own : ∀ e ∈ es, OwnB w B e.A e.n e.c e.p.bs
  apart : es.Pairwise Apart
theorem OwnB.kept {w w' : World} {B : Nat} {A : Option Addr} {n c r : Nat} {bs : List UInt8} (h : OwnB w B A n c bs) (hg : w.grownBy w' (some r)) (hne : (Value.slice A n c).ownBlock ≠ some r) : OwnB w' B A n c bs := World.ownsRow.kept h hg (.inr hne)
theorem OwnB.base_ {w : World} {B : Nat} {A : Option Addr} {n c : Nat} {bs : List UInt8} (h : OwnB w B A n c bs) : ∀ k, (Value.slice A n c).ownBlock = some k → B ≤ k ∧ k < w.heap.size := own_base' h
theorem Ro.kept {w w' : World} {B : Nat} {A : Option Addr} {n c r : Nat} {es : List El} (h : Ro w B A n c es) (hg : w.grownBy w' (some r)) (hne : (Value.slice A n c).ownBlock ≠ some r) : Ro w' B A n c es := World.ownsRow.kept h hg (.inr hne)
theorem DO.below {w w' : World} {B : Nat} {A : Option Addr} {n c : Nat} {es : List El} (h : DO w B A n c es) (q : Below w.heap.size w w') : DO w' B A n c es :=
  ⟨h.row.below q, fun e he => (h.own e he).below q, h.apart⟩
theorem DO.kept {w w' : World} {B : Nat} {A : Option Addr} {n c r : Nat} {es : List El} (h : DO w B A n c es) (hg : w.grownBy w' (some r)) (hr : r < B) : DO w' B A n c es :=
  ⟨h.row.kept hg (fun e => by have := (own_base' h.row r e).1; omega), fun e he => (h.own e he).kept hg (fun e' => by have := ((h.own e he).base_ r e').1; omega), h.apart⟩
theorem DO.nil (w : World) (B : Nat) : DO w B none 0 0 [] := ⟨Ro.nil w B, by simp, .nil⟩
theorem DO.len {w : World} {B : Nat} {A : Option Addr} {n c : Nat} {es : List El} (h : DO w B A n c es) : es.length = n := h.row.len
theorem reads_of_LB {w : World} {F : Nat → Prop} {B : Nat} {A : Option Addr} {n c : Nat} {bs : List UInt8} (h : OwnB w B A n c bs) (hF : ∀ b, B ≤ b → F b) : LB.rd w F A n bs := by
  refine ⟨(OwnB.rd h).len, bs.map vb, ?_, fun hn => ?_⟩
  · clear h
    induction bs with
    | nil => rfl
    | cons b l ih => exact ⟨[vb b], l.map vb, rfl, rfl, ih⟩
  · obtain ⟨ad, e, hb, hc⟩ := (OwnB.rd h).2 hn
    refine ⟨ad, e, hb, hF _ ?_, hc⟩
    subst e
    exact (h.base_ _ rfl).1
theorem El.ok_of {w : World} {F : Nat → Prop} {B : Nat} {e : El} (h : OwnB w B e.A e.n e.c e.p.bs) (hF : ∀ b, B ≤ b → F b) : e.ok w F := by
  have hc := h.cap
  exact ⟨reads_of_LB h hF, hc.1, hc.2⟩
theorem reps_of_els {w : World} {F : Nat → Prop} : ∀ {es : List El}, (∀ e ∈ es, e.ok w F) → LP.reps w F (es.map El.p) (ecells es)
  | [], _ => rfl
  | e :: l, h => ⟨e.cells, ecells l, rfl, ⟨e.A, e.n, e.c, rfl, (h e (by simp)).2.1, (h e (by simp)).2.2, (h e (by simp)).1⟩, reps_of_els fun x hx => h x (by simp [hx])⟩
theorem Ro.rd {w : World} {F : Nat → Prop} {B : Nat} {A : Option Addr} {n c : Nat} {es : List El} (h : Ro w B A n c es) (he : ∀ e ∈ es, e.ok w F) (hF : ∀ b, B ≤ b → F b) : LP.rd w F A n (es.map El.p) := by
  refine ⟨by rw [List.length_map]; exact h.len, ecells es, reps_of_els he, fun hn => ?_⟩
  obtain ⟨ad, e, hb, hc⟩ := (Reads.of_own h).2 hn
  refine ⟨ad, e, hb, hF _ ?_, hc⟩
  subst e
  exact (own_base' h _ rfl).1
theorem DO.rd {w : World} {F : Nat → Prop} {B : Nat} {A : Option Addr} {n c : Nat} {es : List El} (h : DO w B A n c es) (hF : ∀ b, B ≤ b → F b) : LP.rd w F A n (es.map El.p) :=
  h.row.rd (fun e he => El.ok_of (h.own e he) hF) hF
/-- where the row lies -/
theorem Ro.form {w : World} {B : Nat} {A : Option Addr} {n c : Nat} {es : List El} (h : Ro w B A n c es) (hn : 0 < n) : ∃ g, A = some ⟨g, 0, none⟩ ∧ B ≤ g ∧ g < w.heap.size := by
  obtain ⟨g, cap, hv, _, hlt⟩ := World.ownsRow.form h hn
  injection hv with e
  subst e
  exact ⟨g, rfl, (own_base' h g (by simp [Value.ownBlock])).1, hlt⟩
/-- a cell of a parcel in the row -/
theorem Ro.cell {w : World} {B g n c : Nat} {es : List El} (h : Ro w B (some ⟨g, 0, none⟩) n c es) {i : Nat} {e : El} (he : es[i]? = some e) :
    w.cell? ⟨g, i * 5, none⟩ = some (.int .u64 e.p.num) ∧ w.cell? ⟨g, i * 5 + 1, none⟩ = some (.int .i64 e.p.frm) ∧ w.cell? ⟨g, i * 5 + 2, none⟩ = some (.int .i64 e.p.to) ∧ w.cell? ⟨g, i * 5 + 3, none⟩ = some (.slice e.A e.n e.c) ∧ w.cell? ⟨g, i * 5 + 4, none⟩ = some (.bool e.p.sp) := by
  have hi : i < n := by rw [← h.len]; exact (List.getElem?_eq_some_iff.1 he).1
  have key : ∀ j, j < 5 → (ecells es)[i * 5 + j]? = e.cells[j]? := by
    intro j hj
    clear h hi
    induction es generalizing i with
    | nil => simp at he
    | cons x l ih =>
      cases i with
      | zero =>
        simp at he
        subst he
        show (x.cells ++ ecells l)[0 * 5 + j]? = _
        rw [List.getElem?_append_left (by simp [El.cells]; omega)]
        simp
      | succ i =>
        show (x.cells ++ ecells l)[(i + 1) * 5 + j]? = _
        rw [List.getElem?_append_right (by simp [El.cells]; omega), show (i + 1) * 5 + j - x.cells.length = i * 5 + j from by simp [El.cells]; omega]
        exact ih (by simpa using he)
  have cl : ∀ j, j < 5 → w.cell? ⟨g, i * 5 + j, none⟩ = e.cells[j]? := fun j hj => (World.ownsRow.cellAt h (i * 5 + j) (by omega)).trans (key j hj)
  exact ⟨cl 0 (by omega), cl 1 (by omega), cl 2 (by omega), cl 3 (by omega), cl 4 (by omega)⟩
theorem ecells_set3 (done rest : List El) (e : El) (A : Option Addr) (n c : Nat) : (ecells (done ++ e :: rest)).set (done.length * 5 + 3) (.slice A n c) = ecells (done ++ ⟨e.p, A, n, c⟩ :: rest) := by
  rw [ecells_append, ecells_append, List.set_append_right _ _ (by rw [ecells_len]; omega), ecells_len]
  rw [show done.length * 5 + 3 - done.length * 5 = 3 from by omega]
  rfl
/-- a parcel's bytes are laid anew -/
theorem Ro.set3 {w : World} {B g n c : Nat} {done rest : List El} {e : El} (h : Ro w B (some ⟨g, 0, none⟩) n c (done ++ e :: rest)) (A : Option Addr) (k d : Nat) :
    Ro (w.setCell ⟨g, done.length * 5 + 3, none⟩ (.slice A k d)) B (some ⟨g, 0, none⟩) n c (done ++ ⟨e.p, A, k, d⟩ :: rest) ∧ w.grownBy (w.setCell ⟨g, done.length * 5 + 3, none⟩ (.slice A k d)) (some g) := by
  have := World.ownsRow.stored h (done.length * 5 + 3) (.slice A k d)
  rw [ecells_set3] at this
  exact this
end Go.Proofs.Ytnbcffnhgijmcaa
/- net.with. Conditions: the slice reads as these parcels; what is handed over keeps to its contract. -/
namespace Go.Proofs.Ytnbcffnhgijmcaa
open Go.RowKit
/-- what is handed over: it finds the copy in block b, whose parcels lie from B on -/
def DoC (D : FuncId) (cap : Array Value) (W : World) (b B : Nat) (sent : Int) (m : Nat) (ps : List PC) (J : Int → World → Prop) (Y : World → Int → List El → Prop) : Prop :=
  ∀ w A c es, Below b W w → b < B → B ≤ w.heap.size → Blk w b 26 #[.int .u64 sent, .slice A m c] → DO w B A m c es → es.map El.p = ps →
    Calls Try.prog D (#[.pointer (some ⟨b, 0, none⟩)] ++ cap) w fun e w' => ∃ er, e = .returned (.int .i64 er) ∧ J er w' ∧ w.heap.size ≤ w'.heap.size ∧ (∀ k, b < k → k < B → w'.heap[k]? = w.heap[k]?) ∧
      (er = 0 → ∃ s A2 m2 c2 es2, Blk w' b 26 #[.int .u64 s, .slice A2 m2 c2] ∧ DO w' B A2 m2 c2 es2 ∧ Y w' s es2)
/-- memory that was there -/
def Old (w : World) : Nat → Prop := fun b => b < w.heap.size
theorem El.ok_old {w w1 w2 : World} {e : El} (h : e.ok w1 (Old w)) (hk : ∀ b, b < w.heap.size → w2.heap[b]? = w1.heap[b]?) : e.ok w2 (Old w) := ⟨Lay.rd_keep (fun b hb _ => hk b hb) h.1, h.2⟩
theorem ro_less {w : World} {B B' : Nat} {A : Option Addr} {n c : Nat} {es : List El} (h : Ro w B A n c es) (hB : B' ≤ B) : Ro w B' A n c es := by
  refine ⟨h.1, ?_⟩
  rcases h.2 with h2 | ⟨g, cap, cur, e, hg, r⟩
  · exact .inl h2
  · exact .inr ⟨g, cap, cur, e, Nat.le_trans hB hg, r⟩
structure WithL (w : World) (sent : Int) (A : Option Addr) (m c : Nat) (ps : List PC) (done rest : List El) (wr : World) : Prop where
  map : (done ++ rest).map El.p = ps
  old : ∀ e ∈ rest, e.ok w (Old w)
  row : Ro wr (w.heap.size + 2) A m c (done ++ rest)
  own : ∀ e ∈ done, OwnB wr (w.heap.size + 2) e.A e.n e.c e.p.bs
  apart : done.Pairwise Apart
  net : Blk wr w.heap.size 26 #[.int .u64 sent, .slice A m c]
  res : Blk wr (w.heap.size + 1) 26 #[.int .u64 0, .slice none 0 0]
  bel : Below w.heap.size w wr
  size : w.heap.size + 2 ≤ wr.heap.size
theorem own_ne_ro {w : World} {B B' g m c' : Nat} {A : Option Addr} {n c : Nat} {bs : List UInt8} {es : List El} (h : OwnB w B A n c bs) (hr : Ro w B' (some ⟨g, 0, none⟩) m c' es) : (Value.slice A n c).ownBlock ≠ some g := by
  rcases hr.2 with ⟨h', _⟩ | ⟨g', cap, cur, h', _, hg, _⟩
  · simp at h'
  · simp only [Value.slice.injEq, Option.some.injEq, Addr.mk.injEq, and_true, true_and] at h'
    obtain ⟨rfl, _⟩ := h'
    intro e
    rcases h.2 with ⟨h2, _⟩ | ⟨k, cap2, cur2, h2, _, hk, _⟩
    · rw [h2] at e; simp [Value.ownBlock] at e
    · rw [h2] at e
      have : k = g := by simpa [Value.ownBlock] using e
      subst this
      rw [hk] at hg
      injection hg with hg
      injection hg with _ hg
      exact absurd hg (by decide)
theorem WithL.next {w wr w5 : World} {sent : Int} {gr m c : Nat} {ps : List PC} {done rest : List El} {e : El} {i : Nat} {A4 : Option Addr} {c4 : Nat} (h : WithL w sent (some ⟨gr, 0, none⟩) m c ps done (e :: rest) wr) (hd : done.length = i) (hT : Below wr.heap.size wr w5) (ho : OwnB w5 wr.heap.size A4 e.n c4 e.p.bs) :
    WithL w sent (some ⟨gr, 0, none⟩) m c ps (done ++ [⟨e.p, A4, e.n, c4⟩]) rest (w5.setCell ⟨gr, i * 5 + 3, none⟩ (.slice A4 e.n c4)) := by
  subst hd
  have r5 := h.row.below hT
  obtain ⟨r6, hg⟩ := r5.set3 A4 e.n c4
  have hgb := own_base' h.row gr rfl
  have hsz := h.size
  refine ⟨?_, fun x hx => h.old x (by simp [hx]), ?_, ?_, ?_, ?_, ?_, bl_gr (bl_ca h.bel hT) hg (by omega), ?_⟩
  · rw [← h.map]; simp
  · rw [List.append_assoc]; exact r6
  · intro x hx
    rcases List.mem_append.1 hx with hx | hx
    · have hx5 := (h.own x hx).below hT
      exact hx5.kept hg (own_ne_ro hx5 r5)
    · rw [List.mem_singleton.1 hx]
      exact (OwnB.less ho (by omega)).kept hg (own_ne_ro ho r5)
  · rw [List.pairwise_append]
    refine ⟨h.apart, List.pairwise_singleton _ _, fun x hx y hy k hk => ?_⟩
    rw [List.mem_singleton.1 hy]
    intro e'
    have h1 := ((h.own x hx).base_ k hk).2
    have h2 := (ho.base_ k e').1
    omega
  · exact (h.net.ca hT).apart hg (by omega)
  · exact (h.res.ca hT).apart hg (by omega)
  · have := hT.size
    have := hg.size
    omega
theorem chk_len {sent : Int} {ps : List PC} (h : chkB sent ps = true) : ∀ p ∈ ps, p.bs.length ≤ 60000 := by
  unfold chkB at h
  simp only [Bool.and_eq_true] at h
  replace h := h.2
  generalize (0 : Int) = last at h
  induction ps generalizing last with
  | nil => simp
  | cons x l ih =>
    unfold goB at h
    simp only [Bool.and_eq_true] at h
    intro p hp
    rcases List.mem_cons.1 hp with rfl | hp
    · have h1 := h.1
      unfold parB at h1
      simp only [Bool.and_eq_true, decide_eq_true_eq] at h1
      omega
    · exact ih _ h.2 p hp
set_option maxRecDepth 100000 in
set_option maxHeartbeats 8000000 in
theorem with_any (sent : Int) (A : Option Addr) (m c : Nat) (ps : List PC) (D : FuncId) (cap : Array Value) (J : Int → World → Prop) (Y : World → Int → List El → Prop) (w : World) (h : LP.rd w AllB A m ps) (hm : m ≤ 20000) (hok : chkB sent ps = true)
    (hent : ∀ (args : Array Value) (w : World), (callFunc D args).run Try.prog w = .ok (.enter D args) w)
    (hD : DoC D cap w w.heap.size (w.heap.size + 2) sent m ps J Y) (hJ : ∀ er w1 w2, J er w1 → w1.grownBy w2 (some (w.heap.size + 1)) → J er w2) (hY : ∀ s es w1 w2, Y w1 s es → w1.grownBy w2 (some (w.heap.size + 1)) → Y w2 s es) :
    Calls Try.prog 41 #[.agg #[.int .u64 sent, .slice A m c], .func (.func D) #[] cap] w fun e w' => ∃ er, J er w' ∧ w.heap.size ≤ w'.heap.size ∧
      ((er ≠ 0 ∧ e = .returned (.tuple #[.agg #[.int .u64 0, .slice none 0 0], .int .i64 er])) ∨ (er = 0 ∧ ∃ s A2 m2 c2 es2, e = .returned (.tuple #[.agg #[.int .u64 s, .slice A2 m2 c2], .int .i64 0]) ∧ DO w' (w.heap.size + 2) A2 m2 c2 es2 ∧ Y w' s es2)) := by
  have HC := Lib.hid (fun W (h : LP.rd W (Old w) A m ps) => by have := check_any (Old w) sent A m c ps W h (by omega); rw [hok, show errN true = 0 from rfl] at this; exact this)
  have HCL := Lib.hid (fun W (h : LP.rd W (Old w) A m ps) => sclone_any (Old w) A m c ps W h hm)
  have HEN := hent
  have HLEN := Lib.hid (chk_len hok)
  have HD := Lib.hid hD
  have HJ := Lib.hid hJ
  have HYY := Lib.hid hY
  have b1 := bl_al (bl_al (Below.refl w.heap.size w) (.cells #[.int .u64 sent, .slice A m c] 26)) (.cells #[.int .u64 0, .slice none 0 0] 26)
  have hN := (Blk.new w 26 #[.int .u64 sent, .slice A m c]).ca (bl_al (Below.refl _ _) (.cells #[.int .u64 0, .slice none 0 0] 26))
  have hR : Blk _ (w.heap.size + 1) _ _ := Blk.mk' (w := w.alloc (.cells #[.int .u64 sent, .slice A m c] 26)) (t := 26) (cs := #[.int .u64 0, .slice none 0 0]) (by simp only [World.size_alloc])
  have h1 := Lib.hid (Lay.rd_below (Lay.rd_weak (G := Old w) (fun b _ hb => hb) h) b1)
  have hsz : w.heap.size + 2 ≤ ((w.alloc (.cells #[.int .u64 sent, .slice A m c] 26)).alloc (.cells #[.int .u64 0, .slice none 0 0] 26)).heap.size := by simp only [World.size_alloc]; omega
  clear hok hent hD hJ hY h
  go_enter Try.func41, Try.ntmps41
  go_wp2_with fail
  generalize (w.alloc (.cells #[.int .u64 sent, .slice A m c] 26)).alloc (.cells #[.int .u64 0, .slice none 0 0] 26) = w1 at *
  refine (HC.out _ h1.out).mono ?_
  rintro e w2 ⟨rfl, q2⟩
  replace b1 := bl_ca b1 q2
  replace hN := hN.ca q2
  replace hR := hR.ca q2
  replace hsz := Nat.le_trans hsz q2.size
  have h2 := Lib.hid (Lay.rd_below h1.out q2)
  clear q2 h1 HC
  have n1 := hN.cell 1
  go_wp2_with fail
  refine (HCL.out _ h2.out).mono ?_
  rintro e w3 ⟨A3, c3, es, rfl, hes, ro, hok, q3⟩
  have hN3 := hN.ca q3
  have hR3 := hR.ca q3
  have b3 := bl_ca b1 q3
  have hg4 : w3.grownBy (w3.setCell ⟨w.heap.size, 1, none⟩ (.slice A3 m c3)) (some w.heap.size) := only_setCell (World.grownBy.refl w3 _) (.inl rfl) _
  have hWL : WithL w sent A3 m c3 ps [] es (w3.setCell ⟨w.heap.size, 1, none⟩ (.slice A3 m c3)) := by
    refine ⟨hes, fun e he => ?_, ?_, by simp, .nil, by simpa using hN3.set_ 1 (.slice A3 m c3), hR3.apart hg4 (by omega), bl_gr b3 hg4 (Nat.le_refl _), ?_⟩
    · exact El.ok_old (hok e he) (fun b hb => (b1.block b hb).symm)
    · exact (ro_less ro (by omega)).kept hg4 (fun e => by have := (own_base' ro _ e).1; omega)
    · have := q3.size; have := hg4.size; omega
  have HWL := Lib.hid hWL
  have hc1 : w3.cell? ⟨w.heap.size, 1, none⟩ = some (.slice A m c) := hN3.cell 1
  have hf1 : w3.frozen? ⟨w.heap.size, 1, none⟩ = false := hN3.frozen 1
  clear hWL hes hok ro hN hR q3 n1 h2 HCL hN3 hR3 b3 hg4 b1 hsz
  have n4 : (w3.setCell ⟨w.heap.size, 1, none⟩ (.slice A3 m c3)).cell? ⟨w.heap.size, 1, none⟩ = some (.slice A3 m c3) := HWL.out.net.cell 1
  go_wp2_with fail
  clear hc1 hf1 n4
  generalize w3.setCell ⟨w.heap.size, 1, none⟩ (.slice A3 m c3) = w4 at *
  go_loopg [22] m (fun g s wr => ∃ (i : Nat) (done rest : List El), i + g ≤ m ∧ m ≤ i + g ∧ s = .int .i64 i ∧ done.length = i ∧ WithL w sent A3 m c3 ps done rest wr)
  case atStart => exact ⟨0, [], es, by omega, by omega, rfl, rfl, HWL.out⟩
  case round =>
    obtain ⟨i, done, rest, hi1, hi2, rfl, hdl, hW⟩ := hrel
    have HDL := Lib.hid hdl
    clear hdl HWL
    by_cases hi : i < m
    · have HW := Lib.hid hW
      obtain ⟨gr, hA, hg1, hg2⟩ := hW.row.form (by omega)
      subst hA
      have hlen := hW.row.len
      obtain ⟨e, rest', hre⟩ : ∃ e r, rest = e :: r := by
        cases rest with
        | nil => rw [List.append_nil, HDL.out] at hlen; omega
        | cons e r => exact ⟨e, r, rfl⟩
      subst hre
      have HGET := Lib.hid (show (done ++ e :: rest')[i]? = some e from by rw [List.getElem?_append_right (by rw [HDL.out]; exact Nat.le_refl _), HDL.out]; simp)
      have heo := hW.old e (by simp)
      have HEB := Lib.hid (fun W (q : Below w.heap.size w W) => LB_rd (El.ok_old heo (fun b hb => q.block b hb)).1)
      have hen : e.n ≤ 60000 := by
        have h1 := HLEN.out e.p (by rw [← hW.map]; simp)
        rw [heo.1.1] at h1
        exact h1
      clear hlen hW heo
      have hii : (i : Int) < (m : Int) := by omega
      go_wp2_with fail
      refine wp_region_ps (S := Seq2 9 12 (Grew wr) (fun v w' => Below wr.heap.size wr w' ∧ ∃ A4 c4, v = .slice A4 e.n c4 ∧ OwnB w' wr.heap.size A4 e.n c4 e.p.bs) (fun v w' => ∃ w5 A4 c4, Below wr.heap.size wr w5 ∧ v = .slice A4 e.n c4 ∧ OwnB w5 wr.heap.size A4 e.n c4 e.p.bs ∧ w' = w5.setCell ⟨gr, i * 5 + 3, none⟩ (.slice A4 e.n c4))) (by kernel_rfl) ?spswq ?ppswq
      case spswq =>
        exact Seq2.start (by decide) (by decide) (Below.refl _ _).drew
      refine Ps.step (i := 0) (d := some 25) (u := ?uwq_1) rfl rfl (by kernel_rfl) (by kernel_rfl) (by kernel_rfl) (by kernel_rfl) ?ywq_1 ?rwq_1
      case ywq_1 =>
        refine StepS.pure (Seq2.pass (by decide) (by decide)) (by rfl) (fun w9 => ?_)
        go_simp
        try rfl
      try simp only [Act.put, List.setIfInBounds_toArray, List.set_cons_zero, List.set_cons_succ]
      refine Ps.step (i := 1) (d := some 26) (u := ?uwq_2) rfl rfl (by kernel_rfl) (by kernel_rfl) (by kernel_rfl) (by kernel_rfl) ?ywq_2 ?rwq_2
      case ywq_2 =>
        refine StepS.read [] (by kernel_rfl) (Seq2.pass (by decide) (by decide)) (by rfl) (fun L9 m9 w9 hSh hAt hDn hS => ?_)
        have hT : Below wr.heap.size wr w9 := Seq2.early (T := Grew wr) (fun _ h => h) (fun _ _ h => h.1) (reach_no hSh (f := 13) (j := 12) (by kernel_rfl) hDn) hS
        have n1 : w9.cell? ⟨w.heap.size, 1, none⟩ = some (.slice (some ⟨gr, 0, none⟩) m c3) := (HW.out.net.ca hT).cell 1
        go_simp
        try rfl
      try simp only [Act.put, List.setIfInBounds_toArray, List.set_cons_zero, List.set_cons_succ]
      refine Ps.step (i := 2) (d := some 27) (u := ?uwq_3) rfl rfl (by kernel_rfl) (by kernel_rfl) (by kernel_rfl) (by kernel_rfl) ?ywq_3 ?rwq_3
      case ywq_3 =>
        refine StepS.pure (Seq2.pass (by decide) (by decide)) (by rfl) (fun w9 => ?_)
        go_simp
        try rfl
      try simp only [Act.put, List.setIfInBounds_toArray, List.set_cons_zero, List.set_cons_succ]
      refine Ps.step (i := 3) (d := some 28) (u := ?uwq_4) rfl rfl (by kernel_rfl) (by kernel_rfl) (by kernel_rfl) (by kernel_rfl) ?ywq_4 ?rwq_4
      case ywq_4 =>
        refine StepS.pure (Seq2.pass (by decide) (by decide)) (by rfl) (fun w9 => ?_)
        go_simp
        try rfl
      try simp only [Act.put, List.setIfInBounds_toArray, List.set_cons_zero, List.set_cons_succ]
      refine Ps.step (i := 4) (d := some 29) (u := ?uwq_5) rfl rfl (by kernel_rfl) (by kernel_rfl) (by kernel_rfl) (by kernel_rfl) ?ywq_5 ?rwq_5
      case ywq_5 =>
        refine StepS.read [] (by kernel_rfl) (Seq2.pass (by decide) (by decide)) (by rfl) (fun L9 m9 w9 hSh hAt hDn hS => ?_)
        have hT : Below wr.heap.size wr w9 := Seq2.early (T := Grew wr) (fun _ h => h) (fun _ _ h => h.1) (reach_no hSh (f := 13) (j := 12) (by kernel_rfl) hDn) hS
        have n1 : w9.cell? ⟨w.heap.size, 1, none⟩ = some (.slice (some ⟨gr, 0, none⟩) m c3) := (HW.out.net.ca hT).cell 1
        go_simp
        try rfl
      try simp only [Act.put, List.setIfInBounds_toArray, List.set_cons_zero, List.set_cons_succ]
      refine Ps.step (i := 5) (d := some 30) (u := ?uwq_6) rfl rfl (by kernel_rfl) (by kernel_rfl) (by kernel_rfl) (by kernel_rfl) ?ywq_6 ?rwq_6
      case ywq_6 =>
        refine StepS.pure (Seq2.pass (by decide) (by decide)) (by rfl) (fun w9 => ?_)
        go_simp
        try rfl
      try simp only [Act.put, List.setIfInBounds_toArray, List.set_cons_zero, List.set_cons_succ]
      refine Ps.step (i := 6) (d := some 31) (u := ?uwq_7) rfl rfl (by kernel_rfl) (by kernel_rfl) (by kernel_rfl) (by kernel_rfl) ?ywq_7 ?rwq_7
      case ywq_7 =>
        refine StepS.pure (Seq2.pass (by decide) (by decide)) (by rfl) (fun w9 => ?_)
        go_simp
        try rfl
      try simp only [Act.put, List.setIfInBounds_toArray, List.set_cons_zero, List.set_cons_succ]
      refine Ps.step (i := 7) (d := some 32) (u := ?uwq_8) rfl rfl (by kernel_rfl) (by kernel_rfl) (by kernel_rfl) (by kernel_rfl) ?ywq_8 ?rwq_8
      case ywq_8 =>
        refine StepS.pure (Seq2.pass (by decide) (by decide)) (by rfl) (fun w9 => ?_)
        go_simp
        try rfl
      try simp only [Act.put, List.setIfInBounds_toArray, List.set_cons_zero, List.set_cons_succ]
      refine Ps.step (i := 8) (d := some 33) (u := ?uwq_9) rfl rfl (by kernel_rfl) (by kernel_rfl) (by kernel_rfl) (by kernel_rfl) ?ywq_9 ?rwq_9
      case ywq_9 =>
        refine StepS.read [] (by kernel_rfl) (Seq2.pass (by decide) (by decide)) (by rfl) (fun L9 m9 w9 hSh hAt hDn hS => ?_)
        have hT : Below wr.heap.size wr w9 := Seq2.early (T := Grew wr) (fun _ h => h) (fun _ _ h => h.1) (reach_no hSh (f := 13) (j := 12) (by kernel_rfl) hDn) hS
        have q3 : w9.cell? ⟨gr, i * 5 + 3, none⟩ = some (.slice e.A e.n e.c) := ((HW.out.row.below hT).cell (i := i) HGET.out).2.2.2.1
        go_simp
        try rfl
      try simp only [Act.put, List.setIfInBounds_toArray, List.set_cons_zero, List.set_cons_succ]
      refine Ps.one (k := 9) (d := some 34) rfl rfl (by kernel_rfl) (TurnS.call (V := fun _ => True) ?fwq_10 ?awq_10 [] (by kernel_rfl) (by rfl) (fun w9 => ?hwq_10) (fun L9 m9 w9 hSh hAt hDn hS => ?cwq_10)) (fun v9 hVv9 => ?rwq_10)
      case hwq_10 => go_simp; refine ⟨?_, ?_⟩ <;> rfl
      case cwq_10 =>
        have hT : Below wr.heap.size wr w9 := Seq2.turn hDn (reach_no hSh (f := 13) (j := 12) (by kernel_rfl) hDn) hS
        exact (bclone_any e.A e.n e.c e.p.bs w9 (HEB.out _ (bl_ca HW.out.bel hT)) (by omega)).mono fun _ _ ⟨A4, c4, h1, h2, h3⟩ => ⟨_, h1, trivial, Seq2.called (by decide) (reach_no hSh (f := 13) (j := 12) (by kernel_rfl) hDn) ⟨bl_ca hT h3, A4, c4, rfl, OwnB.less h2 hT.size⟩⟩
      try simp only [Act.put, List.setIfInBounds_toArray, List.set_cons_zero, List.set_cons_succ]
      clear hVv9
      refine Ps.step (i := 10) (d := some 35) (u := ?uwq_11) rfl rfl (by kernel_rfl) (by kernel_rfl) (by kernel_rfl) (by kernel_rfl) ?ywq_11 ?rwq_11
      case ywq_11 =>
        refine StepS.pure (Seq2.pass (by decide) (by decide)) (by rfl) (fun w9 => ?_)
        go_simp
        try rfl
      try simp only [Act.put, List.setIfInBounds_toArray, List.set_cons_zero, List.set_cons_succ]
      refine Ps.step (i := 11) (d := some 36) (u := ?uwq_12) rfl rfl (by kernel_rfl) (by kernel_rfl) (by kernel_rfl) (by kernel_rfl) ?ywq_12 ?rwq_12
      case ywq_12 =>
        refine StepS.pure (Seq2.pass (by decide) (by decide)) (by rfl) (fun w9 => ?_)
        go_simp
        try rfl
      try simp only [Act.put, List.setIfInBounds_toArray, List.set_cons_zero, List.set_cons_succ]
      refine Ps.step (i := 12) (d := none) (u := undef) rfl rfl (by kernel_rfl) (by kernel_rfl) (by kernel_rfl) (by kernel_rfl) ?ywq_13 ?rwq_13
      case ywq_13 =>
        refine StepS.store [9] (by kernel_rfl) (by rfl) (fun L9 m9 w9 hSh hAt hDn hS => ?_)
        have hG := Seq2.got hAt hDn hS
        obtain ⟨hT, A4, c4, hv, ho⟩ := hG
        have hv' : v9 = .slice A4 e.n c4 := hv
        subst hv'
        have q3 : w9.cell? ⟨gr, i * 5 + 3, none⟩ = some (.slice e.A e.n e.c) := ((HW.out.row.below hT).cell (i := i) HGET.out).2.2.2.1
        have f3 : w9.frozen? ⟨gr, i * 5 + 3, none⟩ = false := World.ownsRow.frozenAt (HW.out.row.below hT) _
        refine ⟨w9.setCell ⟨gr, i * 5 + 3, none⟩ (.slice A4 e.n c4), ?_, Seq2.stored (by decide) hAt ⟨w9, A4, c4, hT, rfl, ho, rfl⟩⟩
        go_simp
      try simp only [Act.put]
      refine Ps.done (by kernel_rfl) (fun wq hS => ?_) _
      have hF := Seq2.fin (by rfl) hS
      clear hS
      obtain ⟨w5, A4, c4, hT, hv, ho, rfl⟩ := hF
      have hv' : v9 = .slice A4 e.n c4 := hv
      subst hv'
      have HW5 := Lib.hid (HW.out.next HDL.out hT ho)
      clear hT ho hv HEB hg1 hg2 HGET hen
      generalize w5.setCell ⟨gr, i * 5 + 3, none⟩ (.slice A4 e.n c4) = w6 at *
      go_wp2
      go_roundg (gk - 1)
      · exact ⟨i + 1, done ++ [⟨e.p, A4, e.n, c4⟩], rest', by omega, by omega, by go_num, by rw [List.length_append, HDL.out]; rfl, HW5.out⟩
      · omega
    · obtain rfl : i = m := by omega
      have hrest : rest = [] := by
        have h1 := hW.row.len
        rw [List.length_append, HDL.out] at h1
        exact List.eq_nil_of_length_eq_zero (by omega)
      subst hrest
      have hrow := hW.row
      have hmap := hW.map
      rw [List.append_nil] at hrow hmap
      have HDD := Lib.hid (HD.out wr A3 c3 done hW.bel (by omega) hW.size hW.net ⟨hrow, hW.own, hW.apart⟩ hmap)
      have HRS := Lib.hid hW.res
      have HSZ := Lib.hid (Nat.le_trans (by omega) hW.size : w.heap.size + 1 ≤ wr.heap.size)
      have HBS := Lib.hid hW.bel.size
      clear hrow hmap hW HD HLEN hi hi1 hi2 hm HDL
      go_wp2_with fail
      refine HDD.out.mono ?_
      rintro e w7 ⟨er, rfl, hj, hs7, hk7, hz7⟩
      have hres : Blk w7 (w.heap.size + 1) 26 #[.int .u64 0, .slice none 0 0] := by
        unfold Blk
        rw [hk7 _ (by omega) (by omega)]
        exact HRS.out
      have HHJ := Lib.hid hj
      have hs8 : w.heap.size ≤ w7.heap.size := Nat.le_trans HBS.out hs7
      clear hj hk7 HDD HRS hs7
      have KR := Lib.hid hres
      clear hres
      by_cases hz : er = 0
      · subst hz
        obtain ⟨s, A8, m8, c8, es8, hN8, hd8, hy8⟩ := hz7 rfl
        have HD8 := Lib.hid hd8
        have HY8 := Lib.hid hy8
        have x0 : w7.cell? ⟨w.heap.size, 0, none⟩ = some (.int .u64 s) := hN8.cell 0
        have x1 : w7.cell? ⟨w.heap.size, 1, none⟩ = some (.slice A8 m8 c8) := hN8.cell 1
        clear hz7 hd8 hy8 hN8
        go_wp2_with (refine wpList_store_blk rfl 26 (.tmp 4) (.tmp 44) rfl (w.heap.size + 1) 26 _ _ rfl rfl KR.out rfl netI (by simp [Value.oneCell']) ?_; intro wz hZ gz)
        exact bodyPost_ret (res2 Try.results41 rfl rfl hZ Try.underlying26 rfl netI) rfl ⟨0, HJ.out _ _ _ HHJ.out gz, Nat.le_trans hs8 gz.size, .inr ⟨rfl, s, A8, m8, c8, es8, rfl, HD8.out.kept gz (by omega), HYY.out _ _ _ _ HY8.out gz⟩⟩
      · have hz1 : (er != 0) = true := by simpa using hz
        clear hz7
        go_wp2_with (refine wpList_store_blk rfl 26 (.tmp 4) (.tmp 42) rfl (w.heap.size + 1) 26 _ _ rfl rfl KR.out rfl netI (by simp [Value.oneCell']) ?_; intro wz hZ gz)
        exact bodyPost_ret (res2 Try.results41 rfl rfl hZ Try.underlying26 rfl netI) rfl ⟨er, HJ.out _ _ _ HHJ.out gz, Nat.le_trans hs8 gz.size, .inl ⟨hz, rfl⟩⟩
end Go.Proofs.Ytnbcffnhgijmcaa
