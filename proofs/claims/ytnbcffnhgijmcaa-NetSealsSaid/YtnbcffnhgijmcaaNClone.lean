/- bytes.Clone, slices.Clone of parcels. Conditions: the slices read as these. -/
import Derived.Test.YtnbcffnhgijmcaaNCheck
import Derived.Test.YtnbcffnhgijmcaaPs
import Derived.WalkSpells
namespace Go.Proofs.Ytnbcffnhgijmcaa
open Go.RowKit
theorem rdB_none {w : World} {n : Nat} {bs : List UInt8} (h : RdB w none n bs) : n = 0 ∧ bs = [] := by
  rcases Nat.eq_zero_or_pos n with h0 | h0
  · subst h0; exact ⟨rfl, List.eq_nil_of_length_eq_zero h.len⟩
  · obtain ⟨ad, e, _⟩ := h.2 h0; cases e
set_option maxRecDepth 100000 in
theorem bclone_any (A : Option Addr) (n c : Nat) (bs : List UInt8) (w : World) (h : RdB w A n bs) (hn : n ≤ 140737488351232) :
    Calls Try.prog 62 #[.slice A n c] w fun e w' => ∃ A' c', e = .returned (.slice A' n c') ∧ OwnB w' w.heap.size A' n c' bs ∧ Below w.heap.size w w' := by
  cases A with
  | none =>
    obtain ⟨rfl, rfl⟩ := rdB_none h
    clear h
    have HQ : ∀ W, (binOp .eql 27 (.slice none 0 c) (.slice none 0 0)).run Try.prog W = .ok (.bool true) W := fun W => Lib.run_eql_slice_nil W _ _ _ _ _ _ _ Try.underlying27
    go_enter Try.func62, Try.ntmps62
    go_wp2
    go_ret
    exact ⟨none, 0, rfl, OwnB.none_ _ _, Below.refl _ _⟩
  | some a =>
    have oe := OwnB.empty w
    have b1 := bl_al (Below.refl w.heap.size w) (.cells #[] 5)
    have h1 := h.below b1
    have hz := b1.size
    have HQ : ∀ W, (binOp .eql 27 (.slice (some a) n c) (.slice none 0 0)).run Try.prog W = .ok (.bool false) W := fun W => Lib.run_eql_slice_nil W _ _ _ _ _ _ _ Try.underlying27
    go_enter Try.func62, Try.ntmps62
    go_wp2_with (at_builtin; refine wpList_appB rfl (.tmp 5) (.tmp 6) rfl w.heap.size (some ⟨w.heap.size, 0, none⟩) 0 0 [] (some a) n c bs rfl rfl oe h1 (by omega) hz ?_; intro A4 c4 w4 o4 b4; rw [Nat.zero_add, List.nil_append] at o4)
    go_ret
    exact ⟨A4, c4, rfl, o4, b1.trans b4⟩
/-- a parcel in a row of the call's own: where its bytes lie -/
structure El where
  p : PC
  A : Option Addr
  n : Nat
  c : Nat
def El.cells (e : El) : List Value := [.int .u64 e.p.num, .int .i64 e.p.frm, .int .i64 e.p.to, .slice e.A e.n e.c, .bool e.p.sp]
def ecells (es : List El) : List Value := es.flatMap El.cells
theorem ecells_len (es : List El) : (ecells es).length = es.length * 5 := by
  induction es with
  | nil => rfl
  | cons e l ih => simp [ecells, El.cells] at ih ⊢; omega
theorem ecells_append (a b : List El) : ecells (a ++ b) = ecells a ++ ecells b := by simp [ecells]
theorem ecells_one (es : List El) : ∀ u ∈ ecells es, u.oneCell' = true := by
  intro u hu
  obtain ⟨e, _, hu⟩ := List.mem_flatMap.1 hu
  simp [El.cells] at hu
  rcases hu with rfl | rfl | rfl | rfl | rfl <;> rfl
/-- the bytes of an element can be read, among F -/
def El.ok (w : World) (F : Nat → Prop) (e : El) : Prop := LB.rd w F e.A e.n e.p.bs ∧ e.n ≤ e.c ∧ e.c ≤ 9223372036854775807
theorem El.ok_below {w w' : World} {F : Nat → Prop} {e : El} (h : e.ok w F) (q : Below w.heap.size w w') : e.ok w' F := ⟨Lay.rd_below h.1 q, h.2⟩
theorem reps_els {w : World} {F : Nat → Prop} : ∀ {ps : List PC} {cs : List Value}, LP.reps w F ps cs → ∃ es : List El, es.map El.p = ps ∧ cs = ecells es ∧ ∀ e ∈ es, e.ok w F
  | [], _, h => ⟨[], rfl, h, by simp⟩
  | p :: l, _, h => by
    obtain ⟨x, y, rfl, ⟨A, n, c, rfl, h1, h2, h3⟩, hy⟩ := h
    obtain ⟨es, rfl, rfl, he⟩ := reps_els hy
    refine ⟨⟨p, A, n, c⟩ :: es, rfl, rfl, ?_⟩
    intro e hm
    rcases List.mem_cons.1 hm with rfl | hm
    · exact ⟨h3, h1, h2⟩
    · exact he e hm
theorem LP_els {w : World} {F : Nat → Prop} {A : Option Addr} {m : Nat} {ps : List PC} (h : LP.rd w F A m ps) :
    ∃ es : List El, es.map El.p = ps ∧ Reads w w.heap.size 5 A m (ecells es) ∧ ∀ e ∈ es, e.ok w F := by
  obtain ⟨hl, cs, hr, hc⟩ := h
  obtain ⟨es, rfl, rfl, he⟩ := reps_els hr
  refine ⟨es, rfl, ⟨by rw [ecells_len, ← hl]; simp, fun hn => ?_⟩, he⟩
  obtain ⟨ad, e, hb, _, hh⟩ := hc hn
  exact ⟨ad, e, hb, hh⟩
/-- a row of parcels of the call's own -/
def Ro (w : World) (B : Nat) (A : Option Addr) (n c : Nat) (es : List El) : Prop := w.ownsRow B 29 5 (.slice A n c) n (ecells es)
theorem Ro.nil (w : World) (B : Nat) : Ro w B none 0 0 [] := World.ownsRow_nil _ _ _ _
theorem Ro.len {w : World} {B : Nat} {A : Option Addr} {n c : Nat} {es : List El} (h : Ro w B A n c es) : es.length = n := by
  have := h.1
  rw [ecells_len] at this
  omega
theorem Ro.below {w w' : World} {B : Nat} {A : Option Addr} {n c : Nat} {es : List El} (h : Ro w B A n c es) (q : Below w.heap.size w w') : Ro w' B A n c es := ownsRow_below h q
/-- append(out, src...): out the call's own, src whatever can be read -/
theorem wpList_appE {ops : Array Oper} {rest : List Oper} {o : Oper} {a : Act} {w : World} {Q : Exit → Act → World → Prop} (hgd : o.guard = none) (s x : Operand)
    (ho : o.op = .call { callee := .builtin .append, args := #[s, x], argTypes := #[24, 24] })
    (B : Nat) (A : Option Addr) (n c : Nat) (xs : List El) (A2 : Option Addr) (m c2 : Nat) (ys : List El)
    (hs : a.eval s = .slice A n c) (hx : a.eval x = .slice A2 m c2) (hown : Ro w B A n c xs) (hr : Reads w w.heap.size 5 A2 m (ecells ys)) (hb : n + m ≤ 100000) (hB : B ≤ w.heap.size)
    (h : ∀ A' c' w', Ro w' B A' (n + m) c' (xs ++ ys) → Below B w w' → (∀ b, b < w.heap.size → (Value.slice A n c).ownBlock ≠ some b → w'.heap[b]? = w.heap[b]?) → wpList Try.prog ops Q rest (a.put o.dst (.slice A' (n + m) c')) w') : wpList Try.prog ops Q (o :: rest) a w := by
  obtain ⟨i0, hi0, hz0, hz1, hz2⟩ := info_parts Try.parcelInfo
  refine wpList_append_any w hgd s x 24 ho B 29 i0 _ 5 56 Try.underlying24 hi0 hz0 hz1 hz2 rfl (by omega) (.slice A n c) n (ecells xs) hs hown w.heap.size A2 m c2 (ecells ys) hx hr (ecells_one ys) (by simp only [maxLen]; omega) (by omega) hB ?_
  intro v' w' hown' hg hat
  obtain ⟨A', c', rfl⟩ := own_form' hown'
  refine h A' c' w' (by unfold Ro; rw [ecells_append]; exact hown') ((Below.refl _ _).grown hg hB (fun k hk => (own_base' hown k hk).1)) ?_
  intro b hb hne
  exact hg.block b hb (fun e => hne e.symm)
theorem Ro.empty (w : World) : Ro (w.alloc (.cells #[] 29)) w.heap.size (some ⟨w.heap.size, 0, none⟩) 0 0 [] := ⟨rfl, .inr ⟨w.heap.size, 0, #[], rfl, Nat.le_refl _, heap_alloc_new w _, Nat.le_refl _, by decide, rfl, rfl⟩⟩
set_option maxRecDepth 100000 in
theorem sclone_any (F : Nat → Prop) (A : Option Addr) (m c : Nat) (ps : List PC) (w : World) (h : LP.rd w F A m ps) (hm : m ≤ 20000) :
    Calls Try.prog 64 #[.slice A m c] w fun e w' => ∃ A' c' es, e = .returned (.slice A' m c') ∧ es.map El.p = ps ∧ Ro w' w.heap.size A' m c' es ∧ (∀ e ∈ es, e.ok w F) ∧ Below w.heap.size w w' := by
  obtain ⟨es, hes, hr, hok⟩ := LP_els h
  have HES := Lib.hid hes
  clear hes
  cases A with
  | none =>
    have hm0 : m = 0 := by
      rcases Nat.eq_zero_or_pos m with h0 | h0
      · exact h0
      · obtain ⟨ad, e, _⟩ := hr.2 h0; cases e
    subst hm0
    have he : es = [] := by
      have := hr.1
      rw [ecells_len] at this
      exact List.eq_nil_of_length_eq_zero (by omega)
    subst he
    clear h hr hok
    have HQ : ∀ W, (binOp .eql 24 (.slice none 0 c) (.slice none 0 0)).run Try.prog W = .ok (.bool true) W := fun W => Lib.run_eql_slice_nil W _ _ _ _ _ _ _ Try.underlying24
    go_enter Try.func64, Try.ntmps64
    go_wp2
    go_ret
    exact ⟨none, 0, [], rfl, HES.out, Ro.nil _ _, by simp, Below.refl _ _⟩
  | some a =>
    have oe := Ro.empty w
    have b1 := bl_al (Below.refl w.heap.size w) (.cells #[] 29)
    have h1 : Reads (w.alloc (.cells #[] 29)) (w.alloc (.cells #[] 29)).heap.size 5 (some a) m (ecells es) := (hr.below b1).more b1.size
    have hz := b1.size
    have HQ : ∀ W, (binOp .eql 24 (.slice (some a) m c) (.slice none 0 0)).run Try.prog W = .ok (.bool false) W := fun W => Lib.run_eql_slice_nil W _ _ _ _ _ _ _ Try.underlying24
    go_enter Try.func64, Try.ntmps64
    go_wp2_with (at_builtin; refine wpList_appE rfl (.tmp 5) (.tmp 6) rfl w.heap.size (some ⟨w.heap.size, 0, none⟩) 0 0 [] (some a) m c es rfl rfl oe h1 (by omega) hz ?_; intro A4 c4 w4 o4 b4 _; rw [Nat.zero_add, List.nil_append] at o4)
    go_ret
    exact ⟨A4, c4, es, rfl, HES.out, o4, hok, b1.trans b4⟩
end Go.Proofs.Ytnbcffnhgijmcaa
