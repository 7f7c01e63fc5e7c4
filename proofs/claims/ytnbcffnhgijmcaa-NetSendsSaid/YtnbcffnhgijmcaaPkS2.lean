/- Slices of bytes: what is read, what is owned; bytes.Equal. (The part of Bytes that needs no reference and no sum.) Conditions: the slices read as these bytes, lengths within what a row lets in. -/
import Derived.Test.YtnbcffnhgijmcaaPkS1
import Derived.Deep.WholeRow
import Derived.Lib.SliceRun
import Derived.Laws.IdiomStrings
import Derived.Lib.MinMax
namespace Go.Proofs.Ytnbcffnhgijmcaa
open Go.RowKit
def vb (c : UInt8) : Value := .int .u8 (c.toNat : Int)
theorem ret_int {k : IntKind} {a b : Int} (h : a = b) : Ending.returned (.int k a) = .returned (.int k b) := by rw [h]
theorem below_setRow {B : Nat} (w : World) (g : Nat) (cs : Array Value) (h : B ≤ g) : Below B w (w.setRow g cs) := by
  refine ⟨rfl, rfl, rfl, by simp [World.setRow], fun k hk => ?_⟩
  simp only [World.setRow, Array.getElem?_modify]
  rw [if_neg (by omega)]

theorem Try.byteInfo : (Try.prog.info? 5).map (fun i => (i.zero, i.size, i.bytes)) = some (some (.int .u8 0), 1, 1) := by kernel_rfl
theorem vb_one (bs : List UInt8) : ∀ u ∈ bs.map vb, u.oneCell' = true := by
  intro u hu; obtain ⟨c, _, rfl⟩ := List.mem_map.1 hu; rfl
/-- A slice of bytes that the call owns: from block B on. -/
def OwnB (w : World) (B : Nat) (A : Option Addr) (n c : Nat) (bs : List UInt8) : Prop := w.ownsRow B 5 1 (.slice A n c) n (bs.map vb)
/-- A slice of bytes that can be read. -/
def RdB (w : World) (A : Option Addr) (n : Nat) (bs : List UInt8) : Prop := Reads w w.heap.size 1 A n (bs.map vb)
theorem OwnB.rd {w : World} {B : Nat} {A : Option Addr} {n c : Nat} {bs : List UInt8} (h : OwnB w B A n c bs) : RdB w A n bs := Reads.of_own h
theorem own_empty (w : World) (t : TypeId) : (w.alloc (.cells #[] t)).ownsRow w.heap.size t 1 (.slice (some ⟨w.heap.size, 0, none⟩) 0 0) 0 [] :=
  ⟨rfl, .inr ⟨w.heap.size, 0, #[], rfl, Nat.le_refl _, heap_alloc_new w _, Nat.le_refl _, by decide, rfl, rfl⟩⟩
theorem own_form {w : World} {B : Nat} {e : TypeId} {s n : Nat} {v : Value} {xs : List Value} (h : w.ownsRow B e s v n xs) : ∃ A c, v = .slice A n c := by
  rcases h.2 with ⟨rfl, rfl⟩ | ⟨g, cap, _, rfl, _⟩
  · exact ⟨_, _, rfl⟩
  · exact ⟨_, _, rfl⟩
theorem own_base {w : World} {B : Nat} {e : TypeId} {s n c : Nat} {A : Option Addr} {xs : List Value} (h : w.ownsRow B e s (.slice A n c) n xs) : ∀ k, (Value.slice A n c).ownBlock = some k → B ≤ k := by
  intro k hk
  rcases h.2 with ⟨e, _⟩ | ⟨g, cap, _, e, hg, _⟩
  · injection e with e; subst e; simp [Value.ownBlock] at hk
  · injection e with e; subst e
    have : g = k := by simpa [Value.ownBlock] using hk
    omega
section
variable {w w' : World} {A : Option Addr} {B n c : Nat} {bs : List UInt8}
theorem RdB.len (h : RdB w A n bs) : bs.length = n := by have := h.1; simpa using this
theorem RdB.cellAt (h : RdB w A n bs) (k : Nat) (hk : k < n) : ∃ ad, A = some ad ∧ ad.block < w.heap.size ∧ w.cell? (ad.add k) = some (vb (bs.getD k 0)) := by
  obtain ⟨ad, u, hA, hB, hu, hc⟩ := Reads.at_ h hk
  have hkl : k < bs.length := by rw [h.len]; exact hk
  refine ⟨ad, hA, hB, ?_⟩
  have : u = vb (bs.getD k 0) := by simpa [hkl, List.getD, List.getElem?_eq_getElem hkl] using hu.symm
  rw [← this]; exact hc
theorem RdB.below (h : RdB w A n bs) (hb : Below w.heap.size w w') : RdB w' A n bs := (Reads.below h hb).more hb.size
theorem RdB.alloc (h : RdB w A n bs) (o : Obj) : RdB (w.alloc o) A n bs := h.below ((Below.refl _ _).alloc (Nat.le_refl _) o)
theorem RdB.nil : RdB w none 0 [] := Reads.none_
theorem RdB.cut (h : RdB w A n bs) {k cap : Nat} (hk : k ≤ n) (hc : n ≤ cap) : RdB w (if cap = k then A else A.map (·.add k)) (n - k) (bs.drop k) := by
  have := Reads.cut h hk hc
  simp only [Nat.mul_one] at this
  unfold RdB
  rw [List.map_drop]
  exact this
theorem RdB.take (h : RdB w A n bs) {k : Nat} (hk : k ≤ n) : RdB w A k (bs.take k) := by
  refine ⟨by rw [List.length_map, List.length_take, h.len]; omega, fun h0 => ?_⟩
  obtain ⟨ad, e, hb, hc⟩ := h.2 (by omega)
  refine ⟨ad, e, hb, fun j u hu => hc j u ?_⟩
  rw [List.map_take, List.getElem?_take] at hu
  split at hu
  · exact hu
  · cases hu
theorem RdB.one (w : World) (b : UInt8) (v : Value) (hv : v = vb b) (t : TypeId) : RdB (w.alloc (.cells #[v] t)) (some ⟨w.heap.size, 0, none⟩) 1 [b] := by
  subst hv
  refine ⟨rfl, fun _ => ⟨_, rfl, by simp, fun j u hu => ?_⟩⟩
  match j, hu with
  | 0, hu => simp at hu; subst hu; simp [Addr.add, vb]
theorem OwnB.cap (h : OwnB w B A n c bs) : n ≤ c ∧ c ≤ maxLen := by
  rcases h.2 with ⟨e, _⟩ | ⟨g, cap, _, e, _, _, h1, h2, _⟩
  · injection e with _ e1 e2; subst e1 e2; exact ⟨Nat.le_refl _, Nat.zero_le _⟩
  · injection e with _ _ e2; subst e2; exact ⟨h1, h2⟩
theorem OwnB.below (h : OwnB w B A n c bs) (hb : Below w.heap.size w w') : OwnB w' B A n c bs := by
  refine ⟨h.1, ?_⟩
  rcases h.2 with h2 | ⟨g, cap, cur, e, hg, hh, r⟩
  · exact .inl h2
  · have hlt : g < w.heap.size := by
      rcases Nat.lt_or_ge g w.heap.size with h | h
      · exact h
      · rw [Array.getElem?_eq_none h] at hh; cases hh
    exact .inr ⟨g, cap, cur, e, hg, (hb.block g hlt).trans hh, r⟩
theorem OwnB.alloc (h : OwnB w B A n c bs) (o : Obj) : OwnB (w.alloc o) B A n c bs := h.below ((Below.refl _ _).alloc (Nat.le_refl _) o)
theorem OwnB.less (h : OwnB w B A n c bs) {B' : Nat} (hB : B' ≤ B) : OwnB w B' A n c bs := by
  refine ⟨h.1, ?_⟩
  rcases h.2 with h2 | ⟨g, cap, cur, e, hg, r⟩
  · exact .inl h2
  · exact .inr ⟨g, cap, cur, e, Nat.le_trans hB hg, r⟩
theorem OwnB.empty (w : World) : OwnB (w.alloc (.cells #[] 5)) w.heap.size (some ⟨w.heap.size, 0, none⟩) 0 0 [] := own_empty w _
theorem OwnB.none_ (w : World) (B : Nat) : OwnB w B none 0 0 [] := World.ownsRow_nil _ _ _ _
end
/-- append(out, src...): out the call's own, src whatever can be read. -/
theorem wpList_appB {ops : Array Oper} {rest : List Oper} {o : Oper} {a : Act} {w : World} {Q : Exit → Act → World → Prop} (hgd : o.guard = none) (s x : Operand)
    (ho : o.op = .call { callee := .builtin .append, args := #[s, x], argTypes := #[27, 27] })
    (B : Nat) (A : Option Addr) (n c : Nat) (xs : List UInt8) (A2 : Option Addr) (m c2 : Nat) (ys : List UInt8)
    (hs : a.eval s = .slice A n c) (hx : a.eval x = .slice A2 m c2) (hown : OwnB w B A n c xs) (hr : RdB w A2 m ys) (hb : n + m ≤ 140737488355328) (hB : B ≤ w.heap.size)
    (h : ∀ A' c' w', OwnB w' B A' (n + m) c' (xs ++ ys) → Below B w w' → wpList Try.prog ops Q rest (a.put o.dst (.slice A' (n + m) c')) w') : wpList Try.prog ops Q (o :: rest) a w := by
  obtain ⟨i0, hi0, hz0, hz1, hz2⟩ := info_parts Try.byteInfo
  refine wpList_append_any w hgd s x 27 ho B 5 i0 _ 1 1 Try.underlying27 hi0 hz0 hz1 hz2 rfl (by omega) (.slice A n c) n (xs.map vb) hs hown w.heap.size A2 m c2 (ys.map vb) hx hr (vb_one ys) (by simp only [maxLen]; omega) (by omega) hB ?_
  intro v' w' hown' hg hat
  obtain ⟨A', c', rfl⟩ := own_form hown'
  refine h A' c' w' (by unfold OwnB; rw [List.map_append]; exact hown') ?_
  exact (Below.refl _ _).grown hg hB (own_base hown)
theorem RdB.str {w : World} {A : Option Addr} {n : Nat} {bs : List UInt8} (h : RdB w A n bs) (c : Nat) : (convert 27 9 (.slice A n c)).run Try.prog w = .ok (.string ⟨bs.toArray⟩) w := by
  have hl := h.len
  rcases Nat.eq_zero_or_pos n with h0 | h0
  · subst h0
    obtain rfl : bs = [] := List.eq_nil_of_length_eq_zero hl
    rw [run_convert_bytes_string w 27 9 5 _ 0 c Try.underlying27 Try.underlying5 Try.underlying9]
    cases A <;> simp [Conv.bytesToString, loadCells]
    all_goals rfl
  · obtain ⟨ad, rfl, _, hc⟩ := h.cellAt 0 h0
    subst hl
    refine run_convert_bytes_back w 27 9 5 ad c bs Try.underlying27 Try.underlying5 Try.underlying9 (fun j hj => ?_)
    obtain ⟨ad', e, _, hc⟩ := h.cellAt j hj
    injection e with e; subst e
    rw [hc]; simp [vb, List.getD, List.getElem?_eq_getElem hj]
set_option maxHeartbeats 1000000 in
theorem equal_any (A B : Option Addr) (n c m d : Nat) (xs bs : List UInt8) (w : World) (ha : RdB w A n xs) (hb : RdB w B m bs) :
    Calls Try.prog 32 #[.slice A n c, .slice B m d] w fun e w' => e = .returned (.bool (xs == bs)) ∧ w = w' := by
  have h1 := ha.str c
  have h2 := hb.str d
  clear ha hb
  go_enter Try.func32, Try.ntmps32
  go_wp2
  go_ret
  exact ⟨rfl, rfl⟩
end Go.Proofs.Ytnbcffnhgijmcaa
/- An argument that is a row of bytes, as data in memory. Conditions: none. -/
namespace Go.Proofs.Ytnbcffnhgijmcaa
open Go.ChangeShapes Go.WideShapes Go.ChangeAt Go.RowKit Go.Deep
def LB : Lay UInt8 := Lay.cell vb (fun _ => rfl)
theorem LB_reps {w : World} {F : Nat → Prop} : ∀ {bs : List UInt8} {cs : List Value}, LB.reps w F bs cs → cs = bs.map vb
  | [], _, h => h
  | b :: l, _, h => by
    obtain ⟨x, y, rfl, hx, hy⟩ := h
    rw [LB_reps hy, show x = [vb b] from hx]
    rfl
theorem LB_rd {w : World} {F : Nat → Prop} {A : Option Addr} {n : Nat} {bs : List UInt8} (h : LB.rd w F A n bs) : RdB w A n bs := by
  obtain ⟨hl, cs, hr, hc⟩ := h
  rw [LB_reps hr] at hc
  refine ⟨by simp [hl], fun hn => ?_⟩
  obtain ⟨ad, e, hb, _, hh⟩ := hc hn
  exact ⟨ad, e, hb, hh⟩
theorem opens_byte : Opens Try.prog 5 LB (fun _ => True) :=
  opens_as (opens_int Try.underlying5 (by kernel_rfl)) rfl (fun w n cs h g => by
    have hw : 0 ≤ n ∧ n < 256 := by
      simp [Lit.wf, IntKind.min, IntKind.max, IntKind.signed, IntKind.bits] at g
      exact ⟨by omega, by omega⟩
    refine ⟨UInt8.ofNat n.toNat, ?_, trivial⟩
    rw [show cs = [.int .u8 n] from h]
    show _ = [vb _]
    have : (((UInt8.ofNat n.toNat).toNat : Nat) : Int) = n := by simp; omega
    rw [vb, this])
theorem opens_bytes : Opens Try.prog 27 LB.slice (fun xs => ∀ x ∈ xs, True) := opens_slice Try.underlying27 (by kernel_rfl) (by decide) opens_byte
theorem open_bytes {H : Type} {enc : TypeId × Value → H} {W : World} {A : Option Addr} {n c : Nat} {d : DataW H} {p : List MemPlace}
    (h : DataW.Trod enc Try.prog W 0 (fun _ => true) true 27 (.slice A n c) d p) : ∃ bs, RdB W A n bs ∧ n ≤ c ∧ c ≤ 9223372036854775807 := by
  obtain ⟨bs, h1, _, h2, h3⟩ := open_arg opens_bytes h
  exact ⟨bs, LB_rd h1, h2, h3⟩
end Go.Proofs.Ytnbcffnhgijmcaa
/- Regions whose order Go leaves open, walked in one order: each operation that may come up yields the same value in every world that meets S, and leaves such a world. Conditions: none. -/
namespace Go.Proofs.Ytnbcffnhgijmcaa
open Go.RowKit
section
variable {P : Program} {ops : Array Oper} {Q : Exit → Act → World → Prop} {md : Region.Mode} {S : World → Prop}
/-- in every world that meets S the operation yields v, and leaves a world that meets S -/
def Runs (P : Program) (S : World → Prop) (o : Oper) (v : Value) (ρ : Operand → Value) : Prop :=
  ∀ w, S w → match (execOp ρ o).run P w with
    | .ok (.value u) w' => u = v ∧ S w'
    | .ok (.enter f args) w' => Calls P f args w' fun e w'' => e = .returned v ∧ S w''
    | _ => False
def StepsIf (P : Program) (ops : Array Oper) (S : World → Prop) (o : Oper) (v : Value) (a : Act) : Prop :=
  (Region.wanted o (yielded ops a.tmps) = true ∧ Runs P S o v a.eval) ∨ (Region.wanted o (yielded ops a.tmps) = false ∧ v = undef)
theorem StepsIf.of_same {o : Oper} {v : Value} {a a' : Act} (hy : StepsIf P ops S o v a) (he : execOp a'.eval o = execOp a.eval o)
    (hw : Region.wanted o (yielded ops a'.tmps) = Region.wanted o (yielded ops a.tmps)) : StepsIf P ops S o v a' := by
  unfold StepsIf Runs at *
  rw [he, hw]
  exact hy
theorem StepsIf.wpOp {i : Nat} {o : Oper} {v : Value} {a : Act} (hi : ops[i]? = some o) (hy : StepsIf P ops S o v a)
    {K : Act → World → Prop} {w : World} (hS : S w) (h : ∀ w', S w' → K (a.put o.dst v) w') : wpOp P ops Q i K a w := by
  unfold Go.wpOp
  simp only [hi]
  rcases hy with ⟨hw, hv⟩ | ⟨hw, rfl⟩
  · simp only [hw, if_true]
    refine .inl ?_
    have hr := hv w hS
    unfold Oper.wp
    generalize (execOp a.eval o).run P w = r at *
    cases r with
    | ok n w' =>
      cases n <;> simp only [Oper.upon] at hr ⊢
      case value u => obtain ⟨rfl, hs⟩ := hr; exact h _ hs
      case enter f args =>
        refine Calls.mono hr fun e w'' ⟨he, hs⟩ => ?_
        subst he
        exact h _ hs
    | halt x w' => exact hr.elim
  · simp only [hw, Bool.false_eq_true, if_false]; exact h _ hS
/-- Each operation that may come up steps so, whatever order is picked. -/
def Good (P : Program) (md : Region.Mode) (ops : Array Oper) (Q : Exit → Act → World → Prop) (S : World → Prop) : Nat → Array Bool → Act → Prop
  | 0, listed, a => Region.ready md ops listed = [] ∧ ∀ w, S w → Q .normal a w
  | f + 1, listed, a => (Region.ready md ops listed = [] → ∀ w, S w → Q .normal a w) ∧
    ∀ i ∈ Region.ready md ops listed, ∃ o v, ops[i]? = some o ∧ StepsIf P ops S o v a ∧ Good P md ops Q S f (listed.setIfInBounds i true) (a.put o.dst v)
theorem wpAny_of_good : ∀ (f : Nat) (listed : Array Bool) (a : Act), Good P md ops Q S f listed a → ∀ w, S w → wpAny P md ops Q f listed a w
  | 0, _, _, h, w, hS => ⟨h.1, h.2 w hS⟩
  | f + 1, listed, a, h, w, hS => ⟨fun e => h.1 e w hS, fun i hi => by
    obtain ⟨o, v, ho, hs, hg⟩ := h.2 i hi
    exact hs.wpOp ho hS fun w' hS' => wpAny_of_good f _ _ hg w' hS'⟩
theorem Good.first {i : Nat} {oi : Oper} {v : Value} (hi : ops[i]? = some oi) (hsel : ∀ (j : Nat) (o : Oper) cs b, ops[j]? = some o → o.op ≠ .select cs b) :
    ∀ (f : Nat) (listed : Array Bool) (a : Act),
      (∀ j oj, ops[j]? = some oj → j ≠ i → listed.getD j true = false → (∀ e ∈ oj.after, Region.binds md e = true → e.on ≠ i) → oi.apart ops oj = true) →
      i ∈ Region.ready md ops listed → StepsIf P ops S oi v a →
      Good P md ops Q S f (listed.setIfInBounds i true) (a.put oi.dst v) → Good P md ops Q S (f + 1) listed a := by
  intro f
  induction f with
  | zero =>
    intro listed a _ hr hy H
    refine ⟨fun h => (by rw [h] at hr; cases hr), fun j hj => ?_⟩
    by_cases hji : j = i
    · subst hji; exact ⟨oi, v, hi, hy, H⟩
    · have := ready_mono hj hji
      rw [H.1] at this
      cases this
  | succ f ih =>
    intro listed a hfree hr hy H
    refine ⟨fun h => (by rw [h] at hr; cases hr), fun j hj => ?_⟩
    by_cases hji : j = i
    · subst hji; exact ⟨oi, v, hi, hy, H⟩
    · obtain ⟨oj, u, hoj, hju, hg⟩ := H.2 j (ready_mono hj hji)
      obtain ⟨hjun, oj', hoj', hall⟩ := mem_ready.1 hj
      rw [hoj] at hoj'
      injection hoj' with hoj'
      subst hoj'
      have hnot : ∀ e ∈ oj.after, Region.binds md e = true → e.on ≠ i := fun e he hb heq => by
        have h1 := hall e he hb
        have h0 := (mem_ready.1 hr).1
        rw [heq] at h1
        rcases Nat.lt_or_ge i listed.size with h' | h'
        · simp [h'] at h0 h1; rw [h0] at h1; cases h1
        · simp [Array.getElem?_eq_none h'] at h1
      obtain ⟨h1, h2, h3⟩ := Oper.apart_spec (hfree j oj hoj hji hjun hnot)
      have hsi := fun cs b => hsel i oi cs b hi
      have hsj := fun cs b => hsel j oj cs b hoj
      have hju' : StepsIf P ops S oj u a := hju.of_same (execOp_put oj hsj a oi.dst v h1).symm (wanted_put oj a oi.dst v h1).symm
      have hy' : StepsIf P ops S oi v (a.put oj.dst u) := hy.of_same (execOp_put oi hsi a oj.dst u h3) (wanted_put oi a oj.dst u h3)
      have hfree' : ∀ k ok, ops[k]? = some ok → k ≠ i → (listed.setIfInBounds j true).getD k true = false →
          (∀ e ∈ ok.after, Region.binds md e = true → e.on ≠ i) → oi.apart ops ok = true := fun k ok hk hki hun hno => by
        refine hfree k ok hk hki ?_ hno
        by_cases hjk : j = k
        · subst hjk; exact hjun
        · rw [getD_set_ne true hjk] at hun; exact hun
      refine ⟨oj, u, hoj, hju', ih (listed.setIfInBounds j true) (a.put oj.dst u) hfree' (ready_mono hr (Ne.symm hji)) hy' ?_⟩
      rw [Array.setIfInBounds_comm _ _ hji, ← Act.put_comm a v u h2]
      exact hg
theorem Good.val {i : Nat} {oi : Oper} {v : Value} {f : Nat} {listed : Array Bool} {a : Act} {d : Option Tmp} (hi : ops[i]? = some oi) (hd : oi.dst = d)
    (hs : Region.noSelect ops = true) (hf : Region.free md ops listed i = true) (hr : (Region.ready md ops listed).contains i = true)
    (hw : Region.wanted oi (yielded ops a.tmps) = true) (hv : ∀ w, S w → (execOp a.eval oi).run P w = .ok (.value v) w)
    (h : Good P md ops Q S f (listed.setIfInBounds i true) (a.put d v)) : Good P md ops Q S (f + 1) listed a :=
  Good.first hi (Region.noSelect_spec hs) f listed a (Region.free_spec hi hf) (by simpa using hr) (.inl ⟨hw, fun w hS => by rw [hv w hS]; exact ⟨rfl, hS⟩⟩) (hd ▸ h)
theorem Good.call {i : Nat} {oi : Oper} {v : Value} {fn : FuncId} {args : Array Value} {f : Nat} {listed : Array Bool} {a : Act} {d : Option Tmp} (hi : ops[i]? = some oi) (hd : oi.dst = d)
    (hs : Region.noSelect ops = true) (hf : Region.free md ops listed i = true) (hr : (Region.ready md ops listed).contains i = true)
    (hw : Region.wanted oi (yielded ops a.tmps) = true) (hv : ∀ w, S w → (execOp a.eval oi).run P w = .ok (.enter fn args) w)
    (hc : ∀ w, S w → Calls P fn args w fun e w' => e = .returned v ∧ S w')
    (h : Good P md ops Q S f (listed.setIfInBounds i true) (a.put d v)) : Good P md ops Q S (f + 1) listed a :=
  Good.first hi (Region.noSelect_spec hs) f listed a (Region.free_spec hi hf) (by simpa using hr) (.inl ⟨hw, fun w hS => by rw [hv w hS]; exact hc w hS⟩) (hd ▸ h)
theorem Good.skip {i : Nat} {oi : Oper} {f : Nat} {listed : Array Bool} {a : Act} {d : Option Tmp} (hi : ops[i]? = some oi) (hd : oi.dst = d)
    (hs : Region.noSelect ops = true) (hf : Region.free md ops listed i = true) (hr : (Region.ready md ops listed).contains i = true)
    (hw : Region.wanted oi (yielded ops a.tmps) = false)
    (h : Good P md ops Q S f (listed.setIfInBounds i true) (a.put d undef)) : Good P md ops Q S (f + 1) listed a :=
  Good.first hi (Region.noSelect_spec hs) f listed a (Region.free_spec hi hf) (by simpa using hr) (.inr ⟨hw, rfl⟩) (hd ▸ h)
theorem Good.done {listed : Array Bool} {a : Act} (hr : Region.ready md ops listed = []) (h : ∀ w, S w → Q .normal a w) : ∀ f, Good P md ops Q S f listed a
  | 0 => ⟨hr, h⟩
  | _ + 1 => ⟨fun _ => h, by rw [hr]; simp⟩
theorem wp_region_lin {id : Nat} {a : Act} {w : World} (hm : P.follows .mixedOrders = true) (hS : S w.drew)
    (h : Good P .any ops Q S ops.size (Array.replicate ops.size false) a) : (Code.region id ops true).wp P Q a w :=
  wp_region_any hm (wpAny_of_good _ _ _ h _ hS)
end
section
variable {P : Program}
/-- the region's condition: the world grew -/
abbrev Grew (w0 : World) : World → Prop := fun w' => Below w0.heap.size w0 w'
theorem Grew.start (w : World) : Grew w w.drew := (Below.refl _ _).drew
theorem Grew.call {w0 : World} {fn : FuncId} {args : Array Value} {v : Value} (h : ∀ w, Below w0.heap.size w0 w → Calls P fn args w fun e w' => e = .returned v ∧ Below w.heap.size w w') :
    ∀ w, Grew w0 w → Calls P fn args w fun e w' => e = .returned v ∧ Grew w0 w' :=
  fun w q => (h w q).mono fun _ _ ⟨he, b⟩ => ⟨he, bl_ca q b⟩
end
end Go.Proofs.Ytnbcffnhgijmcaa
/- Regions whose order Go leaves open, that hold one store: walked in one order. What is known of a world is one thing ahead of the store (number k) and another one behind it. Conditions: none. -/
namespace Go.Proofs.Ytnbcffnhgijmcaa
open Go.RowKit
section
variable {P : Program} {ops : Array Oper} {Q : Exit → Act → World → Prop} {md : Region.Mode} {S : Bool → World → Prop} {k : Nat}
def StepsP (P : Program) (ops : Array Oper) (S : Bool → World → Prop) (k : Nat) (i : Nat) (o : Oper) (v : Value) (a : Act) : Prop :=
  (Region.wanted o (yielded ops a.tmps) = true ∧ ((i ≠ k ∧ ∀ b, Runs P (S b) o v a.eval) ∨ (i = k ∧ v = undef ∧ ∀ w, S false w → ∃ w', (execOp a.eval o).run P w = .ok .skip w' ∧ S true w'))) ∨
  (i ≠ k ∧ Region.wanted o (yielded ops a.tmps) = false ∧ v = undef)
theorem StepsP.of_same {i : Nat} {o : Oper} {v : Value} {a a' : Act} (hy : StepsP P ops S k i o v a) (he : execOp a'.eval o = execOp a.eval o)
    (hw : Region.wanted o (yielded ops a'.tmps) = Region.wanted o (yielded ops a.tmps)) : StepsP P ops S k i o v a' := by
  unfold StepsP Runs at *
  rw [he, hw]
  exact hy
def phase (k : Nat) (listed : Array Bool) : Bool := listed.getD k true
theorem phase_ne {i : Nat} {listed : Array Bool} (h : i ≠ k) : phase k (listed.setIfInBounds i true) = phase k listed := getD_set_ne true h
theorem phase_eq {listed : Array Bool} : phase k (listed.setIfInBounds k true) = true := by
  unfold phase
  rcases Nat.lt_or_ge k listed.size with h | h
  · simp [h]
  · simp
theorem StepsP.wpOp {i : Nat} {o : Oper} {v : Value} {a : Act} {listed : Array Bool} (hi : ops[i]? = some o) (hun : listed.getD i true = false) (hy : StepsP P ops S k i o v a)
    {K : Act → World → Prop} {w : World} (hS : S (phase k listed) w) (h : ∀ w', S (phase k (listed.setIfInBounds i true)) w' → K (a.put o.dst v) w') : wpOp P ops Q i K a w := by
  rcases hy with ⟨hw, ⟨hne, hv⟩ | ⟨rfl, rfl, hv⟩⟩ | ⟨hne, hw, rfl⟩
  · exact StepsIf.wpOp (S := S (phase k listed)) hi (.inl ⟨hw, hv _⟩) hS fun w' hs => h w' (by rw [phase_ne hne]; exact hs)
  · have hp : phase i listed = false := hun
    rw [hp] at hS
    obtain ⟨w', hr, hs⟩ := hv w hS
    unfold Go.wpOp
    simp only [hi, hw, if_true]
    refine .inl ?_
    unfold Oper.wp
    rw [hr]
    simp only [Oper.upon]
    exact h w' (by rw [phase_eq]; exact hs)
  · exact StepsIf.wpOp (S := S (phase k listed)) hi (.inr ⟨hw, rfl⟩) hS fun w' hs => h w' (by rw [phase_ne hne]; exact hs)
def GoodP (P : Program) (md : Region.Mode) (ops : Array Oper) (Q : Exit → Act → World → Prop) (S : Bool → World → Prop) (k : Nat) : Nat → Array Bool → Act → Prop
  | 0, listed, a => Region.ready md ops listed = [] ∧ ∀ w, S (phase k listed) w → Q .normal a w
  | f + 1, listed, a => (Region.ready md ops listed = [] → ∀ w, S (phase k listed) w → Q .normal a w) ∧
    ∀ i ∈ Region.ready md ops listed, ∃ o v, ops[i]? = some o ∧ StepsP P ops S k i o v a ∧ GoodP P md ops Q S k f (listed.setIfInBounds i true) (a.put o.dst v)
theorem wpAny_of_goodP : ∀ (f : Nat) (listed : Array Bool) (a : Act), GoodP P md ops Q S k f listed a → ∀ w, S (phase k listed) w → wpAny P md ops Q f listed a w
  | 0, _, _, h, w, hS => ⟨h.1, h.2 w hS⟩
  | f + 1, listed, a, h, w, hS => ⟨fun e => h.1 e w hS, fun i hi => by
    obtain ⟨o, v, ho, hs, hg⟩ := h.2 i hi
    exact hs.wpOp ho (mem_ready.1 hi).1 hS fun w' hS' => wpAny_of_goodP f _ _ hg w' hS'⟩
theorem GoodP.first {i : Nat} {oi : Oper} {v : Value} (hi : ops[i]? = some oi) (hsel : ∀ (j : Nat) (o : Oper) cs b, ops[j]? = some o → o.op ≠ .select cs b) :
    ∀ (f : Nat) (listed : Array Bool) (a : Act),
      (∀ j oj, ops[j]? = some oj → j ≠ i → listed.getD j true = false → (∀ e ∈ oj.after, Region.binds md e = true → e.on ≠ i) → oi.apart ops oj = true) →
      i ∈ Region.ready md ops listed → StepsP P ops S k i oi v a →
      GoodP P md ops Q S k f (listed.setIfInBounds i true) (a.put oi.dst v) → GoodP P md ops Q S k (f + 1) listed a := by
  intro f
  induction f with
  | zero =>
    intro listed a _ hr hy H
    refine ⟨fun h => (by rw [h] at hr; cases hr), fun j hj => ?_⟩
    by_cases hji : j = i
    · subst hji; exact ⟨oi, v, hi, hy, H⟩
    · have := ready_mono hj hji
      rw [H.1] at this
      cases this
  | succ f ih =>
    intro listed a hfree hr hy H
    refine ⟨fun h => (by rw [h] at hr; cases hr), fun j hj => ?_⟩
    by_cases hji : j = i
    · subst hji; exact ⟨oi, v, hi, hy, H⟩
    · obtain ⟨oj, u, hoj, hju, hg⟩ := H.2 j (ready_mono hj hji)
      obtain ⟨hjun, oj', hoj', hall⟩ := mem_ready.1 hj
      rw [hoj] at hoj'
      injection hoj' with hoj'
      subst hoj'
      have hnot : ∀ e ∈ oj.after, Region.binds md e = true → e.on ≠ i := fun e he hb heq => by
        have h1 := hall e he hb
        have h0 := (mem_ready.1 hr).1
        rw [heq] at h1
        rcases Nat.lt_or_ge i listed.size with h' | h'
        · simp [h'] at h0 h1; rw [h0] at h1; cases h1
        · simp [Array.getElem?_eq_none h'] at h1
      obtain ⟨h1, h2, h3⟩ := Oper.apart_spec (hfree j oj hoj hji hjun hnot)
      have hsi := fun cs b => hsel i oi cs b hi
      have hsj := fun cs b => hsel j oj cs b hoj
      have hju' : StepsP P ops S k j oj u a := hju.of_same (execOp_put oj hsj a oi.dst v h1).symm (wanted_put oj a oi.dst v h1).symm
      have hy' : StepsP P ops S k i oi v (a.put oj.dst u) := hy.of_same (execOp_put oi hsi a oj.dst u h3) (wanted_put oi a oj.dst u h3)
      have hfree' : ∀ k ok, ops[k]? = some ok → k ≠ i → (listed.setIfInBounds j true).getD k true = false →
          (∀ e ∈ ok.after, Region.binds md e = true → e.on ≠ i) → oi.apart ops ok = true := fun k ok hk hki hun hno => by
        refine hfree k ok hk hki ?_ hno
        by_cases hjk : j = k
        · subst hjk; exact hjun
        · rw [getD_set_ne true hjk] at hun; exact hun
      refine ⟨oj, u, hoj, hju', ih (listed.setIfInBounds j true) (a.put oj.dst u) hfree' (ready_mono hr (Ne.symm hji)) hy' ?_⟩
      rw [Array.setIfInBounds_comm _ _ hji, ← Act.put_comm a v u h2]
      exact hg
section
variable {i : Nat} {oi : Oper} {v : Value} {f : Nat} {listed : Array Bool} {a : Act} {d : Option Tmp}
theorem GoodP.val (hk : (i == k) = false) (hi : ops[i]? = some oi) (hd : oi.dst = d)
    (hs : Region.noSelect ops = true) (hf : Region.free md ops listed i = true) (hr : (Region.ready md ops listed).contains i = true)
    (hw : Region.wanted oi (yielded ops a.tmps) = true) (hv : ∀ b w, S b w → (execOp a.eval oi).run P w = .ok (.value v) w)
    (h : GoodP P md ops Q S k f (listed.setIfInBounds i true) (a.put d v)) : GoodP P md ops Q S k (f + 1) listed a :=
  GoodP.first hi (Region.noSelect_spec hs) f listed a (Region.free_spec hi hf) (by simpa using hr) (.inl ⟨hw, .inl ⟨by simpa using hk, fun b w hS => by rw [hv b w hS]; exact ⟨rfl, hS⟩⟩⟩) (hd ▸ h)
theorem GoodP.call (hk : (i == k) = false) {fn : FuncId} {args : Array Value} (hi : ops[i]? = some oi) (hd : oi.dst = d)
    (hs : Region.noSelect ops = true) (hf : Region.free md ops listed i = true) (hr : (Region.ready md ops listed).contains i = true)
    (hw : Region.wanted oi (yielded ops a.tmps) = true) (hv : ∀ b w, S b w → (execOp a.eval oi).run P w = .ok (.enter fn args) w)
    (hc : ∀ b w, S b w → Calls P fn args w fun e w' => e = .returned v ∧ S b w')
    (h : GoodP P md ops Q S k f (listed.setIfInBounds i true) (a.put d v)) : GoodP P md ops Q S k (f + 1) listed a :=
  GoodP.first hi (Region.noSelect_spec hs) f listed a (Region.free_spec hi hf) (by simpa using hr) (.inl ⟨hw, .inl ⟨by simpa using hk, fun b w hS => by rw [hv b w hS]; exact hc b w hS⟩⟩) (hd ▸ h)
theorem GoodP.skip (hk : (i == k) = false) (hi : ops[i]? = some oi) (hd : oi.dst = d)
    (hs : Region.noSelect ops = true) (hf : Region.free md ops listed i = true) (hr : (Region.ready md ops listed).contains i = true)
    (hw : Region.wanted oi (yielded ops a.tmps) = false)
    (h : GoodP P md ops Q S k f (listed.setIfInBounds i true) (a.put d undef)) : GoodP P md ops Q S k (f + 1) listed a :=
  GoodP.first hi (Region.noSelect_spec hs) f listed a (Region.free_spec hi hf) (by simpa using hr) (.inr ⟨by simpa using hk, hw, rfl⟩) (hd ▸ h)
theorem GoodP.store (hi : ops[k]? = some oi) (hd : oi.dst = none)
    (hs : Region.noSelect ops = true) (hf : Region.free md ops listed k = true) (hr : (Region.ready md ops listed).contains k = true)
    (hw : Region.wanted oi (yielded ops a.tmps) = true) (hv : ∀ w, S false w → ∃ w', (execOp a.eval oi).run P w = .ok .skip w' ∧ S true w')
    (h : GoodP P md ops Q S k f (listed.setIfInBounds k true) a) : GoodP P md ops Q S k (f + 1) listed a :=
  GoodP.first hi (Region.noSelect_spec hs) f listed a (Region.free_spec hi hf) (by simpa using hr) (.inl ⟨hw, .inr ⟨rfl, rfl, hv⟩⟩) (by rw [hd]; exact h)
theorem GoodP.done (hp : phase k listed = true) (hr : Region.ready md ops listed = []) (h : ∀ w, S true w → Q .normal a w) : ∀ f, GoodP P md ops Q S k f listed a
  | 0 => ⟨hr, by rw [hp]; exact h⟩
  | _ + 1 => ⟨fun _ => by rw [hp]; exact h, by rw [hr]; simp⟩
end
theorem wp_region_linp {id : Nat} {a : Act} {w : World} (k : Nat) (hk : k < ops.size) (hm : P.follows .mixedOrders = true) (hS : S false w.drew)
    (h : GoodP P .any ops Q S k ops.size (Array.replicate ops.size false) a) : (Code.region id ops true).wp P Q a w :=
  wp_region_any hm (wpAny_of_goodP _ _ _ h _ (by
    have : phase k (Array.replicate ops.size false) = false := by unfold phase; simp [hk]
    rw [this]; exact hS))
end
/-- the result's variable is written once: ahead of that it holds these, behind it those -/
def Slot (w0 : World) (g : Nat) (t : TypeId) (old new : Array Value) (b : Bool) (w : World) : Prop := w0.grownBy w (some g) ∧ Blk w g t (if b then new else old)
theorem Slot.start {w0 : World} {g : Nat} {t : TypeId} {old new : Array Value} (h : Blk w0 g t old) : Slot w0 g t old new false w0.drew := ⟨only_drew (World.grownBy.refl _ _), h.drew⟩
theorem Slot.call {w0 : World} {g : Nat} {t : TypeId} {old new : Array Value} {P : Program} {fn : FuncId} {args : Array Value} {v : Value}
    (h : ∀ b w, Slot w0 g t old new b w → Calls P fn args w fun e w' => e = .returned v ∧ Below w.heap.size w w') :
    ∀ b w, Slot w0 g t old new b w → Calls P fn args w fun e w' => e = .returned v ∧ Slot w0 g t old new b w' :=
  fun b w q => (h b w q).mono fun _ _ ⟨he, bl⟩ => ⟨he, ⟨⟨bl.os.trans q.1.os, bl.tape.trans q.1.tape, bl.output.trans q.1.output, Nat.le_trans q.1.size bl.size, fun i hi hne => (bl.block i (Nat.lt_of_lt_of_le hi q.1.size)).trans (q.1.block i hi hne)⟩, q.2.ca bl⟩⟩
theorem Slot.blk {w0 w : World} {g g' : Nat} {t t' : TypeId} {old new cs : Array Value} {b : Bool} (q : Slot w0 g t old new b w) (h : Blk w0 g' t' cs) (hne : g' ≠ g) : Blk w g' t' cs := h.apart q.1 hne
theorem Slot.store {P : Program} {w0 w : World} {g : Nat} {t : TypeId} {old new : Array Value} (q : Slot w0 g t old new false w) (ty : TypeId)
    (hs : new.size = old.size) (hi : (P.info? ty).map (·.size) = some new.size) (h1 : new.all (·.oneCell') = true) {ρ : Operand → Value} {o : Oper} {x y : Operand} (ho : o.op = .store ty x y)
    (hx : ρ x = .pointer (some ⟨g, 0, none⟩)) (hy : ρ y = .agg new) : ∃ w', (execOp ρ o).run P w = .ok .skip w' ∧ Slot w0 g t old new true w' := by
  have hb : Blk w g t old := q.2
  have key : ∀ w', Blk w' g t new → w.grownBy w' (some g) → Slot w0 g t old new true w' := fun w' hb' hg => by
    refine ⟨⟨hg.os.trans q.1.os, hg.tape.trans q.1.tape, hg.output.trans q.1.output, Nat.le_trans q.1.size hg.size, fun i hi hne => (hg.block i (Nat.lt_of_lt_of_le hi q.1.size) hne).trans (q.1.block i hi hne)⟩, ?_⟩
    exact hb'
  have hth : w.there g 0 new.size := by rw [hs]; exact there_blk hb
  refine ⟨w.setCells g 0 new.toList, ?_, key _ (blk_setAll hb hs) (grown_setCells _ _ _ (World.grownBy.refl w _))⟩
  unfold execOp
  simp only [ho, hx, hy, Instr.storeAt, Instr.sureAddr, Sem.run_bind, Sem.run_pure, Result.andThen_ok, run_storeVar_mid w g 0 ty new hth hi h1]
end Go.Proofs.Ytnbcffnhgijmcaa
/- Parcels in memory. Conditions: none. -/
namespace Go.Proofs.Ytnbcffnhgijmcaa
open Go.ChangeShapes Go.WideShapes Go.ChangeAt Go.RowKit Go.Deep
/-- a parcel -/
structure PC where
  num : Int
  frm : Int
  to : Int
  bs : List UInt8
  sp : Bool
def LP : Lay PC where
  size := 5
  rep := fun w F p cs => ∃ A n c, cs = [.int .u64 p.num, .int .i64 p.frm, .int .i64 p.to, .slice A n c, .bool p.sp] ∧ n ≤ c ∧ c ≤ 9223372036854775807 ∧ LB.rd w F A n p.bs
  len := fun h => by obtain ⟨A, n, c, rfl, _⟩ := h; rfl
  one := fun h u hu => by obtain ⟨A, n, c, rfl, _⟩ := h; simp at hu; rcases hu with rfl | rfl | rfl | rfl | rfl <;> rfl
  keep := fun hk h => by obtain ⟨A, n, c, e, h1, h2, hr⟩ := h; exact ⟨A, n, c, e, h1, h2, Lay.rd_keep hk hr⟩
  weak := fun hk h => by obtain ⟨A, n, c, e, h1, h2, hr⟩ := h; exact ⟨A, n, c, e, h1, h2, Lay.rd_weak hk hr⟩
/-- a number of Go's -/
def I64 (x : Int) : Prop := -9223372036854775808 ≤ x ∧ x ≤ 9223372036854775807
def U64r (x : Int) : Prop := 0 ≤ x ∧ x < 18446744073709551616
def PC.rng (p : PC) : Prop := U64r p.num ∧ I64 p.frm ∧ I64 p.to
theorem wf_i64 {x : Int} (h : (Lit.int .i64 x).wf = true) : I64 x := by
  simp [Lit.wf, IntKind.min, IntKind.max, IntKind.signed, IntKind.bits] at h
  exact ⟨by omega, by omega⟩
theorem wf_u64 {x : Int} (h : (Lit.int .u64 x).wf = true) : U64r x := by
  simp [Lit.wf, IntKind.min, IntKind.max, IntKind.signed, IntKind.bits] at h
  exact ⟨by omega, by omega⟩
theorem opens_parcel : Opens Try.prog 29 LP PC.rng :=
  opens_as (opens_struct Try.underlying29 (by kernel_rfl)
    (opensAt_cons 0 23 (by kernel_rfl) (opens_int Try.underlying23 (by kernel_rfl))
      (opensAt_cons 1 3 (by kernel_rfl) (opens_int Try.underlying3 (by kernel_rfl))
        (opensAt_cons 2 3 (by kernel_rfl) (opens_int Try.underlying3 (by kernel_rfl))
          (opensAt_cons 3 27 (by kernel_rfl) opens_bytes
            (opensAt_last 4 4 (by kernel_rfl) (opens_bool Try.underlying4 (by kernel_rfl)))))))) rfl
    (fun w a cs h g => by
      obtain ⟨num, frm, to, bs, sp⟩ := a
      obtain ⟨_, _, rfl, rfl, _, _, rfl, rfl, _, _, rfl, rfl, _, _, rfl, ⟨A, n, c, rfl, h1, h2, hr⟩, rfl⟩ := h
      exact ⟨⟨num, frm, to, bs, sp⟩, ⟨A, n, c, rfl, h1, h2, hr⟩, wf_u64 g.1, wf_i64 g.2.1, wf_i64 g.2.2.1⟩)
theorem opens_parcels : Opens Try.prog 24 LP.slice (fun ps => ∀ p ∈ ps, p.rng) :=
  opens_slice Try.underlying24 (by kernel_rfl) (by decide) opens_parcel
/-- a parcel lies at this place -/
structure SP (w : World) (F : Nat → Prop) (p : Addr) (x : PC) (B : Option Addr) (n c : Nat) : Prop where
  lt : p.block < w.heap.size
  c0 : w.cell? p = some (.int .u64 x.num)
  c1 : w.cell? ⟨p.block, p.off + 1, none⟩ = some (.int .i64 x.frm)
  c2 : w.cell? ⟨p.block, p.off + 2, none⟩ = some (.int .i64 x.to)
  c3 : w.cell? ⟨p.block, p.off + 3, none⟩ = some (.slice B n c)
  c4 : w.cell? ⟨p.block, p.off + 4, none⟩ = some (.bool x.sp)
  nc : n ≤ c
  cm : c ≤ 9223372036854775807
  bs : LB.rd w F B n x.bs
theorem addr_more (a : Addr) (i j : Nat) (hj : 0 < j) : a.add (i + j) = ⟨(a.add i).block, (a.add i).off + j, none⟩ := by
  unfold Addr.add
  by_cases h : i = 0
  · subst h; simp; omega
  · simp [h]; omega
theorem LP_at {w : World} {F : Nat → Prop} {A : Option Addr} {m i : Nat} {ps : List PC} (h : LP.rd w F A m ps) (hi : i < m) :
    ∃ p x B n c, A = some p ∧ ps[i]? = some x ∧ SP w F (p.add (i * 5)) x B n c := by
  obtain ⟨ad, x, cs, e, hx, hb, _, hrep, hc⟩ := Lay.rd_at h hi
  obtain ⟨B, n, c, rfl, h1, h2, hr⟩ := hrep
  refine ⟨ad, x, B, n, c, e, hx, ⟨by rw [block_of_add]; exact hb, hc 0 _ rfl, ?_, ?_, ?_, ?_, h1, h2, hr⟩⟩
  · rw [← addr_more _ _ 1 (by omega)]; exact hc 1 _ rfl
  · rw [← addr_more _ _ 2 (by omega)]; exact hc 2 _ rfl
  · rw [← addr_more _ _ 3 (by omega)]; exact hc 3 _ rfl
  · rw [← addr_more _ _ 4 (by omega)]; exact hc 4 _ rfl
theorem SP.rb {w : World} {F : Nat → Prop} {p : Addr} {x : PC} {B : Option Addr} {n c : Nat} (h : SP w F p x B n c) : RdB w B n x.bs := LB_rd h.bs
theorem SP.len {w : World} {F : Nat → Prop} {p : Addr} {x : PC} {B : Option Addr} {n c : Nat} (h : SP w F p x B n c) : x.bs.length = n := h.bs.1
theorem Try.parcelInfo : (Try.prog.info? 29).map (fun i => (i.zero, i.size, i.bytes)) = some (some (.agg #[.int .u64 0, .int .i64 0, .int .i64 0, .slice none 0 0, .bool false]), 5, 56) := by kernel_rfl
theorem parcelI : (Try.prog.info? 29).map (·.size) = some 5 := by kernel_rfl
theorem netI : (Try.prog.info? 26).map (·.size) = some 2 := by kernel_rfl
end Go.Proofs.Ytnbcffnhgijmcaa
/- Which may be two nodes: net.pair, bowspritref24.Pair. Conditions: none. -/
namespace Go.Proofs.Ytnbcffnhgijmcaa
open Go.RowKit
def pairB (f t : Int) : Bool := decide (0 ≤ f) && decide (f ≤ 8) && decide (0 ≤ t) && decide (t ≤ 8) && (f != t)
theorem ret_bool {a b : Bool} (h : a = b) : Ending.returned (.bool a) = .returned (.bool b) := by rw [h]
theorem dt {p : Prop} [Decidable p] (h : p) : decide p = true := decide_eq_true h
theorem df {p : Prop} [Decidable p] (h : ¬ p) : decide p = false := decide_eq_false h
set_option maxRecDepth 100000 in
theorem pair_any (f t : Int) (w : World) : Calls Try.prog 43 #[.int .i64 f, .int .i64 t] w fun e w' => e = .returned (.bool (pairB f t)) ∧ w = w' := by
  obtain ⟨r, hr⟩ : ∃ r, r = pairB f t := ⟨_, rfl⟩
  rw [← hr]
  have HR := Lib.hid hr
  clear hr
  go_enter Try.func43, Try.ntmps43
  go_wp2
  all_goals
    go_ret
    refine ⟨ret_bool ?_, rfl⟩
    rw [HR.out]
    unfold pairB
    simp [*]
  all_goals omega
set_option maxRecDepth 100000 in
theorem rpair_any (f t : Int) (w : World) : Calls Try.prog 45 #[.int .i64 f, .int .i64 t] w fun e w' => e = .returned (.bool (pairB f t)) ∧ w = w' := by
  obtain ⟨r, hr⟩ : ∃ r, r = pairB f t := ⟨_, rfl⟩
  rw [← hr]
  have HR := Lib.hid hr
  clear hr
  go_enter Try.func45, Try.ntmps45
  go_wp2
  all_goals
    go_ret
    refine ⟨ret_bool ?_, rfl⟩
    rw [HR.out]
    unfold pairB
    simp [*]
  all_goals omega
end Go.Proofs.Ytnbcffnhgijmcaa
