/- net.adds. Conditions: the block holds a net whose parcels the call owns; the parcel's bytes can be read. -/
import Derived.Test.YtnbcffnhgijmcaaPkS4
import Derived.Deep.AppendLies
import Derived.Shelf.Abstract
namespace Go.Proofs.Ytnbcffnhgijmcaa
open Go.RowKit
/-- below B nothing is changed but block b -/
structure Kept (w w' : World) (b B : Nat) : Prop where
  os : w'.os = w.os
  tape : w'.tape = w.tape
  output : w'.output = w.output
  size : w.heap.size ≤ w'.heap.size
  block : ∀ k, k < B → k ≠ b → w'.heap[k]? = w.heap[k]?
section
variable {w w' w'' : World} {b B : Nat}
theorem Kept.refl (w : World) (b B : Nat) : Kept w w b B := ⟨rfl, rfl, rfl, Nat.le_refl _, fun _ _ _ => rfl⟩
theorem Kept.of_below {B' : Nat} (h : Below B' w w') (hB : B ≤ B') : Kept w w' b B := ⟨h.os, h.tape, h.output, h.size, fun k hk _ => h.block k (by omega)⟩
theorem Kept.trans (h : Kept w w' b B) (k : Kept w' w'' b B) : Kept w w'' b B := ⟨k.os.trans h.os, k.tape.trans h.tape, k.output.trans h.output, Nat.le_trans h.size k.size, fun j hj hne => (k.block j hj hne).trans (h.block j hj hne)⟩
theorem Kept.of_grown {r : Nat} (h : w.grownBy w' (some r)) (hB : B ≤ w.heap.size) (hr : r = b ∨ B ≤ r) : Kept w w' b B := ⟨h.os, h.tape, h.output, h.size, fun k hk hne => h.block k (by omega) (fun e => by injection e with e; omega)⟩
theorem Kept.less {B' : Nat} (h : Kept w w' b B) (hB : B' ≤ B) : Kept w w' b B' := ⟨h.os, h.tape, h.output, h.size, fun k hk hne => h.block k (by omega) hne⟩
theorem Kept.below {B0 : Nat} {w0 : World} (h : Kept w w' b B) (h0 : Below B0 w0 w) (hb : B0 ≤ b) (hB : B0 ≤ B) : Below B0 w0 w' := ⟨h.os.trans h0.os, h.tape.trans h0.tape, h.output.trans h0.output, Nat.le_trans h0.size h.size, fun k hk => (h.block k (by omega) (by omega)).trans (h0.block k hk)⟩
end
theorem OwnB.at_ {w w' : World} {B : Nat} {A : Option Addr} {n c : Nat} {bs : List UInt8} (h : OwnB w B A n c bs) (hk : ∀ k, (Value.slice A n c).ownBlock = some k → w'.heap[k]? = w.heap[k]?) : OwnB w' B A n c bs := by
  refine ⟨h.1, ?_⟩
  rcases h.2 with h2 | ⟨g, cap, cur, e, hg, hh, r⟩
  · exact .inl h2
  · exact .inr ⟨g, cap, cur, e, hg, (hk g (by rw [e]; rfl)).trans hh, r⟩
theorem own_ne_row {w : World} {B B' m c' : Nat} {A A' : Option Addr} {n c : Nat} {bs : List UInt8} {es : List El} (h : OwnB w B A n c bs) (hr : Ro w B' A' m c' es) {k : Nat} (hk : (Value.slice A n c).ownBlock = some k) : (Value.slice A' m c').ownBlock ≠ some k := by
  intro e
  rcases hr.2 with ⟨h', _⟩ | ⟨g', cap, cur, h', _, hg, _⟩
  · rw [h'] at e; simp [Value.ownBlock] at e
  · have hA : A' = some ⟨g', 0, none⟩ := by injection h'
    subst hA
    have : g' = k := by simpa [Value.ownBlock] using e
    subst this
    exact own_ne_ro h hr hk
theorem addr0 (g j : Nat) : (⟨g, 0, none⟩ : Addr).add j = ⟨g, j, none⟩ := by unfold Addr.add; split <;> simp_all
theorem own_ne_blk3 {w : World} {B m c g t : Nat} {A : Option Addr} {cs : Array Value} {es : List El} (h : Ro w B A m c es) (hb : Blk w g t cs) (ht : t ≠ 29 := by decide) : (Value.slice A m c).ownBlock ≠ some g := own_blk_ne h hb (Ne.symm ht)
theorem DO.push {w2 w6 w8 w9 : World} {B b m c c8 : Nat} {A A8 : Option Addr} {es : List El} {e2 : El} (hD2 : DO w2 B A m c es) (hD6 : DO w6 B A m c es) (ho : OwnB w6 w2.heap.size e2.A e2.n e2.c e2.p.bs) (hBs : B ≤ w2.heap.size)
    (hro : Ro w8 B A8 (m + 1) c8 (es ++ [e2])) (hR : ∀ k, k < w6.heap.size → (Value.slice A m c).ownBlock ≠ some k → w8.heap[k]? = w6.heap[k]?) (hg : w8.grownBy w9 (some b)) (hb : b < B) : DO w9 B A8 (m + 1) c8 (es ++ [e2]) := by
  refine ⟨hro.kept hg (fun e => by have := (own_base' hro b e).1; omega), ?_, ?_⟩
  · intro x hx
    have key : ∀ (e : El) (B' : Nat), OwnB w6 B' e.A e.n e.c e.p.bs → B ≤ B' → OwnB w9 B e.A e.n e.c e.p.bs := fun e B' h hB' =>
      ((OwnB.less h hB').at_ (fun k hk => hR k (h.base_ k hk).2 (own_ne_row h hD6.row hk))).kept hg (fun e' => by have := (h.base_ b e').1; omega)
    rcases List.mem_append.1 hx with hx | hx
    · exact key x B (hD6.own x hx) (Nat.le_refl _)
    · rw [List.mem_singleton.1 hx]; exact key e2 _ ho hBs
  · rw [List.pairwise_append]
    refine ⟨hD2.apart, List.pairwise_singleton _ _, fun x hx y hy k hk => ?_⟩
    rw [List.mem_singleton.1 hy]
    intro e'
    have h1 := ((hD2.own x hx).base_ k hk).2
    have h2 := (ho.base_ k e').1
    omega
/-- a parcel behind the others: with the next number, its bytes in memory of their own -/
def added (sent : Int) (p : PC) : PC := ⟨sent + 1, p.frm, p.to, p.bs, p.sp⟩
def pcells (p : PC) (A : Option Addr) (n c : Nat) : Array Value := #[.int .u64 p.num, .int .i64 p.frm, .int .i64 p.to, .slice A n c, .bool p.sp]
set_option maxRecDepth 100000 in
set_option maxHeartbeats 4000000 in
theorem adds_full (sent : Int) (A : Option Addr) (m c b : Nat) (p : PC) (pA : Option Addr) (pn pc : Nat) (w : World) (hN : Blk w b 26 #[.int .u64 sent, .slice A m c]) (hf : 20000 ≤ m ∨ sent = 1099511627776) :
    Calls Try.prog 44 #[.pointer (some ⟨b, 0, none⟩), .agg #[.int .u64 p.num, .int .i64 p.frm, .int .i64 p.to, .slice pA pn pc, .bool p.sp]] w fun e w' => e = .returned (.int .i64 6) ∧ Below w.heap.size w w' := by
  have hN1 := hN.ca (bl_al (Below.refl w.heap.size w) (.cells #[.int .u64 p.num, .int .i64 p.frm, .int .i64 p.to, .slice pA pn pc, .bool p.sp] 29))
  have n0 : (w.alloc (.cells #[.int .u64 p.num, .int .i64 p.frm, .int .i64 p.to, .slice pA pn pc, .bool p.sp] 29)).cell? ⟨b, 0, none⟩ = some (.int .u64 sent) := hN1.cell 0
  have n1 : (w.alloc (.cells #[.int .u64 p.num, .int .i64 p.frm, .int .i64 p.to, .slice pA pn pc, .bool p.sp] 29)).cell? ⟨b, 1, none⟩ = some (.slice A m c) := hN1.cell 1
  have b1 := bl_al (Below.refl w.heap.size w) (.cells #[.int .u64 p.num, .int .i64 p.frm, .int .i64 p.to, .slice pA pn pc, .bool p.sp] 29)
  clear hN1 hN
  by_cases h : 20000 ≤ m
  · have h1 : (20000 : Int) ≤ (m : Int) := by omega
    clear hf
    go_enter Try.func44, Try.ntmps44
    go_wp2
    go_ret
    exact ⟨rfl, b1⟩
  · have h1 : (m : Int) < 20000 := by omega
    have h2 : sent = 1099511627776 := by omega
    subst h2
    clear hf
    go_enter Try.func44, Try.ntmps44
    go_wp2
    go_ret
    exact ⟨rfl, b1⟩
set_option maxRecDepth 100000 in
set_option maxHeartbeats 8000000 in
theorem adds_any (sent : Int) (A : Option Addr) (m c b B : Nat) (es : List El) (p : PC) (pA : Option Addr) (pn pc : Nat) (w : World) (hN : Blk w b 26 #[.int .u64 sent, .slice A m c]) (hD : DO w B A m c es) (hb : b < B) (hB : B ≤ w.heap.size)
    (hp : ∀ w', Kept w w' b w.heap.size → RdB w' pA pn p.bs) (hpn : pn ≤ 60000) (hm : m < 20000) (hs0 : 0 ≤ sent) (hs : sent < 1099511627776) :
    Calls Try.prog 44 #[.pointer (some ⟨b, 0, none⟩), .agg #[.int .u64 p.num, .int .i64 p.frm, .int .i64 p.to, .slice pA pn pc, .bool p.sp]] w fun e w' => e = .returned (.int .i64 0) ∧ Kept w w' b B ∧
      ∃ A2 c2 e2, Blk w' b 26 #[.int .u64 (sent + 1), .slice A2 (m + 1) c2] ∧ DO w' B A2 (m + 1) c2 (es ++ [e2]) ∧ e2.p = added sent p := by
  have hN1 := hN.ca (bl_al (Below.refl w.heap.size w) (.cells #[.int .u64 p.num, .int .i64 p.frm, .int .i64 p.to, .slice pA pn pc, .bool p.sp] 29))
  have n0 : (w.alloc (.cells #[.int .u64 p.num, .int .i64 p.frm, .int .i64 p.to, .slice pA pn pc, .bool p.sp] 29)).cell? ⟨b, 0, none⟩ = some (.int .u64 sent) := hN1.cell 0
  have n1 : (w.alloc (.cells #[.int .u64 p.num, .int .i64 p.frm, .int .i64 p.to, .slice pA pn pc, .bool p.sp] 29)).cell? ⟨b, 1, none⟩ = some (.slice A m c) := hN1.cell 1
  have f0 : (w.alloc (.cells #[.int .u64 p.num, .int .i64 p.frm, .int .i64 p.to, .slice pA pn pc, .bool p.sp] 29)).frozen? ⟨b, 0, none⟩ = false := hN1.frozen 0
  have hX := Blk.new w 29 #[.int .u64 p.num, .int .i64 p.frm, .int .i64 p.to, .slice pA pn pc, .bool p.sp]
  have b1 := bl_al (Below.refl w.heap.size w) (.cells #[.int .u64 p.num, .int .i64 p.frm, .int .i64 p.to, .slice pA pn pc, .bool p.sp] 29)
  have hg : (w.alloc (.cells #[.int .u64 p.num, .int .i64 p.frm, .int .i64 p.to, .slice pA pn pc, .bool p.sp] 29)).grownBy ((w.alloc (.cells #[.int .u64 p.num, .int .i64 p.frm, .int .i64 p.to, .slice pA pn pc, .bool p.sp] 29)).setCell ⟨b, 0, none⟩ (.int .u64 (sent + 1))) (some b) := only_setCell (World.grownBy.refl _ _) (.inl rfl) _
  have HX2 := Lib.hid (hX.apart hg (by omega))
  have HN2 := Lib.hid (show Blk ((w.alloc (.cells #[.int .u64 p.num, .int .i64 p.frm, .int .i64 p.to, .slice pA pn pc, .bool p.sp] 29)).setCell ⟨b, 0, none⟩ (.int .u64 (sent + 1))) b 26 #[.int .u64 (sent + 1), .slice A m c] from by simpa using hN1.set_ 0 (.int .u64 (sent + 1)))
  have HRB := Lib.hid (fun k (e : (Value.slice A m c).ownBlock = some k) => (own_base' hD.row k e).2)
  have HD2 := Lib.hid ((hD.below b1).kept hg hb)
  have HK2 := Lib.hid ((Kept.of_below b1 (Nat.le_refl _)).trans (Kept.of_grown (b := b) hg (by simp only [World.size_alloc]; omega) (.inl rfl)))
  have hsz2 : w.heap.size + 1 ≤ ((w.alloc (.cells #[.int .u64 p.num, .int .i64 p.frm, .int .i64 p.to, .slice pA pn pc, .bool p.sp] 29)).setCell ⟨b, 0, none⟩ (.int .u64 (sent + 1))).heap.size := by have := hg.size; simp only [World.size_alloc] at this ⊢; exact this
  have hB2' : B ≤ w.heap.size + 1 := by omega
  have d1 : decide ((20000 : Int) ≤ (m : Int)) = false := df (by omega)
  have d2 : (sent == 1099511627776) = false := by simp; omega
  have HP2 := Lib.hid (fun W (q : Below ((w.alloc (.cells #[.int .u64 p.num, .int .i64 p.frm, .int .i64 p.to, .slice pA pn pc, .bool p.sp] 29)).setCell ⟨b, 0, none⟩ (.int .u64 (sent + 1))).heap.size ((w.alloc (.cells #[.int .u64 p.num, .int .i64 p.frm, .int .i64 p.to, .slice pA pn pc, .bool p.sp] 29)).setCell ⟨b, 0, none⟩ (.int .u64 (sent + 1))) W) => hp W (HK2.out.trans (Kept.of_below q (by omega))))
  clear hN1 hN hD hX b1 hg
  go_enter Try.func44, Try.ntmps44
  go_wp2_with fail
  clear n0 n1 f0 d1 d2
  have hB2 := Nat.le_trans hB2' hsz2
  generalize (w.alloc (.cells #[.int .u64 p.num, .int .i64 p.frm, .int .i64 p.to, .slice pA pn pc, .bool p.sp] 29)).setCell ⟨b, 0, none⟩ (.int .u64 (sent + 1)) = w2 at *
  refine wp_region_ps (S := Seq3 6 8 10 (fun _ w' => Below w2.heap.size w2 w') (fun m w' => Below w2.heap.size w2 w' ∧ ∃ A4 c4, m 6 = .slice A4 pn c4 ∧ OwnB w' w2.heap.size A4 pn c4 p.bs) (fun m w' => ∃ w5, Below w2.heap.size w2 w5 ∧ (∃ A4 c4, m 6 = .slice A4 pn c4 ∧ OwnB w5 w2.heap.size A4 pn c4 p.bs) ∧ w' = w5.setCell ⟨w.heap.size, 0, none⟩ (.int .u64 (sent + 1))) (fun m w' => ∃ w5 A4 c4, Below w2.heap.size w2 w5 ∧ m 6 = .slice A4 pn c4 ∧ OwnB w5 w2.heap.size A4 pn c4 p.bs ∧ w' = (w5.setCell ⟨w.heap.size, 0, none⟩ (.int .u64 (sent + 1))).setCell ⟨w.heap.size, 3, none⟩ (.slice A4 pn c4))) (by kernel_rfl) ?spswq ?ppswq
  case spswq =>
    exact Seq3.start (by decide) (by decide) (by decide) (Below.refl _ _).drew
  refine Ps.step (i := 0) (d := some 25) (u := ?uwq_1) rfl rfl (by kernel_rfl) (by kernel_rfl) (by kernel_rfl) (by kernel_rfl) ?ywq_1 ?rwq_1
  case ywq_1 =>
    refine StepS.pure (Seq3.pass (by decide) (by decide) (by decide)) (by rfl) (fun w9 => ?_)
    go_simp
    try rfl
  try simp only [Act.put, List.setIfInBounds_toArray, List.set_cons_zero, List.set_cons_succ]
  refine Ps.step (i := 1) (d := some 26) (u := ?uwq_2) rfl rfl (by kernel_rfl) (by kernel_rfl) (by kernel_rfl) (by kernel_rfl) ?ywq_2 ?rwq_2
  case ywq_2 =>
    refine StepS.pure (Seq3.pass (by decide) (by decide) (by decide)) (by rfl) (fun w9 => ?_)
    go_simp
    try rfl
  try simp only [Act.put, List.setIfInBounds_toArray, List.set_cons_zero, List.set_cons_succ]
  refine Ps.step (i := 2) (d := some 27) (u := ?uwq_3) rfl rfl (by kernel_rfl) (by kernel_rfl) (by kernel_rfl) (by kernel_rfl) ?ywq_3 ?rwq_3
  case ywq_3 =>
    refine StepS.pure (Seq3.pass (by decide) (by decide) (by decide)) (by rfl) (fun w9 => ?_)
    go_simp
    try rfl
  try simp only [Act.put, List.setIfInBounds_toArray, List.set_cons_zero, List.set_cons_succ]
  refine Ps.step (i := 3) (d := some 28) (u := ?uwq_4) rfl rfl (by kernel_rfl) (by kernel_rfl) (by kernel_rfl) (by kernel_rfl) ?ywq_4 ?rwq_4
  case ywq_4 =>
    refine StepS.read [] (by kernel_rfl) (Seq3.pass (by decide) (by decide) (by decide)) (by rfl) (fun L9 m9 w9 hSh hAt hDn hS => ?_)
    have hT : Below w2.heap.size w2 w9 := Seq3.early1 (T := fun w9 => Below w2.heap.size w2 w9) (fun _ _ h => h) (fun _ _ h => h.1) (reach_no hSh (f := 11) (j := 8) (by kernel_rfl) hDn) (reach_no hSh (f := 11) (j := 10) (by kernel_rfl) hDn) hS
    have n0 : w9.cell? ⟨b, 0, none⟩ = some (.int .u64 (sent + 1)) := (HN2.out.ca hT).cell 0
    go_simp
    try rfl
  try simp only [Act.put, List.setIfInBounds_toArray, List.set_cons_zero, List.set_cons_succ]
  refine Ps.step (i := 4) (d := some 29) (u := ?uwq_5) rfl rfl (by kernel_rfl) (by kernel_rfl) (by kernel_rfl) (by kernel_rfl) ?ywq_5 ?rwq_5
  case ywq_5 =>
    refine StepS.pure (Seq3.pass (by decide) (by decide) (by decide)) (by rfl) (fun w9 => ?_)
    go_simp
    try rfl
  try simp only [Act.put, List.setIfInBounds_toArray, List.set_cons_zero, List.set_cons_succ]
  refine Ps.step (i := 5) (d := some 30) (u := ?uwq_6) rfl rfl (by kernel_rfl) (by kernel_rfl) (by kernel_rfl) (by kernel_rfl) ?ywq_6 ?rwq_6
  case ywq_6 =>
    refine StepS.read [] (by kernel_rfl) (Seq3.pass (by decide) (by decide) (by decide)) (by rfl) (fun L9 m9 w9 hSh hAt hDn hS => ?_)
    have hT : Below w2.heap.size w2 w9 := Seq3.early1 (T := fun w9 => Below w2.heap.size w2 w9) (fun _ _ h => h) (fun _ _ h => h.1) (reach_no hSh (f := 11) (j := 8) (by kernel_rfl) hDn) (reach_no hSh (f := 11) (j := 10) (by kernel_rfl) hDn) hS
    have x3 : w9.cell? ⟨w.heap.size, 3, none⟩ = some (.slice pA pn pc) := (HX2.out.ca hT).cell 3
    go_simp
    try rfl
  try simp only [Act.put, List.setIfInBounds_toArray, List.set_cons_zero, List.set_cons_succ]
  refine Ps.step (i := 7) (d := some 32) (u := ?uwq_7) rfl rfl (by kernel_rfl) (by kernel_rfl) (by kernel_rfl) (by kernel_rfl) ?ywq_7 ?rwq_7
  case ywq_7 =>
    refine StepS.pure (Seq3.pass (by decide) (by decide) (by decide)) (by rfl) (fun w9 => ?_)
    go_simp
    try rfl
  try simp only [Act.put, List.setIfInBounds_toArray, List.set_cons_zero, List.set_cons_succ]
  refine Ps.one (k := 6) (d := some 31) rfl rfl (by kernel_rfl) (TurnS.call (V := fun _ => True) ?fwq_8 ?awq_8 [] (by kernel_rfl) (by rfl) (fun w9 => ?hwq_8) (fun L9 m9 w9 hSh hAt hDn hS => ?cwq_8)) (fun v6 hVv6 => ?rwq_8)
  case hwq_8 => go_simp; refine ⟨?_, ?_⟩ <;> rfl
  case cwq_8 =>
    have hT : Below w2.heap.size w2 w9 := Seq3.at1 hDn (reach_no hSh (f := 11) (j := 8) (by kernel_rfl) hDn) (reach_no hSh (f := 11) (j := 10) (by kernel_rfl) hDn) hS
    exact (bclone_any pA pn pc p.bs w9 (HP2.out w9 hT) (by omega)).mono fun _ _ ⟨A4, c4, h1, h2, h3⟩ => ⟨_, h1, trivial, Seq3.set1 (by decide) (by decide) (reach_no hSh (f := 11) (j := 8) (by kernel_rfl) hDn) (reach_no hSh (f := 11) (j := 10) (by kernel_rfl) hDn) ⟨bl_ca hT h3, A4, c4, upd_same _ _ _, OwnB.less h2 hT.size⟩⟩
  try simp only [Act.put, List.setIfInBounds_toArray, List.set_cons_zero, List.set_cons_succ]
  clear hVv6
  refine Ps.step (i := 8) (d := none) (u := undef) rfl rfl (by kernel_rfl) (by kernel_rfl) (by kernel_rfl) (by kernel_rfl) ?ywq_9 ?rwq_9
  case ywq_9 =>
    refine StepS.store [6] (by kernel_rfl) (by rfl) (fun L9 m9 w9 hSh hAt hDn hS => ?_)
    obtain ⟨hT, hv⟩ := Seq3.at2 (hAt 6 (by simp)).1 hDn (reach_no hSh (f := 11) (j := 10) (by kernel_rfl) hDn) hS
    have x0 : w9.cell? ⟨w.heap.size, 0, none⟩ = some (.int .u64 p.num) := (HX2.out.ca hT).cell 0
    have fx : w9.frozen? ⟨w.heap.size, 0, none⟩ = false := (HX2.out.ca hT).frozen 0
    refine ⟨w9.setCell ⟨w.heap.size, 0, none⟩ (.int .u64 (sent + 1)), ?_, Seq3.set2 (by decide) (by decide) (reach_no hSh (f := 11) (j := 10) (by kernel_rfl) hDn) ⟨w9, hT, hv, rfl⟩⟩
    clear hv
    go_simp
  try simp only [Act.put]
  refine Ps.step (i := 9) (d := some 33) (u := ?uwq_10) rfl rfl (by kernel_rfl) (by kernel_rfl) (by kernel_rfl) (by kernel_rfl) ?ywq_10 ?rwq_10
  case ywq_10 =>
    refine StepS.pure (Seq3.pass (by decide) (by decide) (by decide)) (by rfl) (fun w9 => ?_)
    go_simp
    try rfl
  try simp only [Act.put, List.setIfInBounds_toArray, List.set_cons_zero, List.set_cons_succ]
  refine Ps.step (i := 10) (d := none) (u := undef) rfl rfl (by kernel_rfl) (by kernel_rfl) (by kernel_rfl) (by kernel_rfl) ?ywq_11 ?rwq_11
  case ywq_11 =>
    refine StepS.store [6, 8] (by kernel_rfl) (by rfl) (fun L9 m9 w9 hSh hAt hDn hS => ?_)
    obtain ⟨w5, hT, ⟨A4, c4, hv, ho⟩, rfl⟩ := Seq3.at3 (hAt 8 (by simp)).1 hDn hS
    have hv' : v6 = .slice A4 pn c4 := (hAt 6 (by simp)).2.symm.trans hv
    subst hv'
    have hX5 := (HX2.out.ca hT).set_ 0 (.int .u64 (sent + 1))
    have x3 : (w5.setCell ⟨w.heap.size, 0, none⟩ (.int .u64 (sent + 1))).cell? ⟨w.heap.size, 3, none⟩ = some (.slice pA pn pc) := hX5.cell 3
    have fx : (w5.setCell ⟨w.heap.size, 0, none⟩ (.int .u64 (sent + 1))).frozen? ⟨w.heap.size, 3, none⟩ = false := hX5.frozen 3
    refine ⟨_, ?_, Seq3.set3 (by decide) (by decide) ⟨w5, A4, c4, hT, hv, ho, rfl⟩⟩
    clear hv hX5
    go_simp
  try simp only [Act.put]
  refine Ps.done (by kernel_rfl) (fun wq hS => ?_) _
  have hF := Seq3.fin (by rfl) hS
  clear hS
  obtain ⟨w5, A4, c4, hT, hv, ho, rfl⟩ := hF
  have hv' : v6 = .slice A4 pn c4 := hv
  subst hv'
  clear hv
  have hX6 : Blk ((w5.setCell ⟨w.heap.size, 0, none⟩ (.int .u64 (sent + 1))).setCell ⟨w.heap.size, 3, none⟩ (.slice A4 pn c4)) w.heap.size 29 #[.int .u64 (sent + 1), .int .i64 p.frm, .int .i64 p.to, .slice A4 pn c4, .bool p.sp] := by simpa using ((HX2.out.ca hT).set_ 0 (.int .u64 (sent + 1))).set_ 3 (.slice A4 pn c4)
  have hg6 : w5.grownBy ((w5.setCell ⟨w.heap.size, 0, none⟩ (.int .u64 (sent + 1))).setCell ⟨w.heap.size, 3, none⟩ (.slice A4 pn c4)) (some w.heap.size) := only_setCell (p := ⟨w.heap.size, 3, none⟩) (only_setCell (p := ⟨w.heap.size, 0, none⟩) (World.grownBy.refl _ _) (.inl rfl) _) (.inl rfl) _
  have HN6 := Lib.hid ((HN2.out.ca hT).apart hg6 (by omega))
  have HO6 := Lib.hid (ho.kept hg6 (fun e => by have := (ho.base_ _ e).1; omega))
  have HD6 := Lib.hid (show DO _ B A m c es from ⟨(HD2.out.row.below hT).kept hg6 (fun e => by have := HRB.out _ e; omega), fun x hx => (((HD2.out.own x hx).below hT).kept hg6 (own_blk_ne (HD2.out.own x hx) HX2.out (by decide))), HD2.out.apart⟩)
  have HK6 := Lib.hid ((HK2.out.trans (Kept.of_below (b := b) hT (by omega))).trans (Kept.of_grown (b := b) hg6 (Nat.le_trans (by omega) hT.size) (.inr (Nat.le_refl _))))
  have hs6 : w2.heap.size ≤ ((w5.setCell ⟨w.heap.size, 0, none⟩ (.int .u64 (sent + 1))).setCell ⟨w.heap.size, 3, none⟩ (.slice A4 pn c4)).heap.size := Nat.le_trans hT.size hg6.size
  clear hT ho hg6 HN2 HX2 HK2 HP2
  generalize (w5.setCell ⟨w.heap.size, 0, none⟩ (.int .u64 (sent + 1))).setCell ⟨w.heap.size, 3, none⟩ (.slice A4 pn c4) = w6 at *
  have HX6 := Lib.hid hX6
  clear hX6
  go_wp2_with fail
  refine wp_region_ps (S := Seq3 6 7 10 (fun _ w' => Below w6.heap.size w6 w') (fun mm w' => Below w6.heap.size w6 w' ∧ ∃ g, mm 6 = .slice (some ⟨g, 0, none⟩) 1 1 ∧ w6.heap.size ≤ g ∧ Blk w' g 29 #[.int .u64 (sent + 1), .int .i64 p.frm, .int .i64 p.to, .slice A4 pn c4, .bool p.sp]) (fun mm w' => ∃ A8 c8, mm 7 = .slice A8 (m + 1) c8 ∧ Ro w' B A8 (m + 1) c8 (es ++ [⟨added sent p, A4, pn, c4⟩]) ∧ (w6.heap.size ≤ w'.heap.size ∧ (w'.os = w6.os ∧ w'.tape = w6.tape ∧ w'.output = w6.output) ∧ ∀ k, k < w6.heap.size → (Value.slice A m c).ownBlock ≠ some k → w'.heap[k]? = w6.heap[k]?)) (fun mm w' => ∃ w8 A8 c8, mm 7 = .slice A8 (m + 1) c8 ∧ Ro w8 B A8 (m + 1) c8 (es ++ [⟨added sent p, A4, pn, c4⟩]) ∧ (w6.heap.size ≤ w8.heap.size ∧ (w8.os = w6.os ∧ w8.tape = w6.tape ∧ w8.output = w6.output) ∧ ∀ k, k < w6.heap.size → (Value.slice A m c).ownBlock ≠ some k → w8.heap[k]? = w6.heap[k]?) ∧ w' = w8.setCell ⟨b, 1, none⟩ (.slice A8 (m + 1) c8))) (by kernel_rfl) ?spswr ?ppswr
  case spswr =>
    exact Seq3.start (by decide) (by decide) (by decide) (Below.refl _ _).drew
  refine Ps.step (i := 0) (d := some 34) (u := ?uwr_12) rfl rfl (by kernel_rfl) (by kernel_rfl) (by kernel_rfl) (by kernel_rfl) ?ywr_12 ?rwr_12
  case ywr_12 =>
    refine StepS.pure (Seq3.pass (by decide) (by decide) (by decide)) (by rfl) (fun w9 => ?_)
    go_simp
    try rfl
  try simp only [Act.put, List.setIfInBounds_toArray, List.set_cons_zero, List.set_cons_succ]
  refine Ps.step (i := 1) (d := some 35) (u := ?uwr_13) rfl rfl (by kernel_rfl) (by kernel_rfl) (by kernel_rfl) (by kernel_rfl) ?ywr_13 ?rwr_13
  case ywr_13 =>
    refine StepS.pure (Seq3.pass (by decide) (by decide) (by decide)) (by rfl) (fun w9 => ?_)
    go_simp
    try rfl
  try simp only [Act.put, List.setIfInBounds_toArray, List.set_cons_zero, List.set_cons_succ]
  refine Ps.step (i := 2) (d := some 36) (u := ?uwr_14) rfl rfl (by kernel_rfl) (by kernel_rfl) (by kernel_rfl) (by kernel_rfl) ?ywr_14 ?rwr_14
  case ywr_14 =>
    refine StepS.pure (Seq3.pass (by decide) (by decide) (by decide)) (by rfl) (fun w9 => ?_)
    go_simp
    try rfl
  try simp only [Act.put, List.setIfInBounds_toArray, List.set_cons_zero, List.set_cons_succ]
  refine Ps.step (i := 3) (d := some 37) (u := ?uwr_15) rfl rfl (by kernel_rfl) (by kernel_rfl) (by kernel_rfl) (by kernel_rfl) ?ywr_15 ?rwr_15
  case ywr_15 =>
    refine StepS.pure (Seq3.pass (by decide) (by decide) (by decide)) (by rfl) (fun w9 => ?_)
    go_simp
    try rfl
  try simp only [Act.put, List.setIfInBounds_toArray, List.set_cons_zero, List.set_cons_succ]
  refine Ps.step (i := 4) (d := some 38) (u := ?uwr_16) rfl rfl (by kernel_rfl) (by kernel_rfl) (by kernel_rfl) (by kernel_rfl) ?ywr_16 ?rwr_16
  case ywr_16 =>
    refine StepS.read [] (by kernel_rfl) (Seq3.pass (by decide) (by decide) (by decide)) (by rfl) (fun L9 m9 w9 hSh hAt hDn hS => ?_)
    have hT : Below w6.heap.size w6 w9 := Seq3.early1 (T := fun w9 => Below w6.heap.size w6 w9) (fun _ _ h => h) (fun _ _ h => h.1) (reach_no hSh (f := 11) (j := 7) (by kernel_rfl) hDn) (reach_no hSh (f := 11) (j := 10) (by kernel_rfl) hDn) hS
    have n1 : w9.cell? ⟨b, 1, none⟩ = some (.slice A m c) := (HN6.out.ca hT).cell 1
    go_simp
    try rfl
  try simp only [Act.put, List.setIfInBounds_toArray, List.set_cons_zero, List.set_cons_succ]
  refine Ps.step (i := 5) (d := some 39) (u := ?uwr_17) rfl rfl (by kernel_rfl) (by kernel_rfl) (by kernel_rfl) (by kernel_rfl) ?ywr_17 ?rwr_17
  case ywr_17 =>
    refine StepS.read [] (by kernel_rfl) (Seq3.pass (by decide) (by decide) (by decide)) (by rfl) (fun L9 m9 w9 hSh hAt hDn hS => ?_)
    have hT : Below w6.heap.size w6 w9 := Seq3.early1 (T := fun w9 => Below w6.heap.size w6 w9) (fun _ _ h => h) (fun _ _ h => h.1) (reach_no hSh (f := 11) (j := 7) (by kernel_rfl) hDn) (reach_no hSh (f := 11) (j := 10) (by kernel_rfl) hDn) hS
    have x0 : w9.cell? ⟨w.heap.size, 0, none⟩ = some (.int .u64 (sent + 1)) := (HX6.out.ca hT).cell 0
    have x1 : w9.cell? ⟨w.heap.size, 1, none⟩ = some (.int .i64 p.frm) := (HX6.out.ca hT).cell 1
    have x2 : w9.cell? ⟨w.heap.size, 2, none⟩ = some (.int .i64 p.to) := (HX6.out.ca hT).cell 2
    have x3 : w9.cell? ⟨w.heap.size, 3, none⟩ = some (.slice A4 pn c4) := (HX6.out.ca hT).cell 3
    have x4 : w9.cell? ⟨w.heap.size, 4, none⟩ = some (.bool p.sp) := (HX6.out.ca hT).cell 4
    go_simp
    try rfl
  try simp only [Act.put, List.setIfInBounds_toArray, List.set_cons_zero, List.set_cons_succ]
  refine Ps.one (k := 6) (d := some 40) rfl rfl (by kernel_rfl) (TurnS.value (V := fun _ => True) [] (by kernel_rfl) (by rfl) (fun L9 m9 w9 hSh hAt hDn hS => ?cwr_18)) (fun v6 hVv6 => ?rwr_18)
  case cwr_18 =>
    have hT : Below w6.heap.size w6 w9 := Seq3.at1 hDn (reach_no hSh (f := 11) (j := 7) (by kernel_rfl) hDn) (reach_no hSh (f := 11) (j := 10) (by kernel_rfl) hDn) hS
    refine ⟨.slice (some ⟨w9.heap.size, 0, none⟩) 1 1, w9.alloc (.cells #[.int .u64 (sent + 1), .int .i64 p.frm, .int .i64 p.to, .slice A4 pn c4, .bool p.sp] 29), ?_, trivial, Seq3.set1 (by decide) (by decide) (reach_no hSh (f := 11) (j := 7) (by kernel_rfl) hDn) (reach_no hSh (f := 11) (j := 10) (by kernel_rfl) hDn) ⟨bl_al hT _, _, upd_same _ _ _, hT.size, Blk.new _ _ _⟩⟩
    go_simp
  try simp only [Act.put, List.setIfInBounds_toArray, List.set_cons_zero, List.set_cons_succ]
  clear hVv6
  refine Ps.one (k := 7) (d := some 41) rfl rfl (by kernel_rfl) (TurnS.value (V := fun _ => True) [6] (by kernel_rfl) (by rfl) (fun L9 m9 w9 hSh hAt hDn hS => ?cwr_19)) (fun v7 hVv7 => ?rwr_19)
  case cwr_19 =>
    obtain ⟨hT, g, hv, hg1, hg2⟩ := Seq3.at2 (hAt 6 (by simp)).1 hDn (reach_no hSh (f := 11) (j := 10) (by kernel_rfl) hDn) hS
    have hv' : v6 = .slice (some ⟨g, 0, none⟩) 1 1 := (hAt 6 (by simp)).2.symm.trans hv
    subst hv'
    obtain ⟨i0, hi0, hz0, hz1, hz2⟩ := info_parts Try.parcelInfo
    obtain ⟨g8, c8, w8, hrun, hown, hgr, _, _⟩ := run_append_lies (P := Try.prog) (w := w9) 24 24 B 29 i0 _ 5 56 Try.underlying24 hi0 hz0 hz1 hz2 rfl (by omega) (.slice A m c) m (ecells es) (HD6.out.row.below hT) ⟨g, 0, none⟩ 1 1 (El.cells ⟨added sent p, A4, pn, c4⟩) rfl (fun j u hu => by rw [addr0, hg2.cell j, ← Array.getElem?_toList, ← hu]; rfl) (fun u hu => by simp [El.cells] at hu; rcases hu with rfl | rfl | rfl | rfl | rfl <;> rfl) (by omega) (by simp only [maxLen]; omega) (by omega) (Nat.le_trans (Nat.le_trans hB2 hs6) hT.size) w9.heap.size rfl
    refine ⟨.slice (some ⟨g8, 0, none⟩) (m + 1) c8, w8, ?_, trivial, Seq3.set2 (by decide) (by decide) (reach_no hSh (f := 11) (j := 10) (by kernel_rfl) hDn) ⟨some ⟨g8, 0, none⟩, c8, upd_same _ _ _, ?_, Nat.le_trans hT.size hgr.size, ⟨hgr.os.trans hT.os, hgr.tape.trans hT.tape, hgr.output.trans hT.output⟩, fun k hk hne => (hgr.block k (Nat.lt_of_lt_of_le hk hT.size) (fun e => hne e.symm)).trans (hT.block k hk)⟩⟩
    · exact exec_append (.tmp 38) (.tmp 40) 24 rfl rfl rfl hrun
    · unfold Ro; rw [ecells_append]; exact hown
  try simp only [Act.put, List.setIfInBounds_toArray, List.set_cons_zero, List.set_cons_succ]
  clear hVv7
  refine Ps.step (i := 8) (d := some 42) (u := ?uwr_20) rfl rfl (by kernel_rfl) (by kernel_rfl) (by kernel_rfl) (by kernel_rfl) ?ywr_20 ?rwr_20
  case ywr_20 =>
    refine StepS.pure (Seq3.pass (by decide) (by decide) (by decide)) (by rfl) (fun w9 => ?_)
    go_simp
    try rfl
  try simp only [Act.put, List.setIfInBounds_toArray, List.set_cons_zero, List.set_cons_succ]
  refine Ps.step (i := 9) (d := some 43) (u := ?uwr_21) rfl rfl (by kernel_rfl) (by kernel_rfl) (by kernel_rfl) (by kernel_rfl) ?ywr_21 ?rwr_21
  case ywr_21 =>
    refine StepS.pure (Seq3.pass (by decide) (by decide) (by decide)) (by rfl) (fun w9 => ?_)
    go_simp
    try rfl
  try simp only [Act.put, List.setIfInBounds_toArray, List.set_cons_zero, List.set_cons_succ]
  refine Ps.step (i := 10) (d := none) (u := undef) rfl rfl (by kernel_rfl) (by kernel_rfl) (by kernel_rfl) (by kernel_rfl) ?ywr_22 ?rwr_22
  case ywr_22 =>
    refine StepS.store [6, 7] (by kernel_rfl) (by rfl) (fun L9 m9 w9 hSh hAt hDn hS => ?_)
    obtain ⟨A8, c8, hv, hro, hR⟩ := Seq3.at3 (hAt 7 (by simp)).1 hDn hS
    have hv' : v7 = .slice A8 (m + 1) c8 := (hAt 7 (by simp)).2.symm.trans hv
    subst hv'
    have hN9 : Blk w9 b 26 #[.int .u64 (sent + 1), .slice A m c] := (hR.2.2 b HN6.out.lt (own_ne_blk3 HD6.out.row HN6.out)).trans HN6.out
    have x1 : w9.cell? ⟨b, 1, none⟩ = some (.slice A m c) := hN9.cell 1
    have fx : w9.frozen? ⟨b, 1, none⟩ = false := hN9.frozen 1
    refine ⟨w9.setCell ⟨b, 1, none⟩ (.slice A8 (m + 1) c8), ?_, Seq3.set3 (by decide) (by decide) ⟨w9, A8, c8, hv, hro, hR, rfl⟩⟩
    clear hv hro hR hN9 hS
    go_simp
  try simp only [Act.put]
  refine Ps.done (by kernel_rfl) (fun wr hS => ?_) _
  have hF := Seq3.fin (by rfl) hS
  clear hS
  obtain ⟨w8, A8, c8, hv, hro, hR, rfl⟩ := hF
  have hv' : v7 = .slice A8 (m + 1) c8 := hv
  subst hv'
  clear hv
  have hg8 : w8.grownBy (w8.setCell ⟨b, 1, none⟩ (.slice A8 (m + 1) c8)) (some b) := only_setCell (World.grownBy.refl _ _) (.inl rfl) _
  have hN8 : Blk w8 b 26 #[.int .u64 (sent + 1), .slice A m c] := (hR.2.2 b HN6.out.lt (own_ne_blk3 HD6.out.row HN6.out)).trans HN6.out
  have HN8 := Lib.hid (show Blk (w8.setCell ⟨b, 1, none⟩ (.slice A8 (m + 1) c8)) b 26 #[.int .u64 (sent + 1), .slice A8 (m + 1) c8] from by simpa using hN8.set_ 1 (.slice A8 (m + 1) c8))
  have HD8 := Lib.hid (DO.push (e2 := ⟨added sent p, A4, pn, c4⟩) HD2.out HD6.out HO6.out hB2 hro hR.2.2 hg8 hb)
  have HK8 := Lib.hid (show Kept w (w8.setCell ⟨b, 1, none⟩ (.slice A8 (m + 1) c8)) b B from ((HK6.out.less hB).trans ⟨hR.2.1.1, hR.2.1.2.1, hR.2.1.2.2, hR.1, fun k hk _ => hR.2.2 k (by omega) (fun e => by have := (own_base' HD6.out.row k e).1; omega)⟩).trans (Kept.of_grown (b := b) hg8 (Nat.le_trans (Nat.le_trans hB2 hs6) hR.1) (.inl rfl)))
  clear hro hR hg8 hN8
  go_wp2
  go_ret
  exact ⟨rfl, HK8.out, A8, c8, ⟨added sent p, A4, pn, c4⟩, HN8.out, HD8.out, rfl⟩
end Go.Proofs.Ytnbcffnhgijmcaa
/- net.Send. Conditions: the slices read as these parcels and bytes. -/
namespace Go.Proofs.Ytnbcffnhgijmcaa
open Go.RowKit
theorem res3 {P : Program} {fn : Func} {p q r : Tmp} {ty : TypeId} (h : fn.results = #[.cell p ty, .tmp q, .tmp r]) {tmps : Array Value} {w : World} {g : Nat} {t : TypeId} {cs : Array Value} {d : TypeDesc} {v u : Value}
    (hp : tmps.getD p undef = .pointer (some ⟨g, 0, none⟩)) (hq : tmps.getD q undef = v) (hr : tmps.getD r undef = u) (hg : Blk w g t cs) (hu : P.underlying ty = some d) (hd : (match d with | .struct _ | .array _ _ => true | _ => false) = true) (hi : (P.info? ty).map (·.size) = some cs.size) :
    (results fn tmps).run P w = .ok (.tuple #[.agg cs, v, u]) w := by
  have hp' : tmps[p]?.getD undef = .pointer (some ⟨g, 0, none⟩) := by simpa using hp
  have hq' : tmps[q]?.getD undef = v := by simpa using hq
  have hr' : tmps[r]?.getD undef = u := by simpa using hr
  simp [results, h, hp', hq', hr', asAddr, run_loadVar_row w g t ty cs (0, 0) d hg hu hd hi]
def newP (f t : Int) (bs : List UInt8) : PC := ⟨0, f, t, bs, false⟩
def fullB (sent : Int) (ps : List PC) : Bool := decide (20000 ≤ ps.length) || decide (sent = 1099511627776)
/-- what comes of a parcel more -/
def addE (sent : Int) (ps : List PC) : Int := if fullB sent ps then 6 else 0
def sendE (sent : Int) (ps : List PC) (f t : Int) (bs : List UInt8) : Int := if chkB sent ps then (if pairB f t then (if 60000 < bs.length then 3 else addE sent ps) else 2) else 340
theorem chk_rng {sent : Int} {ps : List PC} (h : chkB sent ps = true) : sent ≤ 1099511627776 ∧ ps.length ≤ 20000 := by
  unfold chkB at h
  simp only [Bool.and_eq_true, decide_eq_true_eq] at h
  omega
set_option maxRecDepth 100000 in
set_option maxHeartbeats 4000000 in
theorem send1_doc (sent : Int) (m : Nat) (ps : List PC) (f t : Int) (bA : Option Addr) (bn bc : Nat) (bs : List UInt8) (W0 W : World) (g1 g2 g3 : Nat) (hs0 : 0 ≤ sent) (hchk : chkB sent ps = true) (hm : ps.length = m) (h0 : Below W0.heap.size W0 W) (h0b : W0.heap.size ≤ W.heap.size)
    (h1 : Blk W g1 3 #[.int .i64 f]) (h2 : Blk W g2 3 #[.int .i64 t]) (h3 : Blk W g3 27 #[.slice bA bn bc]) (hb : RdB W bA bn bs) :
    DoC 42 #[.pointer (some ⟨g1, 0, none⟩), .pointer (some ⟨g2, 0, none⟩), .pointer (some ⟨g3, 0, none⟩)] W W.heap.size (W.heap.size + 2) sent m ps
      (fun er w' => er = (if pairB f t then (if 60000 < bs.length then 3 else addE sent ps) else 2) ∧ Below W0.heap.size W0 w') (fun _ s l => s = sent + 1 ∧ l.map El.p = ps ++ [added sent (newP f t bs)]) := by
  intro w A c es hbel hbB hB hN hD hes
  have k1 := (h1.below hbel h1.lt).cell 0
  have k2 := (h2.below hbel h2.lt).cell 0
  have k3 := (h3.below hbel h3.lt).cell 0
  have e1 : w.cell? ⟨g1, 0, none⟩ = some (.int .i64 f) := k1
  have e2 : w.cell? ⟨g2, 0, none⟩ = some (.int .i64 t) := k2
  have e3 : w.cell? ⟨g3, 0, none⟩ = some (.slice bA bn bc) := k3
  have hrb : ∀ w', Kept w w' W.heap.size w.heap.size → RdB w' bA bn bs := fun w' hk => hb.below ⟨hk.os.trans hbel.os, hk.tape.trans hbel.tape, hk.output.trans hbel.output, Nat.le_trans hbel.size hk.size, fun b hb' => (hk.block b (Nat.lt_of_lt_of_le hb' hbel.size) (by omega)).trans (hbel.block b hb')⟩
  have HRB := Lib.hid hrb
  have hbl : bs.length = bn := hb.len
  have hw0 : Below W0.heap.size W0 w := h0.trans (hbel.mono h0b)
  obtain ⟨hr1, hr2⟩ := chk_rng hchk
  have HN := Lib.hid hN
  have HD := Lib.hid hD
  have HES := Lib.hid hes
  clear k1 k2 k3 h1 h2 h3 hb hrb hchk hN hD hes
  rw [show (#[Value.pointer (some ⟨W.heap.size, 0, none⟩)] ++ #[.pointer (some ⟨g1, 0, none⟩), .pointer (some ⟨g2, 0, none⟩), .pointer (some ⟨g3, 0, none⟩)] : Array Value) = #[.pointer (some ⟨W.heap.size, 0, none⟩), .pointer (some ⟨g1, 0, none⟩), .pointer (some ⟨g2, 0, none⟩), .pointer (some ⟨g3, 0, none⟩)] from rfl]
  have HP := Lib.hid (fun w => pair_any f t w)
  obtain ⟨pb, hpb⟩ : ∃ pb, pb = pairB f t := ⟨_, rfl⟩
  rw [← hpb] at HP ⊢
  clear hpb
  cases pb
  · go_enter Try.func42, Try.ntmps42
    go_wp2_with fail
    refine (HP.out _).mono ?_
    rintro e w2 ⟨rfl, rfl⟩
    go_wp2
    go_ret
    exact ⟨2, rfl, ⟨rfl, hw0⟩, Nat.le_refl _, fun _ _ _ => rfl, fun h => by cases h⟩
  · by_cases hl : 60000 < bn
    · have hl1 : (60000 : Int) < (bn : Int) := by omega
      rw [show (if (true = true) then (if 60000 < bs.length then (3 : Int) else addE sent ps) else 2) = 3 from by rw [if_pos rfl, if_pos (by omega)]]
      go_enter Try.func42, Try.ntmps42
      go_wp2_with fail
      refine (HP.out _).mono ?_
      rintro e w2 ⟨rfl, rfl⟩
      go_wp2
      go_ret
      exact ⟨3, rfl, ⟨rfl, hw0⟩, Nat.le_refl _, fun _ _ _ => rfl, fun h => by cases h⟩
    · have hl1 : (bn : Int) ≤ 60000 := by omega
      rw [show (if (true = true) then (if 60000 < bs.length then (3 : Int) else addE sent ps) else 2) = addE sent ps from by rw [if_pos rfl, if_neg (by omega)]]
      cases hf : fullB sent ps
      · have hfull : m < 20000 ∧ sent < 1099511627776 := by
          unfold fullB at hf
          simp only [Bool.or_eq_false_iff, decide_eq_false_iff_not] at hf
          omega
        have HA := Lib.hid (adds_any sent A m c W.heap.size (W.heap.size + 2) es (newP f t bs) bA bn bc w HN.out HD.out (by omega) hB HRB.out (by omega) hfull.1 hs0 hfull.2)
        rw [show addE sent ps = 0 from by unfold addE; rw [hf]; rfl]
        unfold newP at HA
        clear hfull hf
        go_enter Try.func42, Try.ntmps42
        go_wp2_with fail
        refine (HP.out _).mono ?_
        rintro e w2 ⟨rfl, rfl⟩
        go_wp2_with fail
        refine HA.out.mono ?_
        rintro e w2 ⟨rfl, hk, A2, c2, e2, hN2, hD2, he2⟩
        have hw2 := hk.below hw0 h0b (by omega)
        have hs2 := hk.size
        have hbl2 : ∀ k, W.heap.size < k → k < W.heap.size + 2 → w2.heap[k]? = w.heap[k]? := fun k h1 h2 => hk.block k (by omega) (by omega)
        go_wp2
        go_ret
        exact ⟨0, rfl, ⟨rfl, hw2⟩, hs2, hbl2, fun _ => ⟨_, A2, _, c2, _, hN2, hD2, rfl, by rw [List.map_append, HES.out, List.map_cons, List.map_nil, he2]; rfl⟩⟩
      · have hfull : 20000 ≤ m ∨ sent = 1099511627776 := by
          unfold fullB at hf
          simp only [Bool.or_eq_true, decide_eq_true_eq] at hf
          omega
        have HA := Lib.hid (adds_full sent A m c W.heap.size (newP f t bs) bA bn bc w HN.out hfull)
        rw [show addE sent ps = 6 from by unfold addE; rw [hf]; rfl]
        unfold newP at HA
        clear hfull hf
        go_enter Try.func42, Try.ntmps42
        go_wp2_with fail
        refine (HP.out _).mono ?_
        rintro e w2 ⟨rfl, rfl⟩
        go_wp2_with fail
        refine HA.out.mono ?_
        rintro e w2 ⟨rfl, hk⟩
        have hw2 := bl_ca hw0 hk
        have hs2 := hk.size
        have hbl2 : ∀ k, W.heap.size < k → k < W.heap.size + 2 → w2.heap[k]? = w.heap[k]? := fun k h1 h2 => hk.block k (by omega)
        go_wp2
        go_ret
        exact ⟨6, rfl, ⟨rfl, hw2⟩, hs2, hbl2, fun h => by cases h⟩
set_option maxRecDepth 100000 in
set_option maxHeartbeats 4000000 in
theorem with_no (F : Nat → Prop) (sent : Int) (A : Option Addr) (m c : Nat) (ps : List PC) (f : Value) (w : World) (h : LP.rd w F A m ps) (hm : m ≤ 9223372036854775807) (hok : chkB sent ps = false) :
    Calls Try.prog 41 #[.agg #[.int .u64 sent, .slice A m c], f] w fun e w' => e = .returned (.tuple #[.agg #[.int .u64 0, .slice none 0 0], .int .i64 340]) ∧ Below w.heap.size w w' := by
  have HC := Lib.hid (fun W (h : LP.rd W F A m ps) => by have := check_any F sent A m c ps W h hm; rw [hok, show errN false = 340 from rfl] at this; exact this)
  have b1 := bl_al (bl_al (Below.refl w.heap.size w) (.cells #[.int .u64 sent, .slice A m c] 26)) (.cells #[.int .u64 0, .slice none 0 0] 26)
  have hR : Blk _ (w.heap.size + 1) _ _ := Blk.mk' (w := w.alloc (.cells #[.int .u64 sent, .slice A m c] 26)) (t := 26) (cs := #[.int .u64 0, .slice none 0 0]) (by simp only [World.size_alloc])
  have h1 := Lib.hid (Lay.rd_below h b1)
  clear hok h
  go_enter Try.func41, Try.ntmps41
  go_wp2_with fail
  generalize (w.alloc (.cells #[.int .u64 sent, .slice A m c] 26)).alloc (.cells #[.int .u64 0, .slice none 0 0] 26) = w1 at *
  refine (HC.out _ h1.out).mono ?_
  rintro e w2 ⟨rfl, q2⟩
  replace b1 := bl_ca b1 q2
  have KR := Lib.hid (hR.ca q2)
  clear q2 h1 HC hR
  go_wp2_with (refine wpList_store_blk rfl 26 (.tmp 4) (.tmp 13) rfl (w.heap.size + 1) 26 _ _ rfl rfl KR.out rfl netI (by simp [Value.oneCell']) ?_; intro wz hZ gz)
  exact bodyPost_ret (res2 Try.results41 rfl rfl hZ Try.underlying26 rfl netI) rfl ⟨rfl, bl_gr b1 gz (by omega)⟩
end Go.Proofs.Ytnbcffnhgijmcaa
/- net.Send, whole. Conditions: the slices read as these parcels and bytes. -/
namespace Go.Proofs.Ytnbcffnhgijmcaa
open Go.RowKit
/-- a net that a call hands back: all of it in memory of its own, from B on -/
def OutN (w : World) (B : Nat) (A : Option Addr) (m c : Nat) (ps : List PC) : Prop := ∃ es, DO w B A m c es ∧ es.map El.p = ps
theorem OutN.nil (w : World) (B : Nat) : OutN w B none 0 0 [] := ⟨[], DO.nil w B, rfl⟩
theorem OutN.below {w w' : World} {B : Nat} {A : Option Addr} {m c : Nat} {ps : List PC} (h : OutN w B A m c ps) (q : Below w.heap.size w w') : OutN w' B A m c ps := by
  obtain ⟨es, h1, h2⟩ := h
  exact ⟨es, h1.below q, h2⟩
theorem OutN.kept {w w' : World} {B r : Nat} {A : Option Addr} {m c : Nat} {ps : List PC} (h : OutN w B A m c ps) (hg : w.grownBy w' (some r)) (hr : r < B) : OutN w' B A m c ps := by
  obtain ⟨es, h1, h2⟩ := h
  exact ⟨es, h1.kept hg hr, h2⟩
theorem DO.less {w : World} {B B' : Nat} {A : Option Addr} {n c : Nat} {es : List El} (h : DO w B A n c es) (hB : B' ≤ B) : DO w B' A n c es := ⟨ro_less h.row hB, fun e he => OwnB.less (h.own e he) hB, h.apart⟩
theorem OutN.less {w : World} {B B' : Nat} {A : Option Addr} {m c : Nat} {ps : List PC} (h : OutN w B A m c ps) (hB : B' ≤ B) : OutN w B' A m c ps := by
  obtain ⟨es, h1, h2⟩ := h
  exact ⟨es, h1.less hB, h2⟩
def sendR (sent : Int) (ps : List PC) (f t : Int) (bs : List UInt8) : Int × List PC := if sendE sent ps f t bs = 0 then (sent + 1, ps ++ [added sent (newP f t bs)]) else (0, [])
/-- what net.with answers: er, and a net -/
def WithR (w : World) (er s : Int) (ps : List PC) (e : Ending) (w' : World) : Prop := ∃ A m c, e = .returned (.tuple #[.agg #[.int .u64 s, .slice A m c], .int .i64 er]) ∧ OutN w' (w.heap.size + 2) A m c ps ∧ w.heap.size ≤ w'.heap.size
set_option maxRecDepth 100000 in
set_option maxHeartbeats 4000000 in
theorem send_with (sent : Int) (A : Option Addr) (m c : Nat) (ps : List PC) (f t : Int) (bA : Option Addr) (bn bc : Nat) (bs : List UInt8) (W0 W : World) (g1 g2 g3 : Nat) (hs0 : 0 ≤ sent) (h : LP.rd W AllB A m ps) (hm : m ≤ 9223372036854775807) (h0 : Below W0.heap.size W0 W)
    (h1 : Blk W g1 3 #[.int .i64 f]) (h2 : Blk W g2 3 #[.int .i64 t]) (h3 : Blk W g3 27 #[.slice bA bn bc]) (hb : RdB W bA bn bs) :
    Calls Try.prog 41 #[.agg #[.int .u64 sent, .slice A m c], .func (.func 42) #[] #[.pointer (some ⟨g1, 0, none⟩), .pointer (some ⟨g2, 0, none⟩), .pointer (some ⟨g3, 0, none⟩)]] W fun e w' =>
      WithR W (sendE sent ps f t bs) (sendR sent ps f t bs).1 (sendR sent ps f t bs).2 e w' ∧ Below W0.heap.size W0 w' := by
  cases hc : chkB sent ps
  · have e1 : sendE sent ps f t bs = 340 := by unfold sendE; rw [hc]; rfl
    have e2 : sendR sent ps f t bs = (0, []) := by unfold sendR; rw [e1]; rfl
    rw [e1, e2]
    exact (with_no AllB sent A m c ps _ W h hm hc).mono fun _ _ ⟨x, y⟩ => ⟨⟨none, 0, 0, x, OutN.nil _ _, y.size⟩, bl_ca h0 y⟩
  · obtain ⟨r1, r2⟩ := chk_rng hc
    have hlen := h.1
    have hE : sendE sent ps f t bs = (if pairB f t then (if 60000 < bs.length then 3 else addE sent ps) else 2) := by unfold sendE; rw [hc, if_pos rfl]
    refine (with_any sent A m c ps _ _ _ _ W h (by omega) hc (Go.Proofs.enters_of Try.func42 (by kernel_rfl) rfl) (send1_doc sent m ps f t bA bn bc bs W0 W g1 g2 g3 hs0 hc hlen h0 h0.size h1 h2 h3 hb) ?_ (fun _ _ _ _ h _ => h)).mono ?_
    · rintro er w1 w2 ⟨he, hbel⟩ hg
      exact ⟨he, bl_gr hbel hg (by have := h0.size; omega)⟩
    · rintro e w' ⟨er, ⟨her, hbel⟩, hsz, ⟨hne, rfl⟩ | ⟨rfl, s, A2, m2, c2, es2, rfl, hd, rfl, hes⟩⟩
      · rw [← hE] at her
        subst her
        have e2 : sendR sent ps f t bs = (0, []) := by unfold sendR; rw [if_neg hne]
        rw [e2]
        exact ⟨⟨none, 0, 0, rfl, OutN.nil _ _, hsz⟩, hbel⟩
      · rw [← hE] at her
        have e2 : sendR sent ps f t bs = (sent + 1, ps ++ [added sent (newP f t bs)]) := by unfold sendR; rw [if_pos her.symm]
        rw [e2, ← her]
        exact ⟨⟨A2, m2, c2, rfl, ⟨es2, hd, hes⟩, hsz⟩, hbel⟩
set_option maxRecDepth 100000 in
set_option maxHeartbeats 8000000 in
theorem send_any (sent : Int) (A : Option Addr) (m c : Nat) (ps : List PC) (f t : Int) (bA : Option Addr) (bn bc : Nat) (bs : List UInt8) (w : World) (h : LP.rd w AllB A m ps) (hm : m ≤ 9223372036854775807) (hs0 : 0 ≤ sent) (hb : RdB w bA bn bs) :
    Calls Try.prog 11 #[.agg #[.int .u64 sent, .slice A m c], .int .i64 f, .int .i64 t, .slice bA bn bc] w fun e w' => ∃ A2 m2 c2, e = .returned (.tuple #[.agg #[.int .u64 (sendR sent ps f t bs).1, .slice A2 m2 c2], .int .u64 (sendR sent ps f t bs).1, .int .i64 (sendE sent ps f t bs)]) ∧ OutN w' w.heap.size A2 m2 c2 (sendR sent ps f t bs).2 ∧ Below w.heap.size w w' := by
  have HW := Lib.hid (fun W g1 g2 g3 hrd h1 h2 h3 hrb => send_with sent A m c ps f t bA bn bc bs W W g1 g2 g3 hs0 hrd hm (Below.refl _ _) h1 h2 h3 hrb)
  generalize sendR sent ps f t bs = R at *
  generalize sendE sent ps f t bs = E at *
  obtain ⟨s, l⟩ := R
  have HH := Lib.hid h
  have HB := Lib.hid hb
  clear h hb
  have bb := Below.refl w.heap.size w
  have bN := Blk.new w 26 #[.int .u64 sent, .slice A m c]
  replace bb := bl_al bb (.cells #[.int .u64 sent, .slice A m c] 26)
  replace bN := bN.ca (bl_al (Below.refl _ _) (.cells #[.int .i64 f] 3))
  have bF : Blk ((w.alloc (.cells #[.int .u64 sent, .slice A m c] 26)).alloc (.cells #[.int .i64 f] 3)) (w.heap.size + 1) 3 #[.int .i64 f] := Blk.mk' (by simp only [World.size_alloc])
  replace bb := bl_al bb (.cells #[.int .i64 f] 3)
  replace bN := bN.ca (bl_al (Below.refl _ _) (.cells #[.int .i64 t] 3))
  replace bF := bF.ca (bl_al (Below.refl _ _) (.cells #[.int .i64 t] 3))
  have bT : Blk (((w.alloc (.cells #[.int .u64 sent, .slice A m c] 26)).alloc (.cells #[.int .i64 f] 3)).alloc (.cells #[.int .i64 t] 3)) (w.heap.size + 2) 3 #[.int .i64 t] := Blk.mk' (by simp only [World.size_alloc])
  replace bb := bl_al bb (.cells #[.int .i64 t] 3)
  replace bN := bN.ca (bl_al (Below.refl _ _) (.cells #[.slice bA bn bc] 27))
  replace bF := bF.ca (bl_al (Below.refl _ _) (.cells #[.slice bA bn bc] 27))
  replace bT := bT.ca (bl_al (Below.refl _ _) (.cells #[.slice bA bn bc] 27))
  have bB : Blk ((((w.alloc (.cells #[.int .u64 sent, .slice A m c] 26)).alloc (.cells #[.int .i64 f] 3)).alloc (.cells #[.int .i64 t] 3)).alloc (.cells #[.slice bA bn bc] 27)) (w.heap.size + 3) 27 #[.slice bA bn bc] := Blk.mk' (by simp only [World.size_alloc])
  replace bb := bl_al bb (.cells #[.slice bA bn bc] 27)
  replace bN := bN.ca (bl_al (Below.refl _ _) (.cells #[.int .u64 0, .slice none 0 0] 26))
  replace bF := bF.ca (bl_al (Below.refl _ _) (.cells #[.int .u64 0, .slice none 0 0] 26))
  replace bT := bT.ca (bl_al (Below.refl _ _) (.cells #[.int .u64 0, .slice none 0 0] 26))
  replace bB := bB.ca (bl_al (Below.refl _ _) (.cells #[.int .u64 0, .slice none 0 0] 26))
  have bR : Blk (((((w.alloc (.cells #[.int .u64 sent, .slice A m c] 26)).alloc (.cells #[.int .i64 f] 3)).alloc (.cells #[.int .i64 t] 3)).alloc (.cells #[.slice bA bn bc] 27)).alloc (.cells #[.int .u64 0, .slice none 0 0] 26)) (w.heap.size + 4) 26 #[.int .u64 0, .slice none 0 0] := Blk.mk' (by simp only [World.size_alloc])
  replace bb := bl_al bb (.cells #[.int .u64 0, .slice none 0 0] 26)
  have hsz : w.heap.size + 5 ≤ (((((w.alloc (.cells #[.int .u64 sent, .slice A m c] 26)).alloc (.cells #[.int .i64 f] 3)).alloc (.cells #[.int .i64 t] 3)).alloc (.cells #[.slice bA bn bc] 27)).alloc (.cells #[.int .u64 0, .slice none 0 0] 26)).heap.size := by simp only [World.size_alloc]; omega
  go_enter Try.func11, Try.ntmps11
  go_wp2_with fail
  generalize (((((w.alloc (.cells #[.int .u64 sent, .slice A m c] 26)).alloc (.cells #[.int .i64 f] 3)).alloc (.cells #[.int .i64 t] 3)).alloc (.cells #[.slice bA bn bc] 27)).alloc (.cells #[.int .u64 0, .slice none 0 0] 26)) = w1 at *
  refine (HW.out w1 (w.heap.size + 1) (w.heap.size + 2) (w.heap.size + 3) (Lay.rd_below HH.out bb) bF bT bB (HB.out.below bb)).mono ?_
  rintro e w2 ⟨⟨A2, m2, c2, rfl, ho, hs2⟩, hb2⟩
  have KR := Lib.hid ((bR.ca hb2).ca (bl_al (Below.refl _ _) (.cells #[.int .u64 s, .slice A2 m2 c2] 26)))
  have HM := Lib.hid (Blk.new w2 26 #[.int .u64 s, .slice A2 m2 c2])
  have HO := Lib.hid (ho.below (bl_al (Below.refl _ _) (.cells #[.int .u64 s, .slice A2 m2 c2] 26)))
  have hz2 := hb2.size
  have HBB := Lib.hid (bl_al (bl_ca bb hb2) (.cells #[.int .u64 s, .slice A2 m2 c2] 26))
  clear ho hb2
  go_wp2_with fail
  obtain ⟨g11, hg11⟩ : ∃ g, g = w2.heap.size := ⟨_, rfl⟩
  have hg12 : w.heap.size + 5 ≤ g11 := by omega
  rw [← hg11] at HM
  generalize w2.heap.size = G2 at *
  subst hg11
  generalize w2.alloc (.cells #[.int .u64 s, .slice A2 m2 c2] 26) = w5 at *

  refine wp_region_ps (S := Seq1 4 (fun _ w' => Below w5.heap.size w5 w') (fun _ w' => ∃ w6, Below w5.heap.size w5 w6 ∧ Blk w' (w.heap.size + 4) 26 #[.int .u64 s, .slice A2 m2 c2] ∧ w6.grownBy w' (some (w.heap.size + 4)))) (by kernel_rfl) ?spswq ?ppswq
  case spswq =>
    exact Seq1.start (by decide) (Below.refl _ _).drew
  refine Ps.step (i := 0) (d := some 19) (u := ?uwq_1) rfl rfl (by kernel_rfl) (by kernel_rfl) (by kernel_rfl) (by kernel_rfl) ?ywq_1 ?rwq_1
  case ywq_1 =>
    refine StepS.read [] (by kernel_rfl) (Seq1.pass (by decide)) (by rfl) (fun L9 m9 w9 hSh hAt hDn hS => ?_)
    have hT : Blk w9 g11 26 #[.int .u64 s, .slice A2 m2 c2] := Seq1.any (T := fun w9 => Blk w9 g11 26 #[.int .u64 s, .slice A2 m2 c2]) (fun _ _ h => HM.out.ca h) (fun _ _ ⟨_, h1, _, h3⟩ => (HM.out.ca h1).apart h3 (by omega)) hS
    have x0 : w9.cell? ⟨g11, 0, none⟩ = some (.int .u64 s) := hT.cell 0
    have x1 : w9.cell? ⟨g11, 1, none⟩ = some (.slice A2 m2 c2) := hT.cell 1
    clear hT hS
    go_simp
    try rfl
  try simp only [Act.put, List.setIfInBounds_toArray, List.set_cons_zero, List.set_cons_succ]
  refine Ps.step (i := 1) (d := some 20) (u := ?uwq_2) rfl rfl (by kernel_rfl) (by kernel_rfl) (by kernel_rfl) (by kernel_rfl) ?ywq_2 ?rwq_2
  case ywq_2 =>
    refine StepS.pure (Seq1.pass (by decide)) (by rfl) (fun w9 => ?_)
    go_simp
    try rfl
  try simp only [Act.put, List.setIfInBounds_toArray, List.set_cons_zero, List.set_cons_succ]
  refine Ps.step (i := 2) (d := some 21) (u := ?uwq_3) rfl rfl (by kernel_rfl) (by kernel_rfl) (by kernel_rfl) (by kernel_rfl) ?ywq_3 ?rwq_3
  case ywq_3 =>
    refine StepS.read [] (by kernel_rfl) (Seq1.pass (by decide)) (by rfl) (fun L9 m9 w9 hSh hAt hDn hS => ?_)
    have hT : Blk w9 g11 26 #[.int .u64 s, .slice A2 m2 c2] := Seq1.any (T := fun w9 => Blk w9 g11 26 #[.int .u64 s, .slice A2 m2 c2]) (fun _ _ h => HM.out.ca h) (fun _ _ ⟨_, h1, _, h3⟩ => (HM.out.ca h1).apart h3 (by omega)) hS
    have x0 : w9.cell? ⟨g11, 0, none⟩ = some (.int .u64 s) := hT.cell 0
    clear hT hS
    go_simp
    try rfl
  try simp only [Act.put, List.setIfInBounds_toArray, List.set_cons_zero, List.set_cons_succ]
  refine Ps.step (i := 3) (d := some 22) (u := ?uwq_4) rfl rfl (by kernel_rfl) (by kernel_rfl) (by kernel_rfl) (by kernel_rfl) ?ywq_4 ?rwq_4
  case ywq_4 =>
    refine StepS.pure (Seq1.pass (by decide)) (by rfl) (fun w9 => ?_)
    go_simp
    try rfl
  try simp only [Act.put, List.setIfInBounds_toArray, List.set_cons_zero, List.set_cons_succ]
  refine Ps.step (i := 4) (d := none) (u := undef) rfl rfl (by kernel_rfl) (by kernel_rfl) (by kernel_rfl) (by kernel_rfl) ?ywq_5 ?rwq_5
  case ywq_5 =>
    refine StepS.store [] (by kernel_rfl) (by rfl) (fun L9 m9 w9 hSh hAt hDn hS => ?_)
    have hT := Seq1.at1 hDn hS
    refine (exec_store_blk (w := w9) 26 (.tmp 8) (.tmp 19) (by rfl) (w.heap.size + 4) 26 #[.int .u64 0, .slice none 0 0] #[.int .u64 s, .slice A2 m2 c2] (by rfl) (by rfl) (KR.out.ca hT) rfl netI (by simp [Value.oneCell'])).imp fun w7 hx => ⟨hx.1, Seq1.set1 ⟨w9, hT, hx.2.1, hx.2.2⟩⟩
  try simp only [Act.put]
  refine Ps.step (i := 5) (d := some 9) (u := ?uwq_6) rfl rfl (by kernel_rfl) (by kernel_rfl) (by kernel_rfl) (by kernel_rfl) ?ywq_6 ?rwq_6
  case ywq_6 =>
    refine StepS.pure (Seq1.pass (by decide)) (by rfl) (fun w9 => ?_)
    go_simp
    try rfl
  try simp only [Act.put, List.setIfInBounds_toArray, List.set_cons_zero, List.set_cons_succ]
  refine Ps.step (i := 6) (d := some 10) (u := ?uwq_7) rfl rfl (by kernel_rfl) (by kernel_rfl) (by kernel_rfl) (by kernel_rfl) ?ywq_7 ?rwq_7
  case ywq_7 =>
    refine StepS.pure (Seq1.pass (by decide)) (by rfl) (fun w9 => ?_)
    go_simp
    try rfl
  try simp only [Act.put, List.setIfInBounds_toArray, List.set_cons_zero, List.set_cons_succ]
  refine Ps.done (by kernel_rfl) (fun wq hS => ?_) _
  obtain ⟨w6, hT, hZ, gz⟩ := Seq1.fin (by rfl) hS
  clear hS
  go_wp2
  exact bodyPost_ret (res3 Try.results11 rfl rfl rfl hZ Try.underlying26 rfl netI) rfl ⟨A2, m2, c2, rfl, ((HO.out.below hT).kept gz (by omega)).less (by omega), bl_gr (bl_ca HBB.out hT) gz (by omega)⟩
end Go.Proofs.Ytnbcffnhgijmcaa
