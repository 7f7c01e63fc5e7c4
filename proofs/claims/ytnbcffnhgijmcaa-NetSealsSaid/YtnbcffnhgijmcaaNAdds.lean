/- net.adds. Conditions: the block holds a net whose parcels the call owns; the parcel's bytes can be read. -/
import Derived.Test.YtnbcffnhgijmcaaNWith
import Derived.Deep.AppendLies
namespace Go.Proofs.Ytnbcffnhgijmcaa
open Go.RowKit
/-- below B nothing is changed but block b -/
structure Kept (w w' : World) (b B : Nat) : Prop where
  os : w'.os = w.os
  tape : w'.tape = w.tape
  output : w'.output = w.output
  size : w.heap.size ≤ w'.heap.size
  block : ∀ k, k < B → k ≠ b → w'.heap[k]? = w.heap[k]?
section
variable {w w' w'' : World} {b B : Nat}
theorem Kept.refl (w : World) (b B : Nat) : Kept w w b B := ⟨rfl, rfl, rfl, Nat.le_refl _, fun _ _ _ => rfl⟩
theorem Kept.of_below {B' : Nat} (h : Below B' w w') (hB : B ≤ B') : Kept w w' b B := ⟨h.os, h.tape, h.output, h.size, fun k hk _ => h.block k (by omega)⟩
theorem Kept.trans (h : Kept w w' b B) (k : Kept w' w'' b B) : Kept w w'' b B := ⟨k.os.trans h.os, k.tape.trans h.tape, k.output.trans h.output, Nat.le_trans h.size k.size, fun j hj hne => (k.block j hj hne).trans (h.block j hj hne)⟩
theorem Kept.of_grown {r : Nat} (h : w.grownBy w' (some r)) (hB : B ≤ w.heap.size) (hr : r = b ∨ B ≤ r) : Kept w w' b B := ⟨h.os, h.tape, h.output, h.size, fun k hk hne => h.block k (by omega) (fun e => by injection e with e; omega)⟩
theorem Kept.less {B' : Nat} (h : Kept w w' b B) (hB : B' ≤ B) : Kept w w' b B' := ⟨h.os, h.tape, h.output, h.size, fun k hk hne => h.block k (by omega) hne⟩
theorem Kept.below {B0 : Nat} {w0 : World} (h : Kept w w' b B) (h0 : Below B0 w0 w) (hb : B0 ≤ b) (hB : B0 ≤ B) : Below B0 w0 w' := ⟨h.os.trans h0.os, h.tape.trans h0.tape, h.output.trans h0.output, Nat.le_trans h0.size h.size, fun k hk => (h.block k (by omega) (by omega)).trans (h0.block k hk)⟩
end
theorem OwnB.at_ {w w' : World} {B : Nat} {A : Option Addr} {n c : Nat} {bs : List UInt8} (h : OwnB w B A n c bs) (hk : ∀ k, (Value.slice A n c).ownBlock = some k → w'.heap[k]? = w.heap[k]?) : OwnB w' B A n c bs := by
  refine ⟨h.1, ?_⟩
  rcases h.2 with h2 | ⟨g, cap, cur, e, hg, hh, r⟩
  · exact .inl h2
  · exact .inr ⟨g, cap, cur, e, hg, (hk g (by rw [e]; rfl)).trans hh, r⟩
theorem own_ne_row {w : World} {B B' m c' : Nat} {A A' : Option Addr} {n c : Nat} {bs : List UInt8} {es : List El} (h : OwnB w B A n c bs) (hr : Ro w B' A' m c' es) {k : Nat} (hk : (Value.slice A n c).ownBlock = some k) : (Value.slice A' m c').ownBlock ≠ some k := by
  intro e
  rcases hr.2 with ⟨h', _⟩ | ⟨g', cap, cur, h', _, hg, _⟩
  · rw [h'] at e; simp [Value.ownBlock] at e
  · have hA : A' = some ⟨g', 0, none⟩ := by injection h'
    subst hA
    have : g' = k := by simpa [Value.ownBlock] using e
    subst this
    exact own_ne_ro h hr hk
theorem addr0 (g j : Nat) : (⟨g, 0, none⟩ : Addr).add j = ⟨g, j, none⟩ := by unfold Addr.add; split <;> simp_all
theorem own_ne_blk3 {w : World} {B m c g t : Nat} {A : Option Addr} {cs : Array Value} {es : List El} (h : Ro w B A m c es) (hb : Blk w g t cs) (ht : t ≠ 29 := by decide) : (Value.slice A m c).ownBlock ≠ some g := own_blk_ne h hb (Ne.symm ht)
theorem DO.push {w2 w6 w8 w9 : World} {B b m c c8 : Nat} {A A8 : Option Addr} {es : List El} {e2 : El} (hD2 : DO w2 B A m c es) (hD6 : DO w6 B A m c es) (ho : OwnB w6 w2.heap.size e2.A e2.n e2.c e2.p.bs) (hBs : B ≤ w2.heap.size)
    (hro : Ro w8 B A8 (m + 1) c8 (es ++ [e2])) (hR : ∀ k, k < w6.heap.size → (Value.slice A m c).ownBlock ≠ some k → w8.heap[k]? = w6.heap[k]?) (hg : w8.grownBy w9 (some b)) (hb : b < B) : DO w9 B A8 (m + 1) c8 (es ++ [e2]) := by
  refine ⟨hro.kept hg (fun e => by have := (own_base' hro b e).1; omega), ?_, ?_⟩
  · intro x hx
    have key : ∀ (e : El) (B' : Nat), OwnB w6 B' e.A e.n e.c e.p.bs → B ≤ B' → OwnB w9 B e.A e.n e.c e.p.bs := fun e B' h hB' =>
      ((OwnB.less h hB').at_ (fun k hk => hR k (h.base_ k hk).2 (own_ne_row h hD6.row hk))).kept hg (fun e' => by have := (h.base_ b e').1; omega)
    rcases List.mem_append.1 hx with hx | hx
    · exact key x B (hD6.own x hx) (Nat.le_refl _)
    · rw [List.mem_singleton.1 hx]; exact key e2 _ ho hBs
  · rw [List.pairwise_append]
    refine ⟨hD2.apart, List.pairwise_singleton _ _, fun x hx y hy k hk => ?_⟩
    rw [List.mem_singleton.1 hy]
    intro e'
    have h1 := ((hD2.own x hx).base_ k hk).2
    have h2 := (ho.base_ k e').1
    omega
/-- a parcel behind the others: with the next number, its bytes in memory of their own -/
def added (sent : Int) (p : PC) : PC := ⟨sent + 1, p.frm, p.to, p.bs, p.sp⟩
def pcells (p : PC) (A : Option Addr) (n c : Nat) : Array Value := #[.int .u64 p.num, .int .i64 p.frm, .int .i64 p.to, .slice A n c, .bool p.sp]
set_option maxRecDepth 100000 in
set_option maxHeartbeats 4000000 in
theorem adds_full (sent : Int) (A : Option Addr) (m c b : Nat) (p : PC) (pA : Option Addr) (pn pc : Nat) (w : World) (hN : Blk w b 26 #[.int .u64 sent, .slice A m c]) (hf : 20000 ≤ m ∨ sent = 1099511627776) :
    Calls Try.prog 44 #[.pointer (some ⟨b, 0, none⟩), .agg #[.int .u64 p.num, .int .i64 p.frm, .int .i64 p.to, .slice pA pn pc, .bool p.sp]] w fun e w' => e = .returned (.int .i64 6) ∧ Below w.heap.size w w' := by
  have hN1 := hN.ca (bl_al (Below.refl w.heap.size w) (.cells #[.int .u64 p.num, .int .i64 p.frm, .int .i64 p.to, .slice pA pn pc, .bool p.sp] 29))
  have n0 : (w.alloc (.cells #[.int .u64 p.num, .int .i64 p.frm, .int .i64 p.to, .slice pA pn pc, .bool p.sp] 29)).cell? ⟨b, 0, none⟩ = some (.int .u64 sent) := hN1.cell 0
  have n1 : (w.alloc (.cells #[.int .u64 p.num, .int .i64 p.frm, .int .i64 p.to, .slice pA pn pc, .bool p.sp] 29)).cell? ⟨b, 1, none⟩ = some (.slice A m c) := hN1.cell 1
  have b1 := bl_al (Below.refl w.heap.size w) (.cells #[.int .u64 p.num, .int .i64 p.frm, .int .i64 p.to, .slice pA pn pc, .bool p.sp] 29)
  clear hN1 hN
  by_cases h : 20000 ≤ m
  · have h1 : (20000 : Int) ≤ (m : Int) := by omega
    clear hf
    go_enter Try.func44, Try.ntmps44
    go_wp2
    go_ret
    exact ⟨rfl, b1⟩
  · have h1 : (m : Int) < 20000 := by omega
    have h2 : sent = 1099511627776 := by omega
    subst h2
    clear hf
    go_enter Try.func44, Try.ntmps44
    go_wp2
    go_ret
    exact ⟨rfl, b1⟩
set_option maxRecDepth 100000 in
set_option maxHeartbeats 8000000 in
theorem adds_any (sent : Int) (A : Option Addr) (m c b B : Nat) (es : List El) (p : PC) (pA : Option Addr) (pn pc : Nat) (w : World) (hN : Blk w b 26 #[.int .u64 sent, .slice A m c]) (hD : DO w B A m c es) (hb : b < B) (hB : B ≤ w.heap.size)
    (hp : ∀ w', Kept w w' b w.heap.size → RdB w' pA pn p.bs) (hpn : pn ≤ 60000) (hm : m < 20000) (hs0 : 0 ≤ sent) (hs : sent < 1099511627776) :
    Calls Try.prog 44 #[.pointer (some ⟨b, 0, none⟩), .agg #[.int .u64 p.num, .int .i64 p.frm, .int .i64 p.to, .slice pA pn pc, .bool p.sp]] w fun e w' => e = .returned (.int .i64 0) ∧ Kept w w' b B ∧
      ∃ A2 c2 e2, Blk w' b 26 #[.int .u64 (sent + 1), .slice A2 (m + 1) c2] ∧ DO w' B A2 (m + 1) c2 (es ++ [e2]) ∧ e2.p = added sent p := by
  have hN1 := hN.ca (bl_al (Below.refl w.heap.size w) (.cells #[.int .u64 p.num, .int .i64 p.frm, .int .i64 p.to, .slice pA pn pc, .bool p.sp] 29))
  have n0 : (w.alloc (.cells #[.int .u64 p.num, .int .i64 p.frm, .int .i64 p.to, .slice pA pn pc, .bool p.sp] 29)).cell? ⟨b, 0, none⟩ = some (.int .u64 sent) := hN1.cell 0
  have n1 : (w.alloc (.cells #[.int .u64 p.num, .int .i64 p.frm, .int .i64 p.to, .slice pA pn pc, .bool p.sp] 29)).cell? ⟨b, 1, none⟩ = some (.slice A m c) := hN1.cell 1
  have f0 : (w.alloc (.cells #[.int .u64 p.num, .int .i64 p.frm, .int .i64 p.to, .slice pA pn pc, .bool p.sp] 29)).frozen? ⟨b, 0, none⟩ = false := hN1.frozen 0
  have hX := Blk.new w 29 #[.int .u64 p.num, .int .i64 p.frm, .int .i64 p.to, .slice pA pn pc, .bool p.sp]
  have b1 := bl_al (Below.refl w.heap.size w) (.cells #[.int .u64 p.num, .int .i64 p.frm, .int .i64 p.to, .slice pA pn pc, .bool p.sp] 29)
  have hg : (w.alloc (.cells #[.int .u64 p.num, .int .i64 p.frm, .int .i64 p.to, .slice pA pn pc, .bool p.sp] 29)).grownBy ((w.alloc (.cells #[.int .u64 p.num, .int .i64 p.frm, .int .i64 p.to, .slice pA pn pc, .bool p.sp] 29)).setCell ⟨b, 0, none⟩ (.int .u64 (sent + 1))) (some b) := only_setCell (World.grownBy.refl _ _) (.inl rfl) _
  have HX2 := Lib.hid (hX.apart hg (by omega))
  have HN2 := Lib.hid (show Blk ((w.alloc (.cells #[.int .u64 p.num, .int .i64 p.frm, .int .i64 p.to, .slice pA pn pc, .bool p.sp] 29)).setCell ⟨b, 0, none⟩ (.int .u64 (sent + 1))) b 26 #[.int .u64 (sent + 1), .slice A m c] from by simpa using hN1.set_ 0 (.int .u64 (sent + 1)))
  have HRB := Lib.hid (fun k (e : (Value.slice A m c).ownBlock = some k) => (own_base' hD.row k e).2)
  have HD2 := Lib.hid ((hD.below b1).kept hg hb)
  have HK2 := Lib.hid ((Kept.of_below b1 (Nat.le_refl _)).trans (Kept.of_grown (b := b) hg (by simp only [World.size_alloc]; omega) (.inl rfl)))
  have hsz2 : w.heap.size + 1 ≤ ((w.alloc (.cells #[.int .u64 p.num, .int .i64 p.frm, .int .i64 p.to, .slice pA pn pc, .bool p.sp] 29)).setCell ⟨b, 0, none⟩ (.int .u64 (sent + 1))).heap.size := by have := hg.size; simp only [World.size_alloc] at this ⊢; exact this
  have hB2' : B ≤ w.heap.size + 1 := by omega
  have d1 : decide ((20000 : Int) ≤ (m : Int)) = false := df (by omega)
  have d2 : (sent == 1099511627776) = false := by simp; omega
  have HP2 := Lib.hid (fun W (q : Below ((w.alloc (.cells #[.int .u64 p.num, .int .i64 p.frm, .int .i64 p.to, .slice pA pn pc, .bool p.sp] 29)).setCell ⟨b, 0, none⟩ (.int .u64 (sent + 1))).heap.size ((w.alloc (.cells #[.int .u64 p.num, .int .i64 p.frm, .int .i64 p.to, .slice pA pn pc, .bool p.sp] 29)).setCell ⟨b, 0, none⟩ (.int .u64 (sent + 1))) W) => hp W (HK2.out.trans (Kept.of_below q (by omega))))
  clear hN1 hN hD hX b1 hg
  go_enter Try.func44, Try.ntmps44
  go_wp2_with fail
  clear n0 n1 f0 d1 d2
  have hB2 := Nat.le_trans hB2' hsz2
  generalize (w.alloc (.cells #[.int .u64 p.num, .int .i64 p.frm, .int .i64 p.to, .slice pA pn pc, .bool p.sp] 29)).setCell ⟨b, 0, none⟩ (.int .u64 (sent + 1)) = w2 at *
  refine wp_region_ps (S := Seq3 6 8 10 (fun _ w' => Below w2.heap.size w2 w') (fun m w' => Below w2.heap.size w2 w' ∧ ∃ A4 c4, m 6 = .slice A4 pn c4 ∧ OwnB w' w2.heap.size A4 pn c4 p.bs) (fun m w' => ∃ w5, Below w2.heap.size w2 w5 ∧ (∃ A4 c4, m 6 = .slice A4 pn c4 ∧ OwnB w5 w2.heap.size A4 pn c4 p.bs) ∧ w' = w5.setCell ⟨w.heap.size, 0, none⟩ (.int .u64 (sent + 1))) (fun m w' => ∃ w5 A4 c4, Below w2.heap.size w2 w5 ∧ m 6 = .slice A4 pn c4 ∧ OwnB w5 w2.heap.size A4 pn c4 p.bs ∧ w' = (w5.setCell ⟨w.heap.size, 0, none⟩ (.int .u64 (sent + 1))).setCell ⟨w.heap.size, 3, none⟩ (.slice A4 pn c4))) (by kernel_rfl) ?spswq ?ppswq
  case spswq =>
    exact Seq3.start (by decide) (by decide) (by decide) (Below.refl _ _).drew
  refine Ps.step (i := 0) (d := some 25) (u := ?uwq_1) rfl rfl (by kernel_rfl) (by kernel_rfl) (by kernel_rfl) (by kernel_rfl) ?ywq_1 ?rwq_1
  case ywq_1 =>
    refine StepS.pure (Seq3.pass (by decide) (by decide) (by decide)) (by rfl) (fun w9 => ?_)
    go_simp
    try rfl
  try simp only [Act.put, List.setIfInBounds_toArray, List.set_cons_zero, List.set_cons_succ]
  refine Ps.step (i := 1) (d := some 26) (u := ?uwq_2) rfl rfl (by kernel_rfl) (by kernel_rfl) (by kernel_rfl) (by kernel_rfl) ?ywq_2 ?rwq_2
  case ywq_2 =>
    refine StepS.pure (Seq3.pass (by decide) (by decide) (by decide)) (by rfl) (fun w9 => ?_)
    go_simp
    try rfl
  try simp only [Act.put, List.setIfInBounds_toArray, List.set_cons_zero, List.set_cons_succ]
  refine Ps.step (i := 2) (d := some 27) (u := ?uwq_3) rfl rfl (by kernel_rfl) (by kernel_rfl) (by kernel_rfl) (by kernel_rfl) ?ywq_3 ?rwq_3
  case ywq_3 =>
    refine StepS.pure (Seq3.pass (by decide) (by decide) (by decide)) (by rfl) (fun w9 => ?_)
    go_simp
    try rfl
  try simp only [Act.put, List.setIfInBounds_toArray, List.set_cons_zero, List.set_cons_succ]
  refine Ps.step (i := 3) (d := some 28) (u := ?uwq_4) rfl rfl (by kernel_rfl) (by kernel_rfl) (by kernel_rfl) (by kernel_rfl) ?ywq_4 ?rwq_4
  case ywq_4 =>
    refine StepS.read [] (by kernel_rfl) (Seq3.pass (by decide) (by decide) (by decide)) (by rfl) (fun L9 m9 w9 hSh hAt hDn hS => ?_)
    have hT : Below w2.heap.size w2 w9 := Seq3.early1 (T := fun w9 => Below w2.heap.size w2 w9) (fun _ _ h => h) (fun _ _ h => h.1) (reach_no hSh (f := 11) (j := 8) (by kernel_rfl) hDn) (reach_no hSh (f := 11) (j := 10) (by kernel_rfl) hDn) hS
    have n0 : w9.cell? ⟨b, 0, none⟩ = some (.int .u64 (sent + 1)) := (HN2.out.ca hT).cell 0
    go_simp
    try rfl
  try simp only [Act.put, List.setIfInBounds_toArray, List.set_cons_zero, List.set_cons_succ]
  refine Ps.step (i := 4) (d := some 29) (u := ?uwq_5) rfl rfl (by kernel_rfl) (by kernel_rfl) (by kernel_rfl) (by kernel_rfl) ?ywq_5 ?rwq_5
  case ywq_5 =>
    refine StepS.pure (Seq3.pass (by decide) (by decide) (by decide)) (by rfl) (fun w9 => ?_)
    go_simp
    try rfl
  try simp only [Act.put, List.setIfInBounds_toArray, List.set_cons_zero, List.set_cons_succ]
  refine Ps.step (i := 5) (d := some 30) (u := ?uwq_6) rfl rfl (by kernel_rfl) (by kernel_rfl) (by kernel_rfl) (by kernel_rfl) ?ywq_6 ?rwq_6
  case ywq_6 =>
    refine StepS.read [] (by kernel_rfl) (Seq3.pass (by decide) (by decide) (by decide)) (by rfl) (fun L9 m9 w9 hSh hAt hDn hS => ?_)
    have hT : Below w2.heap.size w2 w9 := Seq3.early1 (T := fun w9 => Below w2.heap.size w2 w9) (fun _ _ h => h) (fun _ _ h => h.1) (reach_no hSh (f := 11) (j := 8) (by kernel_rfl) hDn) (reach_no hSh (f := 11) (j := 10) (by kernel_rfl) hDn) hS
    have x3 : w9.cell? ⟨w.heap.size, 3, none⟩ = some (.slice pA pn pc) := (HX2.out.ca hT).cell 3
    go_simp
    try rfl
  try simp only [Act.put, List.setIfInBounds_toArray, List.set_cons_zero, List.set_cons_succ]
  refine Ps.step (i := 7) (d := some 32) (u := ?uwq_7) rfl rfl (by kernel_rfl) (by kernel_rfl) (by kernel_rfl) (by kernel_rfl) ?ywq_7 ?rwq_7
  case ywq_7 =>
    refine StepS.pure (Seq3.pass (by decide) (by decide) (by decide)) (by rfl) (fun w9 => ?_)
    go_simp
    try rfl
  try simp only [Act.put, List.setIfInBounds_toArray, List.set_cons_zero, List.set_cons_succ]
  refine Ps.one (k := 6) (d := some 31) rfl rfl (by kernel_rfl) (TurnS.call (V := fun _ => True) ?fwq_8 ?awq_8 [] (by kernel_rfl) (by rfl) (fun w9 => ?hwq_8) (fun L9 m9 w9 hSh hAt hDn hS => ?cwq_8)) (fun v6 hVv6 => ?rwq_8)
  case hwq_8 => go_simp; refine ⟨?_, ?_⟩ <;> rfl
  case cwq_8 =>
    have hT : Below w2.heap.size w2 w9 := Seq3.at1 hDn (reach_no hSh (f := 11) (j := 8) (by kernel_rfl) hDn) (reach_no hSh (f := 11) (j := 10) (by kernel_rfl) hDn) hS
    exact (bclone_any pA pn pc p.bs w9 (HP2.out w9 hT) (by omega)).mono fun _ _ ⟨A4, c4, h1, h2, h3⟩ => ⟨_, h1, trivial, Seq3.set1 (by decide) (by decide) (reach_no hSh (f := 11) (j := 8) (by kernel_rfl) hDn) (reach_no hSh (f := 11) (j := 10) (by kernel_rfl) hDn) ⟨bl_ca hT h3, A4, c4, upd_same _ _ _, OwnB.less h2 hT.size⟩⟩
  try simp only [Act.put, List.setIfInBounds_toArray, List.set_cons_zero, List.set_cons_succ]
  clear hVv6
  refine Ps.step (i := 8) (d := none) (u := undef) rfl rfl (by kernel_rfl) (by kernel_rfl) (by kernel_rfl) (by kernel_rfl) ?ywq_9 ?rwq_9
  case ywq_9 =>
    refine StepS.store [6] (by kernel_rfl) (by rfl) (fun L9 m9 w9 hSh hAt hDn hS => ?_)
    obtain ⟨hT, hv⟩ := Seq3.at2 (hAt 6 (by simp)).1 hDn (reach_no hSh (f := 11) (j := 10) (by kernel_rfl) hDn) hS
    have x0 : w9.cell? ⟨w.heap.size, 0, none⟩ = some (.int .u64 p.num) := (HX2.out.ca hT).cell 0
    have fx : w9.frozen? ⟨w.heap.size, 0, none⟩ = false := (HX2.out.ca hT).frozen 0
    refine ⟨w9.setCell ⟨w.heap.size, 0, none⟩ (.int .u64 (sent + 1)), ?_, Seq3.set2 (by decide) (by decide) (reach_no hSh (f := 11) (j := 10) (by kernel_rfl) hDn) ⟨w9, hT, hv, rfl⟩⟩
    clear hv
    go_simp
  try simp only [Act.put]
  refine Ps.step (i := 9) (d := some 33) (u := ?uwq_10) rfl rfl (by kernel_rfl) (by kernel_rfl) (by kernel_rfl) (by kernel_rfl) ?ywq_10 ?rwq_10
  case ywq_10 =>
    refine StepS.pure (Seq3.pass (by decide) (by decide) (by decide)) (by rfl) (fun w9 => ?_)
    go_simp
    try rfl
  try simp only [Act.put, List.setIfInBounds_toArray, List.set_cons_zero, List.set_cons_succ]
  refine Ps.step (i := 10) (d := none) (u := undef) rfl rfl (by kernel_rfl) (by kernel_rfl) (by kernel_rfl) (by kernel_rfl) ?ywq_11 ?rwq_11
  case ywq_11 =>
    refine StepS.store [6, 8] (by kernel_rfl) (by rfl) (fun L9 m9 w9 hSh hAt hDn hS => ?_)
    obtain ⟨w5, hT, ⟨A4, c4, hv, ho⟩, rfl⟩ := Seq3.at3 (hAt 8 (by simp)).1 hDn hS
    have hv' : v6 = .slice A4 pn c4 := (hAt 6 (by simp)).2.symm.trans hv
    subst hv'
    have hX5 := (HX2.out.ca hT).set_ 0 (.int .u64 (sent + 1))
    have x3 : (w5.setCell ⟨w.heap.size, 0, none⟩ (.int .u64 (sent + 1))).cell? ⟨w.heap.size, 3, none⟩ = some (.slice pA pn pc) := hX5.cell 3
    have fx : (w5.setCell ⟨w.heap.size, 0, none⟩ (.int .u64 (sent + 1))).frozen? ⟨w.heap.size, 3, none⟩ = false := hX5.frozen 3
    refine ⟨_, ?_, Seq3.set3 (by decide) (by decide) ⟨w5, A4, c4, hT, hv, ho, rfl⟩⟩
    clear hv hX5
    go_simp
  try simp only [Act.put]
  refine Ps.done (by kernel_rfl) (fun wq hS => ?_) _
  have hF := Seq3.fin (by rfl) hS
  clear hS
  obtain ⟨w5, A4, c4, hT, hv, ho, rfl⟩ := hF
  have hv' : v6 = .slice A4 pn c4 := hv
  subst hv'
  clear hv
  have hX6 : Blk ((w5.setCell ⟨w.heap.size, 0, none⟩ (.int .u64 (sent + 1))).setCell ⟨w.heap.size, 3, none⟩ (.slice A4 pn c4)) w.heap.size 29 #[.int .u64 (sent + 1), .int .i64 p.frm, .int .i64 p.to, .slice A4 pn c4, .bool p.sp] := by simpa using ((HX2.out.ca hT).set_ 0 (.int .u64 (sent + 1))).set_ 3 (.slice A4 pn c4)
  have hg6 : w5.grownBy ((w5.setCell ⟨w.heap.size, 0, none⟩ (.int .u64 (sent + 1))).setCell ⟨w.heap.size, 3, none⟩ (.slice A4 pn c4)) (some w.heap.size) := only_setCell (p := ⟨w.heap.size, 3, none⟩) (only_setCell (p := ⟨w.heap.size, 0, none⟩) (World.grownBy.refl _ _) (.inl rfl) _) (.inl rfl) _
  have HN6 := Lib.hid ((HN2.out.ca hT).apart hg6 (by omega))
  have HO6 := Lib.hid (ho.kept hg6 (fun e => by have := (ho.base_ _ e).1; omega))
  have HD6 := Lib.hid (show DO _ B A m c es from ⟨(HD2.out.row.below hT).kept hg6 (fun e => by have := HRB.out _ e; omega), fun x hx => (((HD2.out.own x hx).below hT).kept hg6 (own_blk_ne (HD2.out.own x hx) HX2.out (by decide))), HD2.out.apart⟩)
  have HK6 := Lib.hid ((HK2.out.trans (Kept.of_below (b := b) hT (by omega))).trans (Kept.of_grown (b := b) hg6 (Nat.le_trans (by omega) hT.size) (.inr (Nat.le_refl _))))
  have hs6 : w2.heap.size ≤ ((w5.setCell ⟨w.heap.size, 0, none⟩ (.int .u64 (sent + 1))).setCell ⟨w.heap.size, 3, none⟩ (.slice A4 pn c4)).heap.size := Nat.le_trans hT.size hg6.size
  clear hT ho hg6 HN2 HX2 HK2 HP2
  generalize (w5.setCell ⟨w.heap.size, 0, none⟩ (.int .u64 (sent + 1))).setCell ⟨w.heap.size, 3, none⟩ (.slice A4 pn c4) = w6 at *
  have HX6 := Lib.hid hX6
  clear hX6
  go_wp2_with fail
  refine wp_region_ps (S := Seq3 6 7 10 (fun _ w' => Below w6.heap.size w6 w') (fun mm w' => Below w6.heap.size w6 w' ∧ ∃ g, mm 6 = .slice (some ⟨g, 0, none⟩) 1 1 ∧ w6.heap.size ≤ g ∧ Blk w' g 29 #[.int .u64 (sent + 1), .int .i64 p.frm, .int .i64 p.to, .slice A4 pn c4, .bool p.sp]) (fun mm w' => ∃ A8 c8, mm 7 = .slice A8 (m + 1) c8 ∧ Ro w' B A8 (m + 1) c8 (es ++ [⟨added sent p, A4, pn, c4⟩]) ∧ (w6.heap.size ≤ w'.heap.size ∧ (w'.os = w6.os ∧ w'.tape = w6.tape ∧ w'.output = w6.output) ∧ ∀ k, k < w6.heap.size → (Value.slice A m c).ownBlock ≠ some k → w'.heap[k]? = w6.heap[k]?)) (fun mm w' => ∃ w8 A8 c8, mm 7 = .slice A8 (m + 1) c8 ∧ Ro w8 B A8 (m + 1) c8 (es ++ [⟨added sent p, A4, pn, c4⟩]) ∧ (w6.heap.size ≤ w8.heap.size ∧ (w8.os = w6.os ∧ w8.tape = w6.tape ∧ w8.output = w6.output) ∧ ∀ k, k < w6.heap.size → (Value.slice A m c).ownBlock ≠ some k → w8.heap[k]? = w6.heap[k]?) ∧ w' = w8.setCell ⟨b, 1, none⟩ (.slice A8 (m + 1) c8))) (by kernel_rfl) ?spswr ?ppswr
  case spswr =>
    exact Seq3.start (by decide) (by decide) (by decide) (Below.refl _ _).drew
  refine Ps.step (i := 0) (d := some 34) (u := ?uwr_12) rfl rfl (by kernel_rfl) (by kernel_rfl) (by kernel_rfl) (by kernel_rfl) ?ywr_12 ?rwr_12
  case ywr_12 =>
    refine StepS.pure (Seq3.pass (by decide) (by decide) (by decide)) (by rfl) (fun w9 => ?_)
    go_simp
    try rfl
  try simp only [Act.put, List.setIfInBounds_toArray, List.set_cons_zero, List.set_cons_succ]
  refine Ps.step (i := 1) (d := some 35) (u := ?uwr_13) rfl rfl (by kernel_rfl) (by kernel_rfl) (by kernel_rfl) (by kernel_rfl) ?ywr_13 ?rwr_13
  case ywr_13 =>
    refine StepS.pure (Seq3.pass (by decide) (by decide) (by decide)) (by rfl) (fun w9 => ?_)
    go_simp
    try rfl
  try simp only [Act.put, List.setIfInBounds_toArray, List.set_cons_zero, List.set_cons_succ]
  refine Ps.step (i := 2) (d := some 36) (u := ?uwr_14) rfl rfl (by kernel_rfl) (by kernel_rfl) (by kernel_rfl) (by kernel_rfl) ?ywr_14 ?rwr_14
  case ywr_14 =>
    refine StepS.pure (Seq3.pass (by decide) (by decide) (by decide)) (by rfl) (fun w9 => ?_)
    go_simp
    try rfl
  try simp only [Act.put, List.setIfInBounds_toArray, List.set_cons_zero, List.set_cons_succ]
  refine Ps.step (i := 3) (d := some 37) (u := ?uwr_15) rfl rfl (by kernel_rfl) (by kernel_rfl) (by kernel_rfl) (by kernel_rfl) ?ywr_15 ?rwr_15
  case ywr_15 =>
    refine StepS.pure (Seq3.pass (by decide) (by decide) (by decide)) (by rfl) (fun w9 => ?_)
    go_simp
    try rfl
  try simp only [Act.put, List.setIfInBounds_toArray, List.set_cons_zero, List.set_cons_succ]
  refine Ps.step (i := 4) (d := some 38) (u := ?uwr_16) rfl rfl (by kernel_rfl) (by kernel_rfl) (by kernel_rfl) (by kernel_rfl) ?ywr_16 ?rwr_16
  case ywr_16 =>
    refine StepS.read [] (by kernel_rfl) (Seq3.pass (by decide) (by decide) (by decide)) (by rfl) (fun L9 m9 w9 hSh hAt hDn hS => ?_)
    have hT : Below w6.heap.size w6 w9 := Seq3.early1 (T := fun w9 => Below w6.heap.size w6 w9) (fun _ _ h => h) (fun _ _ h => h.1) (reach_no hSh (f := 11) (j := 7) (by kernel_rfl) hDn) (reach_no hSh (f := 11) (j := 10) (by kernel_rfl) hDn) hS
    have n1 : w9.cell? ⟨b, 1, none⟩ = some (.slice A m c) := (HN6.out.ca hT).cell 1
    go_simp
    try rfl
  try simp only [Act.put, List.setIfInBounds_toArray, List.set_cons_zero, List.set_cons_succ]
  refine Ps.step (i := 5) (d := some 39) (u := ?uwr_17) rfl rfl (by kernel_rfl) (by kernel_rfl) (by kernel_rfl) (by kernel_rfl) ?ywr_17 ?rwr_17
  case ywr_17 =>
    refine StepS.read [] (by kernel_rfl) (Seq3.pass (by decide) (by decide) (by decide)) (by rfl) (fun L9 m9 w9 hSh hAt hDn hS => ?_)
    have hT : Below w6.heap.size w6 w9 := Seq3.early1 (T := fun w9 => Below w6.heap.size w6 w9) (fun _ _ h => h) (fun _ _ h => h.1) (reach_no hSh (f := 11) (j := 7) (by kernel_rfl) hDn) (reach_no hSh (f := 11) (j := 10) (by kernel_rfl) hDn) hS
    have x0 : w9.cell? ⟨w.heap.size, 0, none⟩ = some (.int .u64 (sent + 1)) := (HX6.out.ca hT).cell 0
    have x1 : w9.cell? ⟨w.heap.size, 1, none⟩ = some (.int .i64 p.frm) := (HX6.out.ca hT).cell 1
    have x2 : w9.cell? ⟨w.heap.size, 2, none⟩ = some (.int .i64 p.to) := (HX6.out.ca hT).cell 2
    have x3 : w9.cell? ⟨w.heap.size, 3, none⟩ = some (.slice A4 pn c4) := (HX6.out.ca hT).cell 3
    have x4 : w9.cell? ⟨w.heap.size, 4, none⟩ = some (.bool p.sp) := (HX6.out.ca hT).cell 4
    go_simp
    try rfl
  try simp only [Act.put, List.setIfInBounds_toArray, List.set_cons_zero, List.set_cons_succ]
  refine Ps.one (k := 6) (d := some 40) rfl rfl (by kernel_rfl) (TurnS.value (V := fun _ => True) [] (by kernel_rfl) (by rfl) (fun L9 m9 w9 hSh hAt hDn hS => ?cwr_18)) (fun v6 hVv6 => ?rwr_18)
  case cwr_18 =>
    have hT : Below w6.heap.size w6 w9 := Seq3.at1 hDn (reach_no hSh (f := 11) (j := 7) (by kernel_rfl) hDn) (reach_no hSh (f := 11) (j := 10) (by kernel_rfl) hDn) hS
    refine ⟨.slice (some ⟨w9.heap.size, 0, none⟩) 1 1, w9.alloc (.cells #[.int .u64 (sent + 1), .int .i64 p.frm, .int .i64 p.to, .slice A4 pn c4, .bool p.sp] 29), ?_, trivial, Seq3.set1 (by decide) (by decide) (reach_no hSh (f := 11) (j := 7) (by kernel_rfl) hDn) (reach_no hSh (f := 11) (j := 10) (by kernel_rfl) hDn) ⟨bl_al hT _, _, upd_same _ _ _, hT.size, Blk.new _ _ _⟩⟩
    go_simp
  try simp only [Act.put, List.setIfInBounds_toArray, List.set_cons_zero, List.set_cons_succ]
  clear hVv6
  refine Ps.one (k := 7) (d := some 41) rfl rfl (by kernel_rfl) (TurnS.value (V := fun _ => True) [6] (by kernel_rfl) (by rfl) (fun L9 m9 w9 hSh hAt hDn hS => ?cwr_19)) (fun v7 hVv7 => ?rwr_19)
  case cwr_19 =>
    obtain ⟨hT, g, hv, hg1, hg2⟩ := Seq3.at2 (hAt 6 (by simp)).1 hDn (reach_no hSh (f := 11) (j := 10) (by kernel_rfl) hDn) hS
    have hv' : v6 = .slice (some ⟨g, 0, none⟩) 1 1 := (hAt 6 (by simp)).2.symm.trans hv
    subst hv'
    obtain ⟨i0, hi0, hz0, hz1, hz2⟩ := info_parts Try.parcelInfo
    obtain ⟨g8, c8, w8, hrun, hown, hgr, _, _⟩ := run_append_lies (P := Try.prog) (w := w9) 24 24 B 29 i0 _ 5 56 Try.underlying24 hi0 hz0 hz1 hz2 rfl (by omega) (.slice A m c) m (ecells es) (HD6.out.row.below hT) ⟨g, 0, none⟩ 1 1 (El.cells ⟨added sent p, A4, pn, c4⟩) rfl (fun j u hu => by rw [addr0, hg2.cell j, ← Array.getElem?_toList, ← hu]; rfl) (fun u hu => by simp [El.cells] at hu; rcases hu with rfl | rfl | rfl | rfl | rfl <;> rfl) (by omega) (by simp only [maxLen]; omega) (by omega) (Nat.le_trans (Nat.le_trans hB2 hs6) hT.size) w9.heap.size rfl
    refine ⟨.slice (some ⟨g8, 0, none⟩) (m + 1) c8, w8, ?_, trivial, Seq3.set2 (by decide) (by decide) (reach_no hSh (f := 11) (j := 10) (by kernel_rfl) hDn) ⟨some ⟨g8, 0, none⟩, c8, upd_same _ _ _, ?_, Nat.le_trans hT.size hgr.size, ⟨hgr.os.trans hT.os, hgr.tape.trans hT.tape, hgr.output.trans hT.output⟩, fun k hk hne => (hgr.block k (Nat.lt_of_lt_of_le hk hT.size) (fun e => hne e.symm)).trans (hT.block k hk)⟩⟩
    · exact exec_append (.tmp 38) (.tmp 40) 24 rfl rfl rfl hrun
    · unfold Ro; rw [ecells_append]; exact hown
  try simp only [Act.put, List.setIfInBounds_toArray, List.set_cons_zero, List.set_cons_succ]
  clear hVv7
  refine Ps.step (i := 8) (d := some 42) (u := ?uwr_20) rfl rfl (by kernel_rfl) (by kernel_rfl) (by kernel_rfl) (by kernel_rfl) ?ywr_20 ?rwr_20
  case ywr_20 =>
    refine StepS.pure (Seq3.pass (by decide) (by decide) (by decide)) (by rfl) (fun w9 => ?_)
    go_simp
    try rfl
  try simp only [Act.put, List.setIfInBounds_toArray, List.set_cons_zero, List.set_cons_succ]
  refine Ps.step (i := 9) (d := some 43) (u := ?uwr_21) rfl rfl (by kernel_rfl) (by kernel_rfl) (by kernel_rfl) (by kernel_rfl) ?ywr_21 ?rwr_21
  case ywr_21 =>
    refine StepS.pure (Seq3.pass (by decide) (by decide) (by decide)) (by rfl) (fun w9 => ?_)
    go_simp
    try rfl
  try simp only [Act.put, List.setIfInBounds_toArray, List.set_cons_zero, List.set_cons_succ]
  refine Ps.step (i := 10) (d := none) (u := undef) rfl rfl (by kernel_rfl) (by kernel_rfl) (by kernel_rfl) (by kernel_rfl) ?ywr_22 ?rwr_22
  case ywr_22 =>
    refine StepS.store [6, 7] (by kernel_rfl) (by rfl) (fun L9 m9 w9 hSh hAt hDn hS => ?_)
    obtain ⟨A8, c8, hv, hro, hR⟩ := Seq3.at3 (hAt 7 (by simp)).1 hDn hS
    have hv' : v7 = .slice A8 (m + 1) c8 := (hAt 7 (by simp)).2.symm.trans hv
    subst hv'
    have hN9 : Blk w9 b 26 #[.int .u64 (sent + 1), .slice A m c] := (hR.2.2 b HN6.out.lt (own_ne_blk3 HD6.out.row HN6.out)).trans HN6.out
    have x1 : w9.cell? ⟨b, 1, none⟩ = some (.slice A m c) := hN9.cell 1
    have fx : w9.frozen? ⟨b, 1, none⟩ = false := hN9.frozen 1
    refine ⟨w9.setCell ⟨b, 1, none⟩ (.slice A8 (m + 1) c8), ?_, Seq3.set3 (by decide) (by decide) ⟨w9, A8, c8, hv, hro, hR, rfl⟩⟩
    clear hv hro hR hN9 hS
    go_simp
  try simp only [Act.put]
  refine Ps.done (by kernel_rfl) (fun wr hS => ?_) _
  have hF := Seq3.fin (by rfl) hS
  clear hS
  obtain ⟨w8, A8, c8, hv, hro, hR, rfl⟩ := hF
  have hv' : v7 = .slice A8 (m + 1) c8 := hv
  subst hv'
  clear hv
  have hg8 : w8.grownBy (w8.setCell ⟨b, 1, none⟩ (.slice A8 (m + 1) c8)) (some b) := only_setCell (World.grownBy.refl _ _) (.inl rfl) _
  have hN8 : Blk w8 b 26 #[.int .u64 (sent + 1), .slice A m c] := (hR.2.2 b HN6.out.lt (own_ne_blk3 HD6.out.row HN6.out)).trans HN6.out
  have HN8 := Lib.hid (show Blk (w8.setCell ⟨b, 1, none⟩ (.slice A8 (m + 1) c8)) b 26 #[.int .u64 (sent + 1), .slice A8 (m + 1) c8] from by simpa using hN8.set_ 1 (.slice A8 (m + 1) c8))
  have HD8 := Lib.hid (DO.push (e2 := ⟨added sent p, A4, pn, c4⟩) HD2.out HD6.out HO6.out hB2 hro hR.2.2 hg8 hb)
  have HK8 := Lib.hid (show Kept w (w8.setCell ⟨b, 1, none⟩ (.slice A8 (m + 1) c8)) b B from ((HK6.out.less hB).trans ⟨hR.2.1.1, hR.2.1.2.1, hR.2.1.2.2, hR.1, fun k hk _ => hR.2.2 k (by omega) (fun e => by have := (own_base' HD6.out.row k e).1; omega)⟩).trans (Kept.of_grown (b := b) hg8 (Nat.le_trans (Nat.le_trans hB2 hs6) hR.1) (.inl rfl)))
  clear hro hR hg8 hN8
  go_wp2
  go_ret
  exact ⟨rfl, HK8.out, A8, c8, ⟨added sent p, A4, pn, c4⟩, HN8.out, HD8.out, rfl⟩
end Go.Proofs.Ytnbcffnhgijmcaa
