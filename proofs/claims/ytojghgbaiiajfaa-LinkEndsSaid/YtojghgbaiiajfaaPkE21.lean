/- Senders, receivers and packets as data in memory. Conditions: none. -/
import Derived.Test.YtojghgbaiiajfaaPkE20
import Derived.ProofKit
import Derived.OpenShut
import Derived.ShutString
import Derived.ChangeOld
import Derived.Deep.Slices
import Derived.Deep.Fields
import Derived.ChangeSame
namespace Go.Proofs.Ytojghgbaiiajfaa
open Go.RowKit
def SC.rng (s : SC) : Prop := 0 ≤ s.base ∧ 0 ≤ s.sent ∧ 0 ≤ s.lim ∧ s.lim ≤ 18446744073709551615 ∧ s.base ≤ 18446744073709551615
def RC.rng (r : RC) : Prop := 0 ≤ r.next ∧ r.next ≤ 18446744073709551615
def PK.rng (p : PK) : Prop := 0 ≤ p.seq ∧ p.seq ≤ 18446744073709551615 ∧ 0 ≤ p.lim ∧ p.lim ≤ 18446744073709551615
structure SSP (w : World) (F : Nat → Prop) (p : Addr) (s : SC) (A : Option Addr) (n c : Nat) : Prop where
 c0 : w.cell? p = some (.int .u32 s.ses)
 c1 : w.cell? ⟨p.block, p.off + 1, none⟩ = some (.int .u64 s.base)
 c2 : w.cell? ⟨p.block, p.off + 2, none⟩ = some (.slice A n c)
 c3 : w.cell? ⟨p.block, p.off + 3, none⟩ = some (.int .u64 s.sent)
 c4 : w.cell? ⟨p.block, p.off + 4, none⟩ = some (.int .u64 s.lim)
 c5 : w.cell? ⟨p.block, p.off + 5, none⟩ = some (.int .i64 s.timer)
 c6 : w.cell? ⟨p.block, p.off + 6, none⟩ = some (.bool s.ended)
 nc : n ≤ c
 cm : c ≤ 9223372036854775807
 rd : LB3.rd w F A n s.q
structure SRP (w : World) (F : Nat → Prop) (p : Addr) (s : RC) (A : Option Addr) (n c : Nat) (B : Option Addr) (m d : Nat) : Prop where
 c0 : w.cell? p = some (.int .u32 s.ses)
 c1 : w.cell? ⟨p.block, p.off + 1, none⟩ = some (.int .u64 s.next)
 c2 : w.cell? ⟨p.block, p.off + 2, none⟩ = some (.slice A n c)
 c3 : w.cell? ⟨p.block, p.off + 3, none⟩ = some (.slice B m d)
 c4 : w.cell? ⟨p.block, p.off + 4, none⟩ = some (.int .i64 s.room)
 c5 : w.cell? ⟨p.block, p.off + 5, none⟩ = some (.bool s.over)
 nc : n ≤ c
 cm : c ≤ 9223372036854775807
 nc2 : m ≤ d
 cm2 : d ≤ 9223372036854775807
 rd : LH4.rd w F A n s.ahead
 rd2 : LB3.rd w F B m s.buf
structure SPP (w : World) (F : Nat → Prop) (p : Addr) (s : PK) (A : Option Addr) (n c : Nat) : Prop where
 c0 : w.cell? p = some (.int .i64 s.kind)
 c1 : w.cell? ⟨p.block, p.off + 1, none⟩ = some (.int .u32 s.ses)
 c2 : w.cell? ⟨p.block, p.off + 2, none⟩ = some (.int .u64 s.seq)
 c3 : w.cell? ⟨p.block, p.off + 3, none⟩ = some (.int .u64 s.lim)
 c4 : w.cell? ⟨p.block, p.off + 4, none⟩ = some (.slice A n c)
 c5 : w.cell? ⟨p.block, p.off + 5, none⟩ = some (.bool s.b.fin)
 c6 : w.cell? ⟨p.block, p.off + 6, none⟩ = some (.int .u64 s.b.cnt)
 nc : n ≤ c
 cm : c ≤ 9223372036854775807
 rd : LR.rd w F A n s.b.rows
theorem LP7_at {w : World} {F : Nat → Prop} {A : Option Addr} {n i : Nat} {xs : List PK} (h : LP7.rd w F A n xs) (hi : i < n) : ∃ ad s B k c, A = some ad ∧ xs[i]? = some s ∧ (ad.add (i * 7)).block < w.heap.size ∧ SPP w F (ad.add (i * 7)) s B k c := by
 obtain ⟨ad, s, cs, e, hx, hb, _, ⟨B, k, c, rfl, h1, h2, hr⟩, hc⟩ := Lay.rd_at h hi
 exact ⟨ad, s, B, k, c, e, hx, by rw [block_of_add]; exact hb, ⟨hc 0 _ rfl, (by rw [← addr_more _ _ 1 (by omega)]; exact hc 1 _ rfl), (by rw [← addr_more _ _ 2 (by omega)]; exact hc 2 _ rfl), (by rw [← addr_more _ _ 3 (by omega)]; exact hc 3 _ rfl), (by rw [← addr_more _ _ 4 (by omega)]; exact hc 4 _ rfl), (by rw [← addr_more _ _ 5 (by omega)]; exact hc 5 _ rfl), (by rw [← addr_more _ _ 6 (by omega)]; exact hc 6 _ rfl), h1, h2, hr⟩⟩
end Go.Proofs.Ytojghgbaiiajfaa
/- bowspritref02.Int, bowspritlaw22.one; what the layer answers to the few acts that show it awake. Conditions: none. -/
namespace Go.Proofs.Ytojghgbaiiajfaa
open Go.RowKit
def intV (n : Int) : VV := ⟨2, n, 0, ⟨#[]⟩⟩
abbrev VV.cells (v : VV) : Array Value := #[.int .i64 v.k, .int .i64 v.n, .int .u64 v.u, .string v.s]
theorem valI : (Try.prog.info? 142).map (·.size) = some 4 := by kernel_rfl
set_option maxRecDepth 100000 in
theorem int_any (n : Int) (w : World) : Calls Try.prog 100 #[.int .i64 n] w fun e w' => e = .returned (.agg (intV n).cells) ∧ Below w.heap.size w w' := by
 have b1 := bl_al (Below.refl w.heap.size w) (.cells (intV n).cells 142)
 go_enter Try.func100, Try.ntmps100
 go_wp2_with fail
 exact bodyPost_ret (res1 Try.results100 rfl (Blk.new _ _ _) Try.underlying142 rfl valI) rfl ⟨rfl, b1⟩
set_option maxRecDepth 100000 in
theorem one_any (n : Int) (w : World) : Calls Try.prog 48 #[.int .i64 n] w fun e w' => ∃ g, e = .returned (.slice (some ⟨g, 0, none⟩) 1 1) ∧ w.heap.size ≤ g ∧ Blk w' g 142 (intV n).cells ∧ Below w.heap.size w w' := by
 go_enter Try.func48, Try.ntmps48
 go_wp2_with fail
 refine (int_any _ _).mono ?_
 rintro e w1 ⟨rfl, q1⟩
 go_wp2
 go_ret
 exact ⟨_, rfl, q1.size, Blk.new _ _ _, bl_al q1 _⟩
theorem rd_blk1 {α : Type} {L : Lay α} {w : World} {F : Nat → Prop} {g : Nat} {t : TypeId} {cs : Array Value} {x : α} (h : Blk w g t cs) (hr : L.rep w F x cs.toList) (hF : F g) : L.rd w F (some ⟨g, 0, none⟩) 1 [x] := by
 refine ⟨rfl, cs.toList, Lay.reps_single hr, fun _ => ⟨_, rfl, h.lt, hF, fun j u hu => ?_⟩⟩
 rw [show (⟨g, 0, none⟩ : Addr).add j = ⟨g, j, none⟩ from by unfold Addr.add; split <;> simp_all, h.cell j]
 simpa using hu
def wk0 : SC := ⟨7, 1, [], 0, 0, 0, false⟩
def wk1 : SC := ⟨7, 1, [⟨[[intV 1]], false, 0⟩], 0, 0, 0, false⟩
def wk2 : SC := ⟨7, 1, [⟨[[intV 1]], false, 0⟩], 0, 2, 0, false⟩
def wkR : RC := ⟨7, 1, [], [], 2, false⟩
def wkP : PK := ⟨2, 7, 1, 2, ⟨[], false, 0⟩⟩
def wkO : PK := ⟨1, 7, 1, 0, ⟨[[intV 1]], false, 0⟩⟩
theorem wk_open : openS 7 = wk0 ∧ openE 7 = 0 := by refine ⟨?_, ?_⟩ <;> kernel_rfl
theorem wk_listen : listenR 7 2 = wkR ∧ listenE 7 2 = 0 := by refine ⟨?_, ?_⟩ <;> kernel_rfl
theorem wk_put : sendB wk0 = true ∧ put1E wk0 [[intV 1]] = 0 ∧ putR wk0 ⟨[[intV 1]], false, 0⟩ = wk1 := by refine ⟨?_, ?_, ?_⟩ <;> kernel_rfl
theorem wk_ack : recB wkR = true ∧ ackR wkR = wkP := by refine ⟨?_, ?_⟩ <;> kernel_rfl
theorem wk_acked : sendB wk1 = true ∧ ackedR wk1 wkP = wk2 := by refine ⟨?_, ?_⟩ <;> kernel_rfl
theorem wk_tick : sendB wk2 = true ∧ outP wk2 = [wkO] := by refine ⟨?_, ?_⟩ <;> kernel_rfl
end Go.Proofs.Ytojghgbaiiajfaa
/- What the deeds of the law LinkSafe need: a row of the pair's own that was appended to, a store into the pair. Conditions: none. -/
namespace Go.Proofs.Ytojghgbaiiajfaa
open Go.RowKit
abbrev deedC (kind pick : Int) (stays : Bool) (R : Option Addr) (rn rc : Nat) : Array Value := #[.int .i64 kind, .int .i64 pick, .bool stays, .slice R rn rc]
/-- what stands behind a deed -/
def DoesC (B0 g : Nat) (σ room : Int) (n4 n5 : Nat) (w : World) (e : Ending) (w' : World) : Prop :=
 e = .returned (.bool true) ∧ Below B0 w w' ∧ ∃ s' r' way' put' taken' A n c A2 n2 c2 A3 n3 c3 A4 m4 c4 A5 m5 c5 A6 m6 c6, PM B0 g w' s' r' way' put' taken' A n c A2 n2 c2 A3 n3 c3 A4 m4 c4 A5 m5 c5 A6 m6 c6 ∧ SInv σ room s' r' way' put' taken' ∧ EX s' r' way' ∧ m4 ≤ n4 + 8 ∧ m5 ≤ n5 + 1
theorem i64_inE {x : Int} (h0 : 0 ≤ x) (h1 : x ≤ 9223372036854775807) : IntKind.i64.wrap x = x := by simp [IntKind.wrap, IntKind.signed, IntKind.bits]; omega
section
variable {B0 g : Nat} {σ room : Int} {w w' w1 w2 : World} {s : SC} {r : RC} {way : List PK} {put taken : List BC} {A : Option Addr} {n c : Nat} {A2 : Option Addr} {n2 c2 : Nat} {A3 : Option Addr} {n3 c3 : Nat} {A4 : Option Addr} {n4 c4 : Nat} {A5 : Option Addr} {n5 c5 : Nat} {A6 : Option Addr} {n6 c6 : Nat}
theorem DoesC.mk {e : Ending} {m4 m5 : Nat} (he : e = .returned (.bool true)) (hb : Below B0 w w') (hp : PM B0 g w' s r way put taken A n c A2 n2 c2 A3 n3 c3 A4 n4 c4 A5 n5 c5 A6 n6 c6) (hi : SInv σ room s r way put taken) (hx : EX s r way) (h4 : n4 ≤ m4 + 8) (h5 : n5 ≤ m5 + 1) : DoesC B0 g σ room m4 m5 w e w' :=
 ⟨he, hb, s, r, way, put, taken, A, n, c, A2, n2, c2, A3, n3, c3, A4, n4, c4, A5, n5, c5, A6, n6, c6, hp, hi, hx, h4, h5⟩
theorem PM.fence (h : PM B0 g w s r way put taken A n c A2 n2 c2 A3 n3 c3 A4 n4 c4 A5 n5 c5 A6 n6 c6) (hs : w.heap.size ≤ w'.heap.size) {b : Nat} (hb : PF w g A4 A5 A6 b ∨ w.heap.size ≤ b) (hl : b < w'.heap.size) : PF w' g A4 A5 A6 b := by
 obtain ⟨b4, b5, b6⟩ := h.base4
 have hg := h.blk.lt
 rcases hb with hb | hb
 · exact PF.up hs hb
 · exact ⟨hl, by omega, fun e => by have := (b4 b e).2; omega, fun e => by have := (b5 b e).2; omega, fun e => by have := (b6 b e).2; omega⟩
/-- what link.sends answered, a sender that may be -/
theorem PM.sends (h : PM B0 g w s r way put taken A n c A2 n2 c2 A3 n3 c3 A4 n4 c4 A5 n5 c5 A6 n6 c6) {E : Int} {s2 : SC} {C : Array Value} {N : Int} (ho : SendsO (PF w g A4 A5 A6) s E s2 noX noY w C N w') (hs : sendB s = true) :
 Below w.heap.size w w' ∧ ((E ≠ 0 ∧ C = zeroS.cells none 0 0 ∧ N = E) ∨ (E = 0 ∧ N = 0 ∧ ∃ A7 n7 c7, C = s2.cells A7 n7 c7 ∧ (n7 ≤ c7 ∧ c7 ≤ 9223372036854775807) ∧ LB3.rd w' (PF w' g A4 A5 A6) A7 n7 s2.q)) := by
 unfold SendsO at ho
 rw [if_pos hs] at ho
 obtain ⟨hc, _, ho⟩ := ho
 have q : Below w.heap.size w w' := Chg.bel (Below.refl w.heap.size w) hc (fun b _ hx => hx.elim) (Nat.le_refl _)
 refine ⟨q, ho.imp id ?_⟩
 rintro ⟨hE, hN, A7, n7, c7, hC, hown⟩
 exact ⟨hE, hN, A7, n7, c7, hC, Lay.own_caps hown, Lay.own_rd hown (fun b h1 h2 => h.fence q.size (.inr h1) h2) (fun b hb hl => h.fence q.size (hb.2.imp id (fun h9 => by omega)) hl)⟩
end
/-- a row of the pair's own behind an append -/
structure AppY {α : Type} (L : Lay α) (e : TypeId) (W0 : World) (B0 g : Nat) (Ai A4 A5 A6 : Option Addr) (xs : List α) (X : Option Addr) (m x : Nat) (w' : World) : Prop where
 ch : Chg (fun k => ob Ai = some k) W0 w'
 own : L.ownO e w' B0 (PF w' g A4 A5 A6) X m x xs
 at_ : ∀ k, ob X = some k → ob Ai = some k ∨ W0.heap.size ≤ k
theorem AppY.bel {α : Type} {L : Lay α} {e : TypeId} {W0 : World} {B0 g : Nat} {Ai A4 A5 A6 : Option Addr} {xs : List α} {X : Option Addr} {m x : Nat} {wq w' : World} (h : AppY L e W0 B0 g Ai A4 A5 A6 xs X m x wq) (hA : ∀ k, ob Ai = some k → B0 ≤ k ∧ k < W0.heap.size) (hg : wq.grownBy w' (some g)) (g0 : B0 ≤ g) (hB : B0 ≤ W0.heap.size) : Below B0 W0 w' := by
 refine Chg.bel (X := fun k => ob Ai = some k ∨ k = g) (Below.refl B0 W0) ((h.ch.weak (fun b _ hx => .inl hx)).grown hg (fun k e => .inl (.inr (Option.some.inj e).symm))) (fun b _ hx => ?_) hB
 rcases hx with hx | hx
 · exact (hA b hx).1
 · rw [hx]; exact g0
section
variable {B0 g : Nat} {w w' w1 w2 : World} {s : SC} {r : RC} {way : List PK} {put taken : List BC} {A : Option Addr} {n c : Nat} {A2 : Option Addr} {n2 c2 : Nat} {A3 : Option Addr} {n3 c3 : Nat} {A4 : Option Addr} {n4 c4 : Nat} {A5 : Option Addr} {n5 c5 : Nat} {A6 : Option Addr} {n6 c6 : Nat}
theorem PM.app4 (h : PM B0 g w s r way put taken A n c A2 n2 c2 A3 n3 c3 A4 n4 c4 A5 n5 c5 A6 n6 c6) {w9 : World} (q : Below w.heap.size w w9) {Y : Option Addr} {k d : Nat} {ys : List PK} (hy : LP7.rd w9 (PF w9 g A4 A5 A6) Y k ys) (hk : n4 + k ≤ 1000000) (hB : B0 ≤ w.heap.size) :
 ∃ X x w8, (Builtin.append_ #[50, 50] 50 #[.slice A4 n4 c4, .slice Y k d]).run Try.prog w9 = .ok (.slice X (n4 + k) x) w8 ∧ AppY LP7 47 w B0 g A4 A4 A5 A6 (way ++ ys) X (n4 + k) x w8 := by
 have hP := h.below q
 obtain ⟨X, x, w8, hrun, ho, hg, hat⟩ := run_appO (P := Try.prog) (w := w9) 50 50 _ 7 72 Try.underlying50 infoP rfl rfl (by decide) Y k d ys hP.wy hy (fun b hb _ => ⟨hb, by rw [ob_slice]; exact hb.2.2.1⟩) (fun b hb => hb.1) (by omega) (by unfold maxLen; omega) (Nat.le_trans hB q.size)
 rw [ob_slice] at hg
 rw [ob_slice, ob_slice] at hat
 refine ⟨X, x, w8, hrun, (Chg.of_below q).grown hg (fun k e => .inl e), Lay.ownO_weak2 (fun b hb _ hl => ⟨hl, hb.2⟩) ho, fun k e => ?_⟩
 rcases hat with hat | ⟨j, hat, hj⟩
 · rw [hat] at e; exact .inl e
 · rw [hat] at e; injection e with e; exact .inr (by have := q.size; omega)
theorem PM.app5 (h : PM B0 g w s r way put taken A n c A2 n2 c2 A3 n3 c3 A4 n4 c4 A5 n5 c5 A6 n6 c6) {w9 : World} (q : Below w.heap.size w w9) {Y : Option Addr} {k d : Nat} {ys : List BC} (hy : LB3.rd w9 (PF w9 g A4 A5 A6) Y k ys) (hk : n5 + k ≤ 1000000) (hB : B0 ≤ w.heap.size) :
 ∃ X x w8, (Builtin.append_ #[27, 27] 27 #[.slice A5 n5 c5, .slice Y k d]).run Try.prog w9 = .ok (.slice X (n5 + k) x) w8 ∧ AppY LB3 45 w B0 g A5 A4 A5 A6 (put ++ ys) X (n5 + k) x w8 := by
 have hP := h.below q
 obtain ⟨X, x, w8, hrun, ho, hg, hat⟩ := run_appO (P := Try.prog) (w := w9) 27 27 _ 3 40 Try.underlying27 infoB rfl rfl (by decide) Y k d ys hP.pt hy (fun b hb _ => ⟨hb, by rw [ob_slice]; exact hb.2.2.2.1⟩) (fun b hb => hb.1) (by omega) (by unfold maxLen; omega) (Nat.le_trans hB q.size)
 rw [ob_slice] at hg
 rw [ob_slice, ob_slice] at hat
 refine ⟨X, x, w8, hrun, (Chg.of_below q).grown hg (fun k e => .inl e), Lay.ownO_weak2 (fun b hb _ hl => ⟨hl, hb.2⟩) ho, fun k e => ?_⟩
 rcases hat with hat | ⟨j, hat, hj⟩
 · rw [hat] at e; exact .inl e
 · rw [hat] at e; injection e with e; exact .inr (by have := q.size; omega)
theorem PM.app6 (h : PM B0 g w s r way put taken A n c A2 n2 c2 A3 n3 c3 A4 n4 c4 A5 n5 c5 A6 n6 c6) {w9 : World} (q : Below w.heap.size w w9) {Y : Option Addr} {k d : Nat} {ys : List BC} (hy : LB3.rd w9 (PF w9 g A4 A5 A6) Y k ys) (hk : n6 + k ≤ 1000000) (hB : B0 ≤ w.heap.size) :
 ∃ X x w8, (Builtin.append_ #[27, 27] 27 #[.slice A6 n6 c6, .slice Y k d]).run Try.prog w9 = .ok (.slice X (n6 + k) x) w8 ∧ AppY LB3 45 w B0 g A6 A4 A5 A6 (taken ++ ys) X (n6 + k) x w8 := by
 have hP := h.below q
 obtain ⟨X, x, w8, hrun, ho, hg, hat⟩ := run_appO (P := Try.prog) (w := w9) 27 27 _ 3 40 Try.underlying27 infoB rfl rfl (by decide) Y k d ys hP.tk hy (fun b hb _ => ⟨hb, by rw [ob_slice]; exact hb.2.2.2.2⟩) (fun b hb => hb.1) (by omega) (by unfold maxLen; omega) (Nat.le_trans hB q.size)
 rw [ob_slice] at hg
 rw [ob_slice, ob_slice] at hat
 refine ⟨X, x, w8, hrun, (Chg.of_below q).grown hg (fun k e => .inl e), Lay.ownO_weak2 (fun b hb _ hl => ⟨hl, hb.2⟩) ho, fun k e => ?_⟩
 rcases hat with hat | ⟨j, hat, hj⟩
 · rw [hat] at e; exact .inl e
 · rw [hat] at e; injection e with e; exact .inr (by have := q.size; omega)
end
end Go.Proofs.Ytojghgbaiiajfaa
/- Deeds as data in memory. Conditions: none. -/
namespace Go.Proofs.Ytojghgbaiiajfaa
open Go.RowKit
structure DC where
 kind : Int
 pick : Int
 stays : Bool
 row : List VV
def LD4 : Lay DC where
 size := 4
 rep := fun w F a cs => ∃ R rn rc, cs = [.int .i64 a.kind, .int .i64 a.pick, .bool a.stays, .slice R rn rc] ∧ rn ≤ rc ∧ rc ≤ 9223372036854775807 ∧ LV.rd w F R rn a.row
 len := fun h => by obtain ⟨R, rn, rc, rfl, _⟩ := h; rfl
 one := fun h u hu => by obtain ⟨R, rn, rc, rfl, _⟩ := h; simp at hu; rcases hu with rfl | rfl | rfl | rfl <;> rfl
 keep := fun hk h => by obtain ⟨R, rn, rc, e, h1, h2, hr⟩ := h; exact ⟨R, rn, rc, e, h1, h2, Lay.rd_keep hk hr⟩
 weak := fun hk h => by obtain ⟨R, rn, rc, e, h1, h2, hr⟩ := h; exact ⟨R, rn, rc, e, h1, h2, Lay.rd_weak hk hr⟩
structure SDP (w : World) (F : Nat → Prop) (p : Addr) (a : DC) (R : Option Addr) (rn rc : Nat) : Prop where
 c0 : w.cell? p = some (.int .i64 a.kind)
 c1 : w.cell? ⟨p.block, p.off + 1, none⟩ = some (.int .i64 a.pick)
 c2 : w.cell? ⟨p.block, p.off + 2, none⟩ = some (.bool a.stays)
 c3 : w.cell? ⟨p.block, p.off + 3, none⟩ = some (.slice R rn rc)
 nc : rn ≤ rc
 cm : rc ≤ 9223372036854775807
 rd : LV.rd w F R rn a.row
theorem LD4_at {w : World} {F : Nat → Prop} {A : Option Addr} {n i : Nat} {xs : List DC} (h : LD4.rd w F A n xs) (hi : i < n) : ∃ ad s R rn rc, A = some ad ∧ xs[i]? = some s ∧ (ad.add (i * 4)).block < w.heap.size ∧ SDP w F (ad.add (i * 4)) s R rn rc := by
 obtain ⟨ad, s, cs, e, hx, hb, _, ⟨R, rn, rc, rfl, h1, h2, hr⟩, hc⟩ := Lay.rd_at h hi
 exact ⟨ad, s, R, rn, rc, e, hx, by rw [block_of_add]; exact hb, ⟨hc 0 _ rfl, (by rw [← addr_more _ _ 1 (by omega)]; exact hc 1 _ rfl), (by rw [← addr_more _ _ 2 (by omega)]; exact hc 2 _ rfl), (by rw [← addr_more _ _ 3 (by omega)]; exact hc 3 _ rfl), h1, h2, hr⟩⟩
end Go.Proofs.Ytojghgbaiiajfaa
/- The program is laid out. Conditions: none. -/
namespace Go.Proofs.Ytojghgbaiiajfaa
open Go.ChangeShapes Go.WideShapes Go.ChangeAt Go.RowKit Go.Deep
theorem Try.own : ownKnob Try.prog.godebug = none := by kernel_rfl
theorem Try.laidOut : laidOutB Try.prog = true := by kernel_rfl
end Go.Proofs.Ytojghgbaiiajfaa
/- Arguments: a sender, a receiver, packets. Conditions: none. -/
namespace Go.Proofs.Ytojghgbaiiajfaa
open Go.ChangeShapes Go.WideShapes Go.ChangeAt Go.RowKit Go.Deep
theorem opens_val : Opens Try.prog 142 LV (fun _ => True) :=
 opens_as (opens_struct Try.underlying142 (by kernel_rfl)
  (opensAt_cons 0 3 (by kernel_rfl) (opens_int Try.underlying3 (by kernel_rfl))
   (opensAt_cons 1 2 (by kernel_rfl) (opens_int Try.underlying2 (by kernel_rfl))
    (opensAt_cons 2 26 (by kernel_rfl) (opens_int Try.underlying26 (by kernel_rfl))
     (opensAt_last 3 9 (by kernel_rfl) (opens_str Try.underlying9 (by kernel_rfl))))))) rfl
  (fun w a cs h g => by
   obtain ⟨k, n, u, s⟩ := a
   obtain ⟨_, _, rfl, rfl, _, _, rfl, rfl, _, _, rfl, rfl, rfl⟩ := h
   exact ⟨⟨k, n, u, s⟩, rfl, trivial⟩)
end Go.Proofs.Ytojghgbaiiajfaa
/- (*pair).does: rows are put. Conditions: the pair is sound. -/
namespace Go.Proofs.Ytojghgbaiiajfaa
open Go.RowKit
set_option maxRecDepth 100000 in
set_option maxHeartbeats 16000000 in
theorem does_put (B0 g : Nat) (w : World) (σ room : Int) (s : SC) (r : RC) (way : List PK) (put taken : List BC) (A : Option Addr) (n c : Nat) (A2 : Option Addr) (n2 c2 : Nat) (A3 : Option Addr) (n3 c3 : Nat) (A4 : Option Addr) (n4 c4 : Nat) (A5 : Option Addr) (n5 c5 : Nat) (A6 : Option Addr) (n6 c6 : Nat) (kind pick k : Int) (stays : Bool) (row : List VV) (R : Option Addr) (rn rc : Nat)
 (h : PM B0 g w s r way put taken A n c A2 n2 c2 A3 n3 c3 A4 n4 c4 A5 n5 c5 A6 n6 c6) (hi : SInv σ room s r way put taken) (hx : EX s r way) (hrow : LV.rd w (PF w g A4 A5 A6) R rn row) (hrn : rn ≤ rc ∧ rc ≤ 9223372036854775807) (hB : B0 ≤ w.heap.size) (hn4 : n4 ≤ 1000) (hn5 : n5 ≤ 1000) (hk : Int.tmod (IntKind.u64.wrap kind) 11 = k) (hk2 : k < 2) :
 Calls Try.prog 40 #[.pointer (some ⟨g, 0, none⟩), .agg (deedC kind pick stays R rn rc)] w (DoesC B0 g σ room n4 n5 w) := by
 have q1 := bl_al (Below.refl w.heap.size w) (.cells (deedC kind pick stays R rn rc) 91)
 have HP1 := Lib.hid (h.below q1)
 have HD1 := Lib.hid (Blk.new w 91 (deedC kind pick stays R rn rc))
 have HROW1 := Lib.hid (Lay.rd_weak (fun _ hb _ => PF.up q1.size hb) (Lay.rd_below hrow q1))
 have HQ1 := Lib.hid q1
 have HKK := Lib.hid hk
 have HI := Lib.hid hi
 have HX := Lib.hid hx
 have HSB := Lib.hid ((sp_iff s).2 hi.sb)
 have HRB := Lib.hid ((rp_iff r).2 hi.rb)
 have hb0 : 0 ≤ s.base := by have := hi.sb.b1; omega
 have hb1 : B0 ≤ w.heap.size + 1 := by omega
 have hsz : (w.alloc (.cells (deedC kind pick stays R rn rc) 91)).heap.size = w.heap.size + 1 := World.size_alloc _ _
 have HB1 := Lib.hid (show B0 ≤ (w.alloc (.cells (deedC kind pick stays R rn rc) 91)).heap.size by rw [hsz]; exact hb1)
 have hcq := h.cq
 have hca := h.ca
 have hcb := h.cb
 have htl : n6 ≤ n5 := by
  have h1 := hi.tn.2
  have h2 := Lay.ownO_len h.pt
  have h3 := Lay.ownO_len h.tk
  omega
 clear q1 h hi hx hrow hk hsz hb1
 go_enter Try.func40, Try.ntmps40
 go_upto_region 1 with fail
 generalize w.alloc (.cells (deedC kind pick stays R rn rc) 91) = w1 at *
 refine wp_region_ps0 .text (S := fun _ _ w' => w' = w1) (by kernel_rfl) ?spswg1 ?ppswg1
 case spswg1 =>
  rfl
 refine Pz 0 (some 23) (.pointer (some ⟨w.heap.size, 0, none⟩)) rfl rfl (by exact StepS.pure nP rfl fun _ => rfl) ?_
 try simp only [Act.put, sA, sZ, sS]
 refine Pz 1 (some 24) (.int .i64 (kind)) rfl rfl ?ywg1_3 ?rwg1_3
 case ywg1_3 =>
  refine StepS.read [] (by kernel_rfl) nP (by rfl) (fun L9 m9 w9 hSh hAt hDn hS => ?_)
  have hT : Below w1.heap.size w1 w9 := by rw [show w9 = w1 from hS]; exact Below.refl _ _
  have x0 : w9.cell? ⟨w.heap.size, 0, none⟩ = some (.int .i64 (kind)) := (HD1.out.ca hT).cell 0
  clear hT hS
  go_simp
  try rfl
 try simp only [Act.put, sA, sZ, sS]
 refine Pz 2 (some 25) (.int .u64 (IntKind.u64.wrap (kind))) rfl rfl (by exact StepS.pure nP rfl fun _ => rfl) ?_
 try simp only [Act.put, sA, sZ, sS]
 refine Pz 3 (some 26) (.int .u64 (k)) rfl rfl ?ywg1_5 ?rwg1_5
 case ywg1_5 =>
  refine StepS.pure nP (by rfl) (fun w9 => ?_)
  refine Eq.trans ?_ (congrArg (fun z => Result.ok (Next.value (Value.int .u64 z)) w9) HKK.out)
  first | rfl | (go_simp; done) | (go_simp; rfl)
 try simp only [Act.put, sA, sZ, sS]
 refine Pz 4 (some 5) (.int .u64 (k)) rfl rfl (by exact StepS.pure nP rfl fun _ => rfl) ?_
 try simp only [Act.put, sA, sZ, sS]
 refine Ps.done (by kernel_rfl) (fun wg1 hS => ?_) _
 obtain rfl : w1 = wg1 := (show wg1 = w1 from hS).symm
 clear hS
 have y13 := HP1.out.blk.cell 13
 go_upto_if 33 with fail
 clear y13
 go_cut [6, 7] (fun at9 n9 wx => (∃ i : Int, at9 = .int .i64 i) ∧ n9 = .int .i64 (n4 : Int) ∧ wx = w1)
 case first =>
  by_cases hn : n4 = 0
  · have hn0 : (0 < n4) = False := by simp [hn]
    go_wp2_with fail
    go_meet
    exact ⟨⟨_, rfl⟩, by simp [hn], rfl⟩
  · have hn0 : 0 < n4 := by omega
    obtain ⟨i, hi9, hin⟩ : ∃ i : Nat, Int.tmod (IntKind.u64.wrap pick) (n4 : Int) = (i : Int) ∧ i < n4 := by
     have h0 : 0 ≤ IntKind.u64.wrap pick := by simp [IntKind.wrap, IntKind.signed, IntKind.bits]; omega
     refine ⟨(Int.tmod (IntKind.u64.wrap pick) (n4 : Int)).toNat, ?_, ?_⟩
     · have := Int.tmod_nonneg (n4 : Int) h0; omega
     · have h1 := Int.tmod_nonneg (n4 : Int) h0; have h2 := Int.tmod_lt_of_pos (IntKind.u64.wrap pick) (show (0 : Int) < n4 by omega); omega
    have HIX := Lib.hid hi9
    have hnz : ¬ n4 = 0 := by omega
    have HW1 := Lib.hid (show IntKind.u64.wrap (n4 : Int) = (n4 : Int) from u64_in (by omega) (by omega))
    have HW2 := Lib.hid (show IntKind.i64.wrap (i : Int) = (i : Int) from i64_inE (by omega) (by omega))
    clear hi9
    have y13 := HP1.out.blk.cell 13
    go_upto_region 5 with fail
    clear y13
    refine wp_region_ps0 .text (S := fun _ _ w' => w' = w1) (by kernel_rfl) ?spswg7 ?ppswg7
    case spswg7 =>
     rfl
    refine Pz 0 (some 34) (.pointer (some ⟨w.heap.size, 1, none⟩)) rfl rfl (by exact StepS.pure nP rfl fun _ => rfl) ?_
    try simp only [Act.put, sA, sZ, sS]
    refine Pz 1 (some 35) (.int .i64 (pick)) rfl rfl ?ywg7_9 ?rwg7_9
    case ywg7_9 =>
     refine StepS.read [] (by kernel_rfl) nP (by rfl) (fun L9 m9 w9 hSh hAt hDn hS => ?_)
     have hT : Below w1.heap.size w1 w9 := by rw [show w9 = w1 from hS]; exact Below.refl _ _
     have x0 : w9.cell? ⟨w.heap.size, 1, none⟩ = some (.int .i64 (pick)) := (HD1.out.ca hT).cell 1
     clear hT hS
     go_simp
     try rfl
    try simp only [Act.put, sA, sZ, sS]
    refine Pz 2 (some 36) (.int .u64 (IntKind.u64.wrap (pick))) rfl rfl (by exact StepS.pure nP rfl fun _ => rfl) ?_
    try simp only [Act.put, sA, sZ, sS]
    refine Pz 3 (some 37) (.int .i64 ((n4 : Int))) rfl rfl (by exact StepS.pure nP rfl fun _ => rfl) ?_
    try simp only [Act.put, sA, sZ, sS]
    refine Pz 4 (some 38) (.int .u64 ((n4 : Int))) rfl rfl ?ywg7_12 ?rwg7_12
    case ywg7_12 =>
     refine StepS.pure nP (by rfl) (fun w9 => ?_)
     refine Eq.trans ?_ (congrArg (fun z => Result.ok (Next.value (Value.int .u64 z)) w9) HW1.out)
     first | rfl | (go_simp; done) | (go_simp; rfl)
    try simp only [Act.put, sA, sZ, sS]
    refine Pz 5 (some 39) (.int .u64 ((i : Int))) rfl rfl ?ywg7_13 ?rwg7_13
    case ywg7_13 =>
     refine StepS.pure nP (by rfl) (fun w9 => ?_)
     refine Eq.trans ?_ (congrArg (fun z => Result.ok (Next.value (Value.int .u64 z)) w9) HIX.out)
     first | rfl | (go_simp; done) | (go_simp; rfl)
    try simp only [Act.put, sA, sZ, sS]
    refine Pz 6 (some 40) (.int .i64 ((i : Int))) rfl rfl ?ywg7_14 ?rwg7_14
    case ywg7_14 =>
     refine StepS.pure nP (by rfl) (fun w9 => ?_)
     refine Eq.trans ?_ (congrArg (fun z => Result.ok (Next.value (Value.int .i64 z)) w9) HW2.out)
     first | rfl | (go_simp; done) | (go_simp; rfl)
    try simp only [Act.put, sA, sZ, sS]
    refine Pz 7 (some 6) (.int .i64 ((i : Int))) rfl rfl (by exact StepS.pure nP rfl fun _ => rfl) ?_
    try simp only [Act.put, sA, sZ, sS]
    refine Ps.done (by kernel_rfl) (fun wg7 hS => ?_) _
    obtain rfl : w1 = wg7 := (show wg7 = w1 from hS).symm
    clear hS
    go_wp2_with fail
    go_meet
    exact ⟨⟨_, rfl⟩, rfl, rfl⟩
 case rest =>
 obtain ⟨⟨i0, rfl⟩, rfl, hw9⟩ := hcut
 obtain rfl := hw9.symm
 have x3 := HD1.out.cell 3
 go_wp2_with fail
 clear x3
 have q2 := bl_al (Below.refl w1.heap.size w1) (.cells #[.slice R rn rc] 89)
 have hr1 : LR.rd (w1.alloc (.cells #[.slice R rn rc] 89)) (fun _ => True) (some ⟨w1.heap.size, 0, none⟩) 1 [row] := rd_blk1 (Blk.new w1 89 #[.slice R rn rc]) ⟨R, rn, rc, rfl, hrn.1, hrn.2, Lay.rd_weak (fun _ _ _ => trivial) (Lay.rd_below HROW1.out q2)⟩ trivial
 refine (rowsC_any _ _ 1 1 [row] _ hr1 (by omega) (by omega)).mono ?_
 rintro e w2 ⟨RA, rk, rc2, rfl, hown, q3⟩
 have q23 := bl_ca q2 q3
 have hcr := Lay.own_caps hown
 have hs3 := q3.size
 have hs2 : (w1.alloc (.cells #[.slice R rn rc] 89)).heap.size = w1.heap.size + 1 := World.size_alloc _ _
 have HRW2 := Lib.hid (show LR.rd w2 (PF w2 g A4 A5 A6) RA rk (rowsC [row]) from Lay.own_rd hown (fun b h1 h2 => HP1.out.fence q23.size (.inr (by omega)) h2) (fun b hb hl => HP1.out.fence q23.size (.inr (by have := hb.1; omega)) hl))
 have HP2 := Lib.hid (HP1.out.below q23)
 have HQ2 := Lib.hid (bl_ca HQ1.out q23)
 have HB2 := Lib.hid (Nat.le_trans HB1.out q23.size)
 clear q2 q3 q23 hr1 hown hs3 hs2
 have y0 := HP2.out.blk.cell 0
 have y1 := HP2.out.blk.cell 1
 have y2 := HP2.out.blk.cell 2
 have y3 := HP2.out.blk.cell 3
 have y4 := HP2.out.blk.cell 4
 have y5 := HP2.out.blk.cell 5
 have y6 := HP2.out.blk.cell 6
 go_wp2_with fail
 refine (put_any (PF w2 g A4 A5 A6) s A n c (rowsC [row]) RA rk rc2 w2 (fun k hk => hk.1) HP2.out.q HRW2.out (by omega) (by omega) hb0).mono ?_
 rintro e w3 ⟨T0, A', n', c', N, rfl, ho⟩
 obtain ⟨q4, ho⟩ := HP2.out.sends ho HSB.out
 obtain ⟨rows, hrows⟩ : ∃ rows, rows = rowsC [row] := ⟨_, rfl⟩
 rw [← hrows] at HRW2 ho
 clear hrows y0 y1 y2 y3 y4 y5 y6
 obtain ⟨E, hE⟩ : ∃ E, E = put1E s rows := ⟨_, rfl⟩
 rw [← hE] at ho
 have HE := Lib.hid hE
 clear hE
 rcases ho with ⟨h0, hC, rfl⟩ | ⟨h0, rfl, A7, n7, c7, hC, hcap, hrd⟩
 · rw [hC]
   have q5 := bl_al q4 (.cells (zeroS.cells none 0 0) 29)
   have HQ5 := Lib.hid (bl_ca HQ2.out q5)
   have HP5 := Lib.hid (HP2.out.below q5)
   have hN : (N == 0) = false := by simpa using h0
   clear hC q4 q5 h0
   go_wp2_with fail
   go_ret
   exact DoesC.mk rfl (HQ5.out.mono hB) HP5.out HI.out HX.out (by omega) (by omega)
 obtain ⟨T, hT⟩ : ∃ T, T = putR s ⟨rows, false, 0⟩ := ⟨_, rfl⟩
 rw [← hT] at hC hrd
 have HT := Lib.hid hT
 rw [hC]
 have q5 := bl_al q4 (.cells (T.cells A7 n7 c7) 29)
 have HE0 := Lib.hid h0
 have HQ5 := Lib.hid (bl_ca HQ2.out q5)
 have HP5 := Lib.hid (HP2.out.below q5)
 have HB5 := Lib.hid (Nat.le_trans HB2.out q5.size)
 have HV5 := Lib.hid (Blk.new w3 29 (T.cells A7 n7 c7))
 have q6 := bl_al (Below.refl w3.heap.size w3) (.cells (T.cells A7 n7 c7) 29)
 have HRD5 := Lib.hid (Lay.rd_weak (fun _ hb _ => PF.up q6.size hb) (Lay.rd_below hrd q6))
 have HRW5 := Lib.hid (Lay.rd_weak (fun _ hb _ => PF.up q5.size hb) (Lay.rd_below HRW2.out q5))
 have HVN := Lib.hid (show ob A5 ≠ some w3.heap.size from fun e => by have := (HP2.out.base4.2.1 _ e).2; have := q4.size; omega)
 clear hC hT h0 q4 q5 q6 hrd
 go_upto_region 10 with fail
 generalize w3.alloc (.cells (T.cells A7 n7 c7) 29) = w5 at *
 refine wp_region_ps (S := SeqN [9, 10, 13, 16] (fun z mm w' => match z with | 0 => Below w5.heap.size w5 w' | 1 => Below w5.heap.size w5 w' ∧ ∃ gb, mm 9 = .slice (some ⟨gb, 0, none⟩) 1 1 ∧ w5.heap.size ≤ gb ∧ Blk w' gb 45 #[.slice RA rk rc2, .bool (false), .int .u64 (0)] | 2 => ∃ X x, mm 10 = .slice X (n5 + 1) x ∧ AppY LB3 45 w5 B0 g A5 A4 A5 A6 (put ++ [⟨rows, false, 0⟩]) X (n5 + 1) x w' | 3 => ∃ X x wq, mm 10 = .slice X (n5 + 1) x ∧ AppY LB3 45 w5 B0 g A5 A4 A5 A6 (put ++ [⟨rows, false, 0⟩]) X (n5 + 1) x wq ∧ wq.grownBy w' (some g) ∧ Blk w' g 93 (pairC T r A7 n7 c7 A2 n2 c2 A3 n3 c3 (.slice A4 n4 c4) (.slice A5 n5 c5) (.slice A6 n6 c6)) | _ => ∃ X x wq, mm 10 = .slice X (n5 + 1) x ∧ AppY LB3 45 w5 B0 g A5 A4 A5 A6 (put ++ [⟨rows, false, 0⟩]) X (n5 + 1) x wq ∧ wq.grownBy w' (some g) ∧ Blk w' g 93 (pairC T r A7 n7 c7 A2 n2 c2 A3 n3 c3 (.slice A4 n4 c4) (.slice X (n5 + 1) x) (.slice A6 n6 c6)))) (by kernel_rfl) ?spswg16 ?ppswg16
 case spswg16 =>
  exact SeqN.start (by decide) (Below.refl _ _).drew
 refine Pz 0 (some 59) (.pointer (some ⟨g, 0, none⟩)) rfl rfl (by exact StepS.pure (SeqN.pass (by decide)) rfl fun _ => rfl) ?_
 try simp only [Act.put, sA, sZ, sS]
 refine Pz 1 (some 60) (.pointer (some ⟨g, 0, none⟩)) rfl rfl (by exact StepS.pure (SeqN.pass (by decide)) rfl fun _ => rfl) ?_
 try simp only [Act.put, sA, sZ, sS]
 refine Pz 2 (some 61) (.agg #[.int .u32 (T.ses), .int .u64 (T.base), .slice A7 n7 c7, .int .u64 (T.sent), .int .u64 (T.lim), .int .i64 (T.timer), .bool (T.ended)]) rfl rfl ?ywg16_19 ?rwg16_19
 case ywg16_19 =>
  refine StepS.read [] (by kernel_rfl) (SeqN.pass (by decide)) (by rfl) (fun L9 m9 w9 hSh hAt hDn hS => ?_)
  have hT : Chg (fun k => ob A5 = some k) w5 w9 := SeqN.le [9, 10] [13, 16] (T := fun w9 => Chg (fun k => ob A5 = some k) w5 w9) (post_no hSh hDn (by kernel_rfl)) (fun z _ _ hz h => by match z, hz, h with | 0, _, h => exact Chg.of_below h | 1, _, h => exact Chg.of_below h.1 | 2, _, h => exact (let ⟨_, _, _, hy⟩ := h; hy.ch) | _ + 3, hz, _ => exact absurd hz (by simp)) hS
  have x0 : w9.cell? ⟨w3.heap.size, 0, none⟩ = some (.int .u32 (T.ses)) := (HV5.out.chg hT HVN.out).cell 0
  have x1 : w9.cell? ⟨w3.heap.size, 1, none⟩ = some (.int .u64 (T.base)) := (HV5.out.chg hT HVN.out).cell 1
  have x2 : w9.cell? ⟨w3.heap.size, 2, none⟩ = some (.slice A7 n7 c7) := (HV5.out.chg hT HVN.out).cell 2
  have x3 : w9.cell? ⟨w3.heap.size, 3, none⟩ = some (.int .u64 (T.sent)) := (HV5.out.chg hT HVN.out).cell 3
  have x4 : w9.cell? ⟨w3.heap.size, 4, none⟩ = some (.int .u64 (T.lim)) := (HV5.out.chg hT HVN.out).cell 4
  have x5 : w9.cell? ⟨w3.heap.size, 5, none⟩ = some (.int .i64 (T.timer)) := (HV5.out.chg hT HVN.out).cell 5
  have x6 : w9.cell? ⟨w3.heap.size, 6, none⟩ = some (.bool (T.ended)) := (HV5.out.chg hT HVN.out).cell 6
  clear hT hS
  go_simp
  try rfl
 try simp only [Act.put, sA, sZ, sS]
 refine Pz 3 (some 62) (.pointer (some ⟨g, 0, none⟩)) rfl rfl (by exact StepS.pure (SeqN.pass (by decide)) rfl fun _ => rfl) ?_
 try simp only [Act.put, sA, sZ, sS]
 refine Pz 4 (some 63) (.pointer (some ⟨g, 0, none⟩)) rfl rfl (by exact StepS.pure (SeqN.pass (by decide)) rfl fun _ => by first | rfl | (go_simp; done) | (go_simp; rfl)) ?_
 try simp only [Act.put, sA, sZ, sS]
 refine Pz 5 (some 64) (.pointer (some ⟨g, 14, none⟩)) rfl rfl (by exact StepS.pure (SeqN.pass (by decide)) rfl fun _ => rfl) ?_
 try simp only [Act.put, sA, sZ, sS]
 refine Pz 6 (some 65) (.slice A5 n5 c5) rfl rfl ?ywg16_23 ?rwg16_23
 case ywg16_23 =>
  refine StepS.read [] (by kernel_rfl) (SeqN.pass (by decide)) (by rfl) (fun L9 m9 w9 hSh hAt hDn hS => ?_)
  have hT : Chg (fun k => ob A5 = some k) w5 w9 := SeqN.le [9, 10] [13, 16] (T := fun w9 => Chg (fun k => ob A5 = some k) w5 w9) (post_no hSh hDn (by kernel_rfl)) (fun z _ _ hz h => by match z, hz, h with | 0, _, h => exact Chg.of_below h | 1, _, h => exact Chg.of_below h.1 | 2, _, h => exact (let ⟨_, _, _, hy⟩ := h; hy.ch) | _ + 3, hz, _ => exact absurd hz (by simp)) hS
  have x0 : w9.cell? ⟨g, 14, none⟩ = some (.slice A5 n5 c5) := (HP5.out.blk.chg hT HP5.out.dg.2.1).cell 14
  clear hT hS
  go_simp
  try rfl
 try simp only [Act.put, sA, sZ, sS]
 refine Pz 7 (some 66) (.slice RA rk rc2) rfl rfl (by exact StepS.pure (SeqN.pass (by decide)) rfl fun _ => rfl) ?_
 try simp only [Act.put, sA, sZ, sS]
 refine Pz 8 (some 67) (.agg #[.slice RA rk rc2, .bool (false), .int .u64 (0)]) rfl rfl (by exact StepS.pure (SeqN.pass (by decide)) rfl fun _ => by first | rfl | (go_simp; done) | (go_simp; rfl)) ?_
 try simp only [Act.put, sA, sZ, sS]
 refine Ps.one (k := 9) (d := some 68) rfl rfl (by kernel_rfl) (TurnS.value (V := fun v => ∃ gb, v = .slice (some ⟨gb, 0, none⟩) 1 1) [] (by kernel_rfl) (by rfl) (fun L9 m9 w9 hSh hAt hDn hS => ?cwg16_26)) (fun v9 hVv9 => ?rwg16_26)
 case cwg16_26 =>
  have hT := SeqN.at_ (m0 := m9) (m1 := m9) [] [10, 13, 16] hSh (fun d hd => by cases hd) hDn (by kernel_rfl) hS
  refine ⟨.slice (some ⟨w9.heap.size, 0, none⟩) 1 1, w9.alloc (.cells #[.slice RA rk rc2, .bool (false), .int .u64 (0)] 45), ?_, ⟨_, rfl⟩, SeqN.set_ (m0 := m9) (m1 := m9) [] [10, 13, 16] hSh (fun d hd => by cases hd) hDn (by kernel_rfl) (by decide) (by decide) ⟨bl_al hT _, _, upd_same _ _ _, hT.size, Blk.new _ _ _⟩⟩
  clear hT hS
  go_simp
 try simp only [Act.put, sA, sZ, sS]
 obtain ⟨gb, rfl⟩ := hVv9
 refine Ps.one (k := 10) (d := some 69) rfl rfl (by kernel_rfl) (TurnS.value (V := fun v => ∃ X x, v = .slice X (n5 + 1) x) [9] (by kernel_rfl) (by rfl) (fun L9 m9 w9 hSh hAt hDn hS => ?cwg16_27)) (fun v10 hVv10 => ?rwg16_27)
 case cwg16_27 =>
  obtain ⟨hT, gb2, hv, hg1, hg2⟩ := SeqN.at_ [9] [13, 16] hSh hAt hDn (by kernel_rfl) hS
  obtain rfl : gb = gb2 := by have h9 : Value.slice (some ⟨gb, 0, none⟩) 1 1 = .slice (some ⟨gb2, 0, none⟩) 1 1 := (hAt 9 (by simp)).2.symm.trans hv; simpa using h9
  have hone : LB3.rd w9 (PF w9 g A4 A5 A6) (some ⟨gb, 0, none⟩) 1 [⟨rows, false, 0⟩] := rd_blk1 hg2 ⟨RA, rk, rc2, rfl, hcr.1, hcr.2, Lay.rd_weak (fun b hb hl => HP5.out.fence hT.size (.inl hb) hl) (Lay.rd_below HRW5.out hT)⟩ (HP5.out.fence hT.size (.inr hg1) hg2.lt)
  obtain ⟨X, x, w8, hrun, hy⟩ := HP5.out.app5 hT (d := 1) hone (by omega) HB5.out
  exact ⟨_, w8, exec_append (.tmp 65) (.tmp 68) 27 rfl rfl rfl hrun, ⟨X, x, rfl⟩, SeqN.set_ [9] [13, 16] hSh hAt hDn (by kernel_rfl) (by decide) (by decide) ⟨X, x, upd_same _ _ _, hy⟩⟩
 try simp only [Act.put, sA, sZ, sS]
 obtain ⟨X, x, rfl⟩ := hVv10
 refine Pz 11 (some 70) (.pointer (some ⟨g, 0, none⟩)) rfl rfl (by exact StepS.pure (SeqN.pass (by decide)) rfl fun _ => by first | rfl | (go_simp; done) | (go_simp; rfl)) ?_
 try simp only [Act.put, sA, sZ, sS]
 refine Pz 12 (some 71) (.pointer (some ⟨g, 0, none⟩)) rfl rfl (by exact StepS.pure (SeqN.pass (by decide)) rfl fun _ => rfl) ?_
 try simp only [Act.put, sA, sZ, sS]
 refine Pz 13 none undef rfl rfl ?ywg16_30 ?rwg16_30
 case ywg16_30 =>
  refine StepS.store [9, 10] (by kernel_rfl) (by rfl) (fun L9 m9 w9 hSh hAt hDn hS => ?_)
  obtain ⟨X2, x2, hv, hy⟩ := SeqN.at_ [9, 10] [16] hSh hAt hDn (by kernel_rfl) hS
  obtain ⟨rfl, rfl⟩ : X = X2 ∧ x = x2 := by have h9 : Value.slice X (n5 + 1) x = .slice X2 (n5 + 1) x2 := (hAt 10 (by simp)).2.symm.trans hv; simpa using h9
  have hbk := HP5.out.blk.chg hy.ch HP5.out.dg.2.1
  refine (exec_store_part (w := w9) 29 (.tmp 71) (.tmp 61) (by rfl) g 0 93 (pairC s r A n c A2 n2 c2 A3 n3 c3 (.slice A4 n4 c4) (.slice A5 n5 c5) (.slice A6 n6 c6)) (T.cells A7 n7 c7) (pairC T r A7 n7 c7 A2 n2 c2 A3 n3 c3 (.slice A4 n4 c4) (.slice A5 n5 c5) (.slice A6 n6 c6)) (by rfl) (by rfl) hbk (by simp) senderI (by simp [Value.oneCell']) (by rfl)).imp fun w7 hx => ⟨hx.1, SeqN.set_ [9, 10] [16] hSh hAt hDn (by kernel_rfl) (by decide) (by decide) ⟨X, x, w9, hv, hy, hx.2.2, hx.2.1⟩⟩
 try simp only [Act.put]
 refine Pz 14 (some 72) (.pointer (some ⟨g, 0, none⟩)) rfl rfl (by exact StepS.pure (SeqN.pass (by decide)) rfl fun _ => by first | rfl | (go_simp; done) | (go_simp; rfl)) ?_
 try simp only [Act.put, sA, sZ, sS]
 refine Pz 15 (some 73) (.pointer (some ⟨g, 14, none⟩)) rfl rfl (by exact StepS.pure (SeqN.pass (by decide)) rfl fun _ => rfl) ?_
 try simp only [Act.put, sA, sZ, sS]
 refine Pz 16 none undef rfl rfl ?ywg16_33 ?rwg16_33
 case ywg16_33 =>
  refine StepS.store [9, 10, 13] (by kernel_rfl) (by rfl) (fun L9 m9 w9 hSh hAt hDn hS => ?_)
  obtain ⟨X2, x2, wq, hv, hy, hg, hbk⟩ := SeqN.at_ [9, 10, 13] [] hSh hAt hDn (by kernel_rfl) hS
  obtain ⟨rfl, rfl⟩ : X = X2 ∧ x = x2 := by have h9 : Value.slice X (n5 + 1) x = .slice X2 (n5 + 1) x2 := (hAt 10 (by simp)).2.symm.trans hv; simpa using h9
  have hN2 : Blk (w9.setCell ⟨g, 14, none⟩ (.slice X (n5 + 1) x)) g 93 (pairC T r A7 n7 c7 A2 n2 c2 A3 n3 c3 (.slice A4 n4 c4) (.slice X (n5 + 1) x) (.slice A6 n6 c6)) := by simpa using hbk.set_ 14 (.slice X (n5 + 1) x)
  have hg2 : w9.grownBy (w9.setCell ⟨g, 14, none⟩ (.slice X (n5 + 1) x)) (some g) := only_setCell (World.grownBy.refl _ _) (.inl rfl) _
  have y9 : w9.cell? ⟨g, 14, none⟩ = some (.slice A5 n5 c5) := hbk.cell 14
  have fx : w9.frozen? ⟨g, 14, none⟩ = false := hbk.frozen 14
  refine ⟨w9.setCell ⟨g, 14, none⟩ (.slice X (n5 + 1) x), ?_, SeqN.set_ [9, 10, 13] [] hSh hAt hDn (by kernel_rfl) (by decide) (by decide) ⟨X, x, wq, hv, hy, (grown_two hg hg2), hN2⟩⟩
  clear hv hy hbk hN2 hg2 hS hg
  go_simp
 try simp only [Act.put]
 refine Ps.done (by kernel_rfl) (fun wg16 hS => ?_) _
 obtain ⟨X2, x2, wq, hv, hy, hg, hbk⟩ := SeqN.fin (by rfl) hS
 clear hS
 obtain ⟨rfl, rfl⟩ : X = X2 ∧ x = x2 := by have h9 : Value.slice X (n5 + 1) x = .slice X2 (n5 + 1) x2 := hv; simpa using h9
 clear hv
 have HY := Lib.hid hy
 have HG := Lib.hid hg
 have HBK := Lib.hid hbk
 clear hy hg hbk
 obtain ⟨w8, rfl⟩ : ∃ x, x = wg16 := ⟨_, rfl⟩
 go_wp2_with fail
 go_ret
 refine DoesC.mk rfl ((HQ5.out.mono hB).trans (HY.out.bel HP5.out.base4.2.1 HG.out HP5.out.g0 HB5.out)) (HP5.out.aput HY.out.ch HY.out.own HY.out.at_ HG.out HBK.out HRD5.out hcap HP5.out.ah HP5.out.ca HP5.out.bf HP5.out.cb) ?_ ?_ (by omega) (by omega)
 · rw [HT.out]; exact HI.out.rows_ok (by rw [← HE.out]; exact HE0.out)
 · rw [HT.out]; exact HX.out.puts _
end Go.Proofs.Ytojghgbaiiajfaa
