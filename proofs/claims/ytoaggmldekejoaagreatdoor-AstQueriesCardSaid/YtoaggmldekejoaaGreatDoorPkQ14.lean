/- slices.IndexFunc and ContainsFunc over trees and selects. Conditions: the slice reads as these; what is handed over answers for each and turns no memory that was there. -/
import Derived.Test.YtoaggmldekejoaaGreatDoorPkQ13
import Derived.Deep.LoopGhost
import Derived.Deep.CutBlock
import Derived.Deep.DeepCutAuto
namespace Go.Proofs.YtoaggmldekejoaaGreatDoor
open Go.RowKit
theorem ret_intQ {k : IntKind} {a b : Int} (h : a = b) : Ending.returned (.int k a) = .returned (.int k b) := by rw [h]
def idxL {α : Type} (f : α → Bool) (xs : List α) : Int := if xs.any f then (xs.findIdx f : Int) else -1
theorem idxL_at {α : Type} {f : α → Bool} {xs : List α} {i : Nat} {x : α} (hp : xs[i]? = some x) (hx : f x = true) (hlo : ∀ (k : Nat) (q : α), k < i → xs[k]? = some q → f q = false) : idxL f xs = i := by
 obtain ⟨hl, he⟩ := List.getElem?_eq_some_iff.1 hp
 have h1 : xs.any f = true := List.any_eq_true.2 ⟨x, List.mem_of_getElem? hp, hx⟩
 have h2 : xs.findIdx f = i := (List.findIdx_eq hl).2 ⟨by rw [he]; exact hx, fun j hj => hlo j xs[j] hj (List.getElem?_eq_getElem (by omega))⟩
 unfold idxL
 rw [h1, h2]; rfl
theorem idxL_no {α : Type} {f : α → Bool} {xs : List α} (hlo : ∀ (k : Nat) (q : α), k < xs.length → xs[k]? = some q → f q = false) : idxL f xs = -1 := by
 have h1 : xs.any f = false := List.any_eq_false.2 fun p hp => by
  obtain ⟨k, hk⟩ := List.mem_iff_getElem?.1 hp
  rw [hlo k p (List.getElem?_eq_some_iff.1 hk).1 hk]
  simp
 unfold idxL
 rw [h1]; rfl
theorem idxL_has {α : Type} (f : α → Bool) (xs : List α) : decide (0 ≤ idxL f xs) = xs.any f := by
 unfold idxL
 cases xs.any f <;> simp
/-- what a select's parts lead to reads so -/
def RdS (F : Nat → Prop) (w : World) (x : QS) (I0 : Option Addr) (i0 j0 : Nat) (J0 : Option Addr) (u0 v0 : Nat) (W0 : Option Addr) (a0 b0 : Nat) (H0 : Option Addr) (e0 f0 : Nat) (G0 : Option Addr) (p0 q0 : Nat) : Prop :=
 (LQI.rd w F I0 i0 x.items ∧ i0 ≤ j0 ∧ j0 ≤ 9223372036854775807) ∧ (LQJ.rd w F J0 u0 x.joins ∧ u0 ≤ v0 ∧ v0 ≤ 9223372036854775807) ∧ (LN.rd w F W0 a0 x.wh ∧ a0 ≤ b0 ∧ b0 ≤ 9223372036854775807) ∧ (LN.rd w F H0 e0 x.hv ∧ e0 ≤ f0 ∧ f0 ≤ 9223372036854775807) ∧ LQN.rd w F G0 p0 x.grp ∧ p0 ≤ q0 ∧ q0 ≤ 9223372036854775807
theorem RdS.of {F : Nat → Prop} {w : World} {p : Addr} {x : QS} {I0 : Option Addr} {i0 j0 : Nat} {J0 : Option Addr} {u0 v0 : Nat} {W0 : Option Addr} {a0 b0 : Nat} {H0 : Option Addr} {e0 f0 : Nat} {G0 : Option Addr} {p0 q0 : Nat} (s : SQS w F p x I0 i0 j0 J0 u0 v0 W0 a0 b0 H0 e0 f0 G0 p0 q0) : RdS F w x I0 i0 j0 J0 u0 v0 W0 a0 b0 H0 e0 f0 G0 p0 q0 :=
 ⟨⟨s.r0, s.k0⟩, ⟨s.r1, s.k1⟩, ⟨s.r2, s.k2⟩, ⟨s.r3, s.k3⟩, s.r4, s.k4⟩
theorem RdS.below {F : Nat → Prop} {w w' : World} {x : QS} {I0 : Option Addr} {i0 j0 : Nat} {J0 : Option Addr} {u0 v0 : Nat} {W0 : Option Addr} {a0 b0 : Nat} {H0 : Option Addr} {e0 f0 : Nat} {G0 : Option Addr} {p0 q0 : Nat} (h : RdS F w x I0 i0 j0 J0 u0 v0 W0 a0 b0 H0 e0 f0 G0 p0 q0) (q : Below w.heap.size w w') : RdS F w' x I0 i0 j0 J0 u0 v0 W0 a0 b0 H0 e0 f0 G0 p0 q0 :=
 ⟨⟨Lay.rd_below h.1.1 q, h.1.2⟩, ⟨Lay.rd_below h.2.1.1 q, h.2.1.2⟩, ⟨Lay.rd_below h.2.2.1.1 q, h.2.2.1.2⟩, ⟨Lay.rd_below h.2.2.2.1.1 q, h.2.2.2.1.2⟩, Lay.rd_below h.2.2.2.2.1 q, h.2.2.2.2.2⟩
/-- what is handed over: a test of a tree -/
def TestT (F0 : Nat → Prop) (D : FuncId) (cap : Array Value) (f : (List Nd) → Bool) (G : World → Prop) : Prop :=
 ∀ (q : (List Nd)) (B : Option Addr) (k d : Nat) (W : World), G W → TrP q → LN.rd W F0 B k q → k ≤ 9223372036854775807 → Calls Tryz.prog D (#[.agg #[.slice B k d]] ++ cap) W fun e w' => e = .returned (.bool (f q)) ∧ Below W.heap.size W w'
set_option maxRecDepth 100000 in
set_option maxHeartbeats 4000000 in
theorem indexT (F : Nat → Prop) (A : Option Addr) (m c : Nat) (xs : List (List Nd)) (D : FuncId) (cap : Array Value) (f : (List Nd) → Bool) (w : World) (h : LTr.rd w F A m xs) (hm : m ≤ 9223372036854775807) (hP : ∀ q ∈ xs, TrP q)
 (hent : ∀ (args : Array Value) (w : World), (callFunc D args).run Tryz.prog w = .ok (.enter D args) w) (hD : TestT F D cap f (fun W => Below w.heap.size w W)) :
 Calls Tryz.prog 119 #[.slice A m c, .func (.func D) #[] cap] w fun e w' => e = .returned (.int .i64 (idxL f xs)) ∧ Below w.heap.size w w' := by
 have HL := Lib.hid h.1
 have HEN := hent
 have HD := Lib.hid hD
 clear hent hD
 go_enter Tryz.func119, Tryz.ntmps119
 go_wp2_with fail
 go_loopg [8] m (fun g a wr => ∃ i : Nat, i + g = m ∧ a = .int .i64 i ∧ (∀ (k : Nat) (q : (List Nd)), k < i → xs[k]? = some q → f q = false) ∧ Below w.heap.size w wr)
 case atStart => exact ⟨0, by omega, rfl, fun k q hk => by omega, Below.refl _ _⟩
 case round =>
  obtain ⟨i, hig, rfl, hlo, bb⟩ := hrel
  have HLO := Lib.hid hlo
  have HBB := Lib.hid bb
  clear hlo
  by_cases hlt : i < m
  · have hi1 : (i : Int) < (m : Int) := by omega
    obtain ⟨p, q, B, k, d, rfl, hx, e0, hr, hk1, hk2⟩ := LTr_at (Lay.rd_below h bb) hlt

    have HX := Lib.hid hx
    have HC := Lib.hid (HD.out q B k d wr bb (hP q (List.mem_of_getElem? HX.out)) hr (Nat.le_trans hk1 hk2))
    clear hx hr hk1 hk2 bb
    cases hq : f q
    · rw [hq] at HC
      have HF := Lib.hid (show ∀ (k : Nat) (r : (List Nd)), k < i + 1 → xs[k]? = some r → f r = false from fun k r hk hr => by
       rcases Nat.lt_or_ge k i with h1 | h1
       · exact HLO.out k r h1 hr
       · obtain rfl : k = i := by omega
         have h2 := HX.out
         rw [hr] at h2
         injection h2 with h2
         subst h2
         exact hq)
      clear hq
      go_wp2_with fail
      refine HC.out.mono ?_
      rintro e w2 ⟨rfl, q2⟩
      have b2 := bl_ca HBB.out q2
      clear q2
      go_wp2
      go_roundg (gk - 1)
      · exact ⟨i + 1, by omega, by go_num, HF.out, b2⟩
      · omega
    · rw [hq] at HC
      have HF := Lib.hid (idxL_at HX.out hq HLO.out)
      clear hq
      go_wp2_with fail
      refine HC.out.mono ?_
      rintro e w2 ⟨rfl, q2⟩
      have b2 := bl_ca HBB.out q2
      clear q2
      go_wp2
      go_ret
      exact ⟨ret_intQ (by rw [HF.out]), b2⟩
  · obtain rfl : i = m := by omega
    have hi1 : (i : Int) ≤ (i : Int) := by omega
    have HF := Lib.hid (idxL_no (fun k q hk => HLO.out k q (by rw [← HL.out]; exact hk)))
    clear bb
    go_wp2
    go_ret
    exact ⟨ret_intQ (by rw [HF.out]), HBB.out⟩
set_option maxRecDepth 100000 in
theorem containsT (F : Nat → Prop) (A : Option Addr) (m c : Nat) (xs : List (List Nd)) (D : FuncId) (cap : Array Value) (f : (List Nd) → Bool) (w : World) (h : LTr.rd w F A m xs) (hm : m ≤ 9223372036854775807) (hP : ∀ q ∈ xs, TrP q)
 (hent : ∀ (args : Array Value) (w : World), (callFunc D args).run Tryz.prog w = .ok (.enter D args) w) (hD : TestT F D cap f (fun W => Below w.heap.size w W)) :
 Calls Tryz.prog 104 #[.slice A m c, .func (.func D) #[] cap] w fun e w' => e = .returned (.bool (xs.any f)) ∧ Below w.heap.size w w' := by
 have HI := Lib.hid (indexT F A m c xs D cap f w h hm hP hent hD)
 have HE := Lib.hid (idxL_has f xs)
 clear h hent hD
 generalize idxL f xs = z at *
 go_enter Tryz.func104, Tryz.ntmps104
 go_wp2_with fail
 refine HI.out.mono ?_
 rintro e w2 ⟨rfl, q2⟩
 have HQ := Lib.hid q2
 clear q2
 go_wp2
 go_ret
 exact ⟨ret_bool (by rw [← HE.out]), HQ.out⟩
/-- what is handed over: a test of a select -/
def TestS (PS : QS → Prop) (F0 : Nat → Prop) (D : FuncId) (cap : Array Value) (f : QS → Bool) (G : World → Prop) : Prop :=
 ∀ (q : QS) (I0 : Option Addr) (i0 j0 : Nat) (J0 : Option Addr) (u0 v0 : Nat) (W0 : Option Addr) (a0 b0 : Nat) (H0 : Option Addr) (e0 f0 : Nat) (G0 : Option Addr) (p0 q0 : Nat) (W : World), G W → PS q → RdS F0 W q I0 i0 j0 J0 u0 v0 W0 a0 b0 H0 e0 f0 G0 p0 q0 → Calls Tryz.prog D (#[.agg (q.cells I0 i0 j0 J0 u0 v0 W0 a0 b0 H0 e0 f0 G0 p0 q0)] ++ cap) W fun e w' => e = .returned (.bool (f q)) ∧ Below W.heap.size W w'
set_option maxRecDepth 100000 in
set_option maxHeartbeats 4000000 in
theorem indexS (F : Nat → Prop) (A : Option Addr) (m c : Nat) (xs : List QS) (D : FuncId) (cap : Array Value) (f : QS → Bool) (w : World) (h : LQS.rd w F A m xs) (hm : m ≤ 9223372036854775807) (PS : QS → Prop) (hP : ∀ q ∈ xs, PS q)
 (hent : ∀ (args : Array Value) (w : World), (callFunc D args).run Tryz.prog w = .ok (.enter D args) w) (hD : TestS PS F D cap f (fun W => Below w.heap.size w W)) :
 Calls Tryz.prog 80 #[.slice A m c, .func (.func D) #[] cap] w fun e w' => e = .returned (.int .i64 (idxL f xs)) ∧ Below w.heap.size w w' := by
 have HL := Lib.hid h.1
 have HEN := hent
 have HD := Lib.hid hD
 clear hent hD
 go_enter Tryz.func80, Tryz.ntmps80
 go_wp2_with fail
 go_loopg [8] m (fun g a wr => ∃ i : Nat, i + g = m ∧ a = .int .i64 i ∧ (∀ (k : Nat) (q : QS), k < i → xs[k]? = some q → f q = false) ∧ Below w.heap.size w wr)
 case atStart => exact ⟨0, by omega, rfl, fun k q hk => by omega, Below.refl _ _⟩
 case round =>
  obtain ⟨i, hig, rfl, hlo, bb⟩ := hrel
  have HLO := Lib.hid hlo
  have HBB := Lib.hid bb
  clear hlo
  by_cases hlt : i < m
  · have hi1 : (i : Int) < (m : Int) := by omega
    obtain ⟨p, q, I0, i0, j0, J0, u0, v0, W0, a0, b0, H0, e0, f0, G0, p0, q0, rfl, hx, s1⟩ := LQS_at (Lay.rd_below h bb) hlt
    have y0 := s1.z0
    have y1 := s1.z1
    have y2 := s1.z2
    have y3 := s1.z3
    have y4 := s1.z4
    have y5 := s1.z5
    have y6 := s1.z6
    have y7 := s1.z7
    have y8 := s1.z8
    have HX := Lib.hid hx
    have HC := Lib.hid (HD.out q I0 i0 j0 J0 u0 v0 W0 a0 b0 H0 e0 f0 G0 p0 q0 wr bb (hP q (List.mem_of_getElem? HX.out)) (RdS.of s1))
    clear hx s1 bb
    cases hq : f q
    · rw [hq] at HC
      have HF := Lib.hid (show ∀ (k : Nat) (r : QS), k < i + 1 → xs[k]? = some r → f r = false from fun k r hk hr => by
       rcases Nat.lt_or_ge k i with h1 | h1
       · exact HLO.out k r h1 hr
       · obtain rfl : k = i := by omega
         have h2 := HX.out
         rw [hr] at h2
         injection h2 with h2
         subst h2
         exact hq)
      clear hq
      go_wp2_with fail
      refine HC.out.mono ?_
      rintro e w2 ⟨rfl, q2⟩
      have b2 := bl_ca HBB.out q2
      clear q2
      go_wp2
      go_roundg (gk - 1)
      · exact ⟨i + 1, by omega, by go_num, HF.out, b2⟩
      · omega
    · rw [hq] at HC
      have HF := Lib.hid (idxL_at HX.out hq HLO.out)
      clear hq
      go_wp2_with fail
      refine HC.out.mono ?_
      rintro e w2 ⟨rfl, q2⟩
      have b2 := bl_ca HBB.out q2
      clear q2
      go_wp2
      go_ret
      exact ⟨ret_intQ (by rw [HF.out]), b2⟩
  · obtain rfl : i = m := by omega
    have hi1 : (i : Int) ≤ (i : Int) := by omega
    have HF := Lib.hid (idxL_no (fun k q hk => HLO.out k q (by rw [← HL.out]; exact hk)))
    clear bb
    go_wp2
    go_ret
    exact ⟨ret_intQ (by rw [HF.out]), HBB.out⟩
set_option maxRecDepth 100000 in
theorem containsS (F : Nat → Prop) (A : Option Addr) (m c : Nat) (xs : List QS) (D : FuncId) (cap : Array Value) (f : QS → Bool) (w : World) (h : LQS.rd w F A m xs) (hm : m ≤ 9223372036854775807) (PS : QS → Prop) (hP : ∀ q ∈ xs, PS q)
 (hent : ∀ (args : Array Value) (w : World), (callFunc D args).run Tryz.prog w = .ok (.enter D args) w) (hD : TestS PS F D cap f (fun W => Below w.heap.size w W)) :
 Calls Tryz.prog 41 #[.slice A m c, .func (.func D) #[] cap] w fun e w' => e = .returned (.bool (xs.any f)) ∧ Below w.heap.size w w' := by
 have HI := Lib.hid (indexS F A m c xs D cap f w h hm PS hP hent hD)
 have HE := Lib.hid (idxL_has f xs)
 clear h hent hD
 generalize idxL f xs = z at *
 go_enter Tryz.func41, Tryz.ntmps41
 go_wp2_with fail
 refine HI.out.mono ?_
 rintro e w2 ⟨rfl, q2⟩
 have HQ := Lib.hid q2
 clear q2
 go_wp2
 go_ret
 exact ⟨ret_bool (by rw [← HE.out]), HQ.out⟩
end Go.Proofs.YtoaggmldekejoaaGreatDoor
/- The program's trees (of one), source, number. Conditions: what is asked reads so, and is no longer than memory is. -/
namespace Go.Proofs.YtoaggmldekejoaaGreatDoor
open Go.RowKit
theorem chk_ne (xs : List Nd) : decide (chkE xs = 0) = okF xs := by
 unfold chkE
 cases okF xs <;> decide
set_option maxRecDepth 100000 in
set_option maxHeartbeats 8000000 in
theorem trees1_any (F : Nat → Prop) (xs : List Nd) (A : Option Addr) (n c : Nat) (w : World) (h : LN.rd w F A n xs) (hn : n ≤ 9223372036854775807) (hS : TrP xs) (hT : Tab w) :
 Calls Tryz.prog 105 #[.agg #[.slice A n c]] w fun e w' => e = .returned (.bool (!okF xs)) ∧ Below w.heap.size w w' := by
 have HQ1 := Lib.hid (bl_al (Below.refl w.heap.size w) (.cells #[.slice A n c] 26))
 have HB1 := Lib.hid (Blk.new w 26 #[.slice A n c])
 have hl : n ≤ 100000 := by have := Lay.rd_len h; have := hS.2; omega
 have HC := Lib.hid (checktree_any F xs A n c (w.alloc (.cells #[.slice A n c] 26)) (Lay.rd_below h HQ1.out) hl (hT.below HQ1.out) hS.1)
 have HE := Lib.hid (chk_ne xs)
 clear h hT hS
 generalize okF xs = r at *
 generalize chkE xs = z at *
 have x0 := HB1.out.cell 0
 go_enter Tryz.func105, Tryz.ntmps105
 go_wp2_with fail
 refine HC.out.mono ?_
 rintro e w2 ⟨rfl, q2⟩
 have HQ2 := Lib.hid (bl_ca HQ1.out q2)
 clear q2 HC
 by_cases hz : z = 0
 · have HR := Lib.hid (show r = true from by rw [← HE.out]; exact decide_eq_true hz)
   have hz2 : (z == 0) = true := by simpa using hz
   subst hz
   go_wp2
   go_ret
   exact ⟨ret_bool (by rw [HR.out]; rfl), HQ2.out⟩
 · have HR := Lib.hid (show r = false from by rw [← HE.out]; exact decide_eq_false hz)
   have hz2 : (z == 0) = false := by simpa using hz
   go_wp2
   go_ret
   exact ⟨ret_bool (by rw [HR.out]; simp [hz]), HQ2.out⟩
set_option maxRecDepth 100000 in
set_option maxHeartbeats 8000000 in
theorem trees_any (F : Nat → Prop) (xs : List Nd) (A : Option Addr) (n c g : Nat) (w : World) (hB : Blk w g 26 #[.slice A n c]) (h : LN.rd w F A n xs) (hnc : n ≤ c) (hc : c ≤ 9223372036854775807) (hS : TrP xs) (hT : Tab w) :
 Calls Tryz.prog 82 #[.slice (some ⟨g, 0, none⟩) 1 1] w fun e w' => e = .returned (.bool (okF xs)) ∧ Below w.heap.size w w' := by
 have hr : LTr.rd w AllB (some ⟨g, 0, none⟩) 1 [xs] := Lay.rd_blk hB rfl ⟨[.slice A n c], [], rfl, ⟨A, n, c, rfl, hnc, hc, Lay.rd_weak (fun _ _ _ => trivial) h⟩, rfl⟩ trivial
 have HC := Lib.hid (containsT AllB (some ⟨g, 0, none⟩) 1 1 [xs] 105 #[] (fun q => !okF q) w hr (by omega) (fun q hq => by obtain rfl := List.mem_singleton.1 hq; exact hS) (Go.Proofs.enters_of Tryz.func105 (by kernel_rfl) rfl)
  (fun q B k d W hW hp hr hk => trees1_any AllB q B k d W hr hk hp (hT.below hW)))
 have HE := Lib.hid (show ([xs].any fun q => !okF q) = !okF xs from by simp)
 clear hr h hT hS hB
 generalize ([xs].any fun q => !okF q) = z at *
 go_enter Tryz.func82, Tryz.ntmps82
 go_wp2_with fail
 refine HC.out.mono ?_
 rintro e w2 ⟨rfl, q2⟩
 have HQ2 := Lib.hid q2
 clear q2 HC
 go_wp2
 go_ret
 exact ⟨ret_bool (by rw [HE.out]; simp), HQ2.out⟩
set_option maxRecDepth 100000 in
set_option maxHeartbeats 8000000 in
theorem source_any (tb as_ : ByteArray) (w : World) (hT : Tab w) (h1 : Sz tb) (h2 : Sz as_) :
 Calls Tryz.prog 81 #[.agg #[.string tb, .string as_]] w fun e w' => e = .returned (.bool (nameB tb && mayB as_)) ∧ Below w.heap.size w w' := by
 have HQ1 := Lib.hid (bl_al (Below.refl w.heap.size w) (.cells #[.string tb, .string as_] 72))
 have HB1 := Lib.hid (Blk.new w 72 #[.string tb, .string as_])
 have x0 := HB1.out.cell 0
 have HC := Lib.hid (isname_any tb (w.alloc (.cells #[.string tb, .string as_] 72)) (hT.below HQ1.out) h1)
 have HT1 := Lib.hid (hT.below HQ1.out)
 clear hT
 generalize nameB tb = v1 at *
 go_enter Tryz.func81, Tryz.ntmps81
 go_wp2_with fail
 refine HC.out.mono ?_
 rintro e w2 ⟨rfl, q2⟩
 have HQ2 := Lib.hid (bl_ca HQ1.out q2)
 have x1 := (HB1.out.ca q2).cell 1
 have HM := Lib.hid (maybe_any as_ w2 (HT1.out.below q2) h2)
 clear q2 HC x0 HB1
 cases v1
 · go_wp2_with fail
   go_ret
   exact ⟨rfl, HQ2.out⟩
 · go_wp2_with fail
   refine HM.out.mono ?_
   rintro e w3 ⟨rfl, q3⟩
   have HQ3 := Lib.hid (bl_ca HQ2.out q3)
   clear q3 HM
   go_wp2
   go_ret
   exact ⟨rfl, HQ3.out⟩
def numB (n : Int) : Bool := decide (0 ≤ n) && decide (n ≤ 2147483647)
set_option maxRecDepth 100000 in
theorem number_any (n : Int) (w : World) : Calls Tryz.prog 39 #[.int .i64 n] w fun e w' => e = .returned (.bool (numB n)) ∧ w = w' := by
 by_cases h0 : 0 ≤ n
 · by_cases h1 : n ≤ 2147483647
   · have HR := Lib.hid (show numB n = true from by unfold numB; rw [decide_eq_true h0, decide_eq_true h1]; rfl)
     go_enter Tryz.func39, Tryz.ntmps39
     go_wp2_with fail
     go_ret
     exact ⟨ret_bool HR.out.symm, rfl⟩
   · have HR := Lib.hid (show numB n = false from by unfold numB; rw [decide_eq_false h1, Bool.and_false])
     go_enter Tryz.func39, Tryz.ntmps39
     go_wp2_with fail
     go_ret
     exact ⟨ret_bool HR.out.symm, rfl⟩
 · have HR := Lib.hid (show numB n = false from by unfold numB; rw [decide_eq_false h0]; rfl)
   go_enter Tryz.func39, Tryz.ntmps39
   go_wp2_with fail
   go_ret
   exact ⟨ret_bool HR.out.symm, rfl⟩
end Go.Proofs.YtoaggmldekejoaaGreatDoor
/- The program's selects. Conditions: the select reads so, and is no longer than memory is. -/
namespace Go.Proofs.YtoaggmldekejoaaGreatDoor
open Go.RowKit
theorem all_takeQ {α : Type} {p : α → Bool} {l : List α} {i : Nat} {x : α} (h : l[i]? = some x) : (l.take (i + 1)).all p = ((l.take i).all p && p x) := by
 rw [List.take_add_one, h, List.all_append]; simp
theorem shape_of {x : QS} {i u p : Nat} (h1 : false = ((((!x.star == decide ((i : Int) = 0)) || decide (6 < (i : Int))) || decide (2 < (u : Int))) || decide (3 < (p : Int)))) (hi : x.items.length = i) (hu : x.joins.length = u) (hp : x.grp.length = p) : selShape x = true := by
 unfold selShape
 rw [hi, hu, hp]
 simp at h1
 simp only [Bool.and_eq_true, decide_eq_true_eq]
 refine ⟨?_, by omega, by omega, by omega⟩
 obtain ⟨⟨⟨h2, _⟩, _⟩, _⟩ := h1
 rw [h2]
set_option maxRecDepth 100000 in
set_option maxHeartbeats 16000000 in
theorem selects_any (F : Nat → Prop) (x : QS) (I0 : Option Addr) (i0 j0 : Nat) (J0 : Option Addr) (u0 v0 : Nat) (W0 : Option Addr) (a0 b0 : Nat) (H0 : Option Addr) (e0 f0 : Nat) (G0 : Option Addr) (p0 q0 : Nat) (w : World) (hR : RdS F w x I0 i0 j0 J0 u0 v0 W0 a0 b0 H0 e0 f0 G0 p0 q0) (hSp : QSp x) (hsm : i0 ≤ 1000 ∧ u0 ≤ 1000 ∧ p0 ≤ 1000) (hT : Tab w) :
 Calls Tryz.prog 43 #[.agg (x.cells I0 i0 j0 J0 u0 v0 W0 a0 b0 H0 e0 f0 G0 p0 q0)] w fun e w' => e = .returned (.bool (selB x)) ∧ Below w.heap.size w w' := by
 have HQ1 := Lib.hid (bl_al (Below.refl w.heap.size w) (.cells (x.cells I0 i0 j0 J0 u0 v0 W0 a0 b0 H0 e0 f0 G0 p0 q0) 76))
 have HB1 := Lib.hid (Blk.new w 76 (x.cells I0 i0 j0 J0 u0 v0 W0 a0 b0 H0 e0 f0 G0 p0 q0))
 have HR1 := Lib.hid (hR.below HQ1.out)
 have HT1 := Lib.hid (hT.below HQ1.out)
 have HSP := Lib.hid hSp
 obtain ⟨hi9, hu9, hp9⟩ := hsm
 obtain ⟨rr, hrr⟩ : ∃ rr, rr = selB x := ⟨_, rfl⟩
 rw [← hrr]
 have HRR := Lib.hid hrr
 have HLN := Lib.hid (And.intro (Lay.rd_len hR.1.1) (And.intro (Lay.rd_len hR.2.1.1) (Lay.rd_len hR.2.2.2.2.1)))
 clear hR hSp hrr hT
 go_enter Tryz.func43, Tryz.ntmps43
 go_upto_region 1 with fail
 generalize w.alloc (.cells (x.cells I0 i0 j0 J0 u0 v0 W0 a0 b0 H0 e0 f0 G0 p0 q0) 76) = w1 at *
 refine wp_region_ps0 .text (S := fun _ _ w' => Below w1.heap.size w1 w') (by kernel_rfl) ?spswg1 ?ppswg1
 case spswg1 =>
  exact (Below.refl w1.heap.size w1)
 refine Pz 0 (some 12) (.pointer (some ⟨w.heap.size, 1, none⟩)) rfl rfl (by exact StepS.pure nP rfl fun _ => rfl) ?_
 try simp only [Act.put, sA, sZ, sS]
 refine Pz 1 (some 13) (.bool (x.star)) rfl rfl ?ywg1_3 ?rwg1_3
 case ywg1_3 =>
  refine StepS.read [] (by kernel_rfl) nP (by rfl) (fun L9 m9 w9 hSh hAt hDn hS => ?_)
  have hT : Below _ _ w9 := hS
  have x0 : w9.cell? ⟨w.heap.size, 1, none⟩ = some (.bool (x.star)) := (HB1.out.ca hT).cell 1
  clear hT hS
  go_simp
  try rfl
 try simp only [Act.put, sA, sZ, sS]
 refine Pz 2 (some 14) (.pointer (some ⟨w.heap.size, 2, none⟩)) rfl rfl (by exact StepS.pure nP rfl fun _ => rfl) ?_
 try simp only [Act.put, sA, sZ, sS]
 refine Pz 3 (some 15) (.slice I0 i0 j0) rfl rfl ?ywg1_5 ?rwg1_5
 case ywg1_5 =>
  refine StepS.read [] (by kernel_rfl) nP (by rfl) (fun L9 m9 w9 hSh hAt hDn hS => ?_)
  have hT : Below _ _ w9 := hS
  have x0 : w9.cell? ⟨w.heap.size, 2, none⟩ = some (.slice I0 i0 j0) := (HB1.out.ca hT).cell 2
  clear hT hS
  go_simp
  try rfl
 try simp only [Act.put, sA, sZ, sS]
 refine Pz 4 (some 16) (.int .i64 ((i0 : Int))) rfl rfl (by exact StepS.pure nP rfl fun _ => by first | rfl | (go_simp; done) | (go_simp; rfl)) ?_
 try simp only [Act.put, sA, sZ, sS]
 refine Pz 5 (some 17) (.bool (decide ((i0 : Int) = 0))) rfl rfl (by exact StepS.pure nP rfl fun _ => rfl) ?_
 try simp only [Act.put, sA, sZ, sS]
 refine Pz 6 (some 18) (.bool (!(x.star == decide ((i0 : Int) = 0)))) rfl rfl ?ywg1_8 ?rwg1_8
 case ywg1_8 =>
  refine StepS.pure nP (by rfl) (fun w9 => ?_)
  cases x.star <;> (first | rfl | (go_simp; done) | (go_simp; rfl))
 try simp only [Act.put, sA, sZ, sS]
 obtain ⟨ba1_7, hb9⟩ : ∃ zb : Bool, zb = (!(x.star == decide ((i0 : Int) = 0))) := ⟨_, rfl⟩
 have HEba1_7 := Lib.hid hb9
 clear hb9
 refine Pz 7 (some 19) (.bool (ba1_7)) rfl rfl ?ywg1_9 ?rwg1_9
 case ywg1_9 =>
  refine StepS.pure nP (by rfl) (fun w9 => ?_)
  have e9 : (!(x.star == decide ((i0 : Int) = 0))) = ba1_7 := by rw [HEba1_7.out]
  rw [← e9]
  clear e9
  first | rfl | (go_simp; done) | (go_simp; rfl)
 try simp only [Act.put, sA, sZ, sS]
 refine Pz 8 (some 20) (cond ba1_7 (undef) (.pointer (some ⟨w.heap.size, 2, none⟩))) rfl rfl (by cases ba1_7; (exact StepS.pure nP rfl fun _ => rfl); exact StepS.skip nP rfl) ?_
 try simp only [Act.put, sA, sZ, sS]
 refine Pz 9 (some 21) (cond ba1_7 (undef) (.slice I0 i0 j0)) rfl rfl ?ywg1_11 ?rwg1_11
 case ywg1_11 =>
  cases ba1_7
  · skip
    refine StepS.read [] (by kernel_rfl) nP (by rfl) (fun L9 m9 w9 hSh hAt hDn hS => ?_)
    have hT : Below _ _ w9 := hS
    have x0 : w9.cell? ⟨w.heap.size, 2, none⟩ = some (.slice I0 i0 j0) := (HB1.out.ca hT).cell 2
    clear hT hS
    go_simp
    try rfl
  · exact StepS.skip nP (by rfl)
 try simp only [Act.put, sA, sZ, sS]
 refine Pz 10 (some 22) (cond ba1_7 (undef) (.int .i64 ((i0 : Int)))) rfl rfl (by cases ba1_7; (exact StepS.pure nP rfl fun _ => by first | rfl | (go_simp; done) | (go_simp; rfl)); exact StepS.skip nP rfl) ?_
 try simp only [Act.put, sA, sZ, sS]
 refine Pz 11 (some 23) (cond ba1_7 (undef) (.bool (decide ((6 : Int) < (i0 : Int))))) rfl rfl (by cases ba1_7; (exact StepS.pure nP rfl fun _ => rfl); exact StepS.skip nP rfl) ?_
 try simp only [Act.put, sA, sZ, sS]
 refine Pz 12 (some 24) (.bool (ba1_7 || (decide ((6 : Int) < (i0 : Int))))) rfl rfl ?ywg1_14 ?rwg1_14
 case ywg1_14 =>
  refine StepS.pure nP (by rfl) (fun w9 => ?_)
  cases ba1_7 <;> (first | rfl | (go_simp; done) | (go_simp; rfl))
 try simp only [Act.put, sA, sZ, sS]
 obtain ⟨ba1_13, hb9⟩ : ∃ zb : Bool, zb = ((!(x.star == decide ((i0 : Int) = 0))) || (decide ((6 : Int) < (i0 : Int)))) := ⟨_, rfl⟩
 have HEba1_13 := Lib.hid hb9
 clear hb9
 refine Pz 13 (some 25) (.bool (ba1_13)) rfl rfl ?ywg1_15 ?rwg1_15
 case ywg1_15 =>
  refine StepS.pure nP (by rfl) (fun w9 => ?_)
  have e9 : (ba1_7 || (decide ((6 : Int) < (i0 : Int)))) = ba1_13 := by rw [HEba1_13.out, HEba1_7.out]
  rw [← e9]
  clear e9
  first | rfl | (go_simp; done) | (go_simp; rfl)
 try simp only [Act.put, sA, sZ, sS]
 refine Pz 14 (some 26) (cond ba1_13 (undef) (.pointer (some ⟨w.heap.size, 5, none⟩))) rfl rfl (by cases ba1_13; (exact StepS.pure nP rfl fun _ => rfl); exact StepS.skip nP rfl) ?_
 try simp only [Act.put, sA, sZ, sS]
 refine Pz 15 (some 27) (cond ba1_13 (undef) (.slice J0 u0 v0)) rfl rfl ?ywg1_17 ?rwg1_17
 case ywg1_17 =>
  cases ba1_13
  · skip
    refine StepS.read [] (by kernel_rfl) nP (by rfl) (fun L9 m9 w9 hSh hAt hDn hS => ?_)
    have hT : Below _ _ w9 := hS
    have x0 : w9.cell? ⟨w.heap.size, 5, none⟩ = some (.slice J0 u0 v0) := (HB1.out.ca hT).cell 5
    clear hT hS
    go_simp
    try rfl
  · exact StepS.skip nP (by rfl)
 try simp only [Act.put, sA, sZ, sS]
 refine Pz 16 (some 28) (cond ba1_13 (undef) (.int .i64 ((u0 : Int)))) rfl rfl (by cases ba1_13; (exact StepS.pure nP rfl fun _ => by first | rfl | (go_simp; done) | (go_simp; rfl)); exact StepS.skip nP rfl) ?_
 try simp only [Act.put, sA, sZ, sS]
 refine Pz 17 (some 29) (cond ba1_13 (undef) (.bool (decide ((2 : Int) < (u0 : Int))))) rfl rfl (by cases ba1_13; (exact StepS.pure nP rfl fun _ => rfl); exact StepS.skip nP rfl) ?_
 try simp only [Act.put, sA, sZ, sS]
 refine Pz 18 (some 30) (.bool (ba1_13 || (decide ((2 : Int) < (u0 : Int))))) rfl rfl ?ywg1_20 ?rwg1_20
 case ywg1_20 =>
  refine StepS.pure nP (by rfl) (fun w9 => ?_)
  cases ba1_13 <;> (first | rfl | (go_simp; done) | (go_simp; rfl))
 try simp only [Act.put, sA, sZ, sS]
 obtain ⟨ba1_19, hb9⟩ : ∃ zb : Bool, zb = (((!(x.star == decide ((i0 : Int) = 0))) || (decide ((6 : Int) < (i0 : Int)))) || (decide ((2 : Int) < (u0 : Int)))) := ⟨_, rfl⟩
 have HEba1_19 := Lib.hid hb9
 clear hb9
 refine Pz 19 (some 31) (.bool (ba1_19)) rfl rfl ?ywg1_21 ?rwg1_21
 case ywg1_21 =>
  refine StepS.pure nP (by rfl) (fun w9 => ?_)
  have e9 : (ba1_13 || (decide ((2 : Int) < (u0 : Int)))) = ba1_19 := by rw [HEba1_19.out, HEba1_13.out]
  rw [← e9]
  clear e9
  first | rfl | (go_simp; done) | (go_simp; rfl)
 try simp only [Act.put, sA, sZ, sS]
 refine Pz 20 (some 32) (cond ba1_19 (undef) (.pointer (some ⟨w.heap.size, 8, none⟩))) rfl rfl (by cases ba1_19; (exact StepS.pure nP rfl fun _ => rfl); exact StepS.skip nP rfl) ?_
 try simp only [Act.put, sA, sZ, sS]
 refine Pz 21 (some 33) (cond ba1_19 (undef) (.slice G0 p0 q0)) rfl rfl ?ywg1_23 ?rwg1_23
 case ywg1_23 =>
  cases ba1_19
  · skip
    refine StepS.read [] (by kernel_rfl) nP (by rfl) (fun L9 m9 w9 hSh hAt hDn hS => ?_)
    have hT : Below _ _ w9 := hS
    have x0 : w9.cell? ⟨w.heap.size, 8, none⟩ = some (.slice G0 p0 q0) := (HB1.out.ca hT).cell 8
    clear hT hS
    go_simp
    try rfl
  · exact StepS.skip nP (by rfl)
 try simp only [Act.put, sA, sZ, sS]
 refine Pz 22 (some 34) (cond ba1_19 (undef) (.int .i64 ((p0 : Int)))) rfl rfl (by cases ba1_19; (exact StepS.pure nP rfl fun _ => by first | rfl | (go_simp; done) | (go_simp; rfl)); exact StepS.skip nP rfl) ?_
 try simp only [Act.put, sA, sZ, sS]
 refine Pz 23 (some 35) (cond ba1_19 (undef) (.bool (decide ((3 : Int) < (p0 : Int))))) rfl rfl (by cases ba1_19; (exact StepS.pure nP rfl fun _ => rfl); exact StepS.skip nP rfl) ?_
 try simp only [Act.put, sA, sZ, sS]
 obtain ⟨bS, hb9⟩ : ∃ zb : Bool, zb = ((((!(x.star == decide ((i0 : Int) = 0))) || (decide ((6 : Int) < (i0 : Int)))) || (decide ((2 : Int) < (u0 : Int)))) || (decide ((3 : Int) < (p0 : Int)))) := ⟨_, rfl⟩
 have HEbS := Lib.hid hb9
 clear hb9
 refine Pz 24 (some 36) (.bool (bS)) rfl rfl ?ywg1_26 ?rwg1_26
 case ywg1_26 =>
  refine StepS.pure nP (by rfl) (fun w9 => ?_)
  have e9 : (ba1_19 || (decide ((3 : Int) < (p0 : Int)))) = bS := by rw [HEbS.out, HEba1_19.out]
  rw [← e9]
  clear e9
  cases ba1_19 <;> (first | rfl | (go_simp; done) | (go_simp; rfl))
 try simp only [Act.put, sA, sZ, sS]
 refine Ps.done (by kernel_rfl) (fun wg1 hS => ?_) _
 try generalize (cond ba1_13 (undef) (.bool (decide ((2 : Int) < (u0 : Int)))) : Value) = zz27
 try generalize (cond ba1_19 (undef) (.bool (decide ((3 : Int) < (p0 : Int)))) : Value) = zz28
 try generalize (cond ba1_7 (undef) (.bool (decide ((6 : Int) < (i0 : Int)))) : Value) = zz29
 try generalize (cond ba1_13 (undef) (.pointer (some ⟨w.heap.size, 5, none⟩)) : Value) = zz30
 try generalize (cond ba1_19 (undef) (.pointer (some ⟨w.heap.size, 8, none⟩)) : Value) = zz31
 try generalize (cond ba1_7 (undef) (.pointer (some ⟨w.heap.size, 2, none⟩)) : Value) = zz32
 try generalize (.bool (ba1_13 || (decide ((2 : Int) < (u0 : Int)))) : Value) = zz33
 try generalize (.bool (ba1_7 || (decide ((6 : Int) < (i0 : Int)))) : Value) = zz34
 try generalize (cond ba1_13 (undef) (.int .i64 ((u0 : Int))) : Value) = zz35
 try generalize (cond ba1_19 (undef) (.int .i64 ((p0 : Int))) : Value) = zz36
 try generalize (cond ba1_7 (undef) (.int .i64 ((i0 : Int))) : Value) = zz37
 try generalize (cond ba1_19 (undef) (.slice G0 p0 q0) : Value) = zz38
 try generalize (cond ba1_13 (undef) (.slice J0 u0 v0) : Value) = zz39
 try generalize (cond ba1_7 (undef) (.slice I0 i0 j0) : Value) = zz40
 try generalize (.bool (!(x.star == decide ((i0 : Int) = 0))) : Value) = zA1
 try generalize (.bool (decide ((i0 : Int) = 0)) : Value) = zA2
 have HQ2 := Lib.hid (show Below w1.heap.size w1 wg1 from hS)
 clear hS
 obtain ⟨w2, rfl⟩ : ∃ x, x = wg1 := ⟨_, rfl⟩
 cases bS
 case true =>
  have HRF := Lib.hid (show rr = false from by
   rw [HRR.out]
   cases hB : selB x
   · rfl
   · exfalso
     obtain ⟨h1, h2, h3, h4⟩ := sel_shape hB HLN.out.1 HLN.out.2.1 HLN.out.2.2
     have h9 := HEbS.out
     rw [h1] at h9
     simp at h9
     omega)
  go_wp2_with fail
  go_ret
  exact ⟨ret_bool HRF.out.symm, bl_ca HQ1.out HQ2.out⟩
 case false =>
 have HB2 := Lib.hid (HB1.out.ca HQ2.out)
 have HR2 := Lib.hid (HR1.out.below HQ2.out)
 have HT2 := Lib.hid (HT1.out.below HQ2.out)
 have HQ02 := Lib.hid (bl_ca HQ1.out HQ2.out)
 clear HB1 HR1 HT1 HQ2 HQ1
 have y3 := HB2.out.cell 3
 have y4 := HB2.out.cell 4
 go_wp2_with fail
 refine (source_any x.ftb x.fas w2 HT2.out HSP.out.2.2.1 HSP.out.2.2.2).mono ?_
 rintro e w3 ⟨rfl, q3⟩
 have HB3 := Lib.hid (HB2.out.ca q3)
 have HR3 := Lib.hid (HR2.out.below q3)
 have HT3 := Lib.hid (HT2.out.below q3)
 have HQ03 := Lib.hid (bl_ca HQ02.out q3)
 obtain ⟨oS, hoS⟩ : ∃ oS, oS = (nameB x.ftb && mayB x.fas) := ⟨_, rfl⟩
 rw [← hoS]
 have HOS := Lib.hid hoS
 clear y3 y4 q3 hoS HB2 HR2 HT2 HQ02
 have yC := HB3.out.cell 2
 go_upto_block 0 with fail
 clear yC
 go_cut [3] (fun ok wx => ∃ b : Bool, ok = .bool b ∧ Hid (b = (oS && x.items.all itemB)) ∧ Hid (Below w3.heap.size w3 wx))
 case first =>
  go_wp2_with fail
  go_loopg [43, 3] i0 (fun gk a ok wr => ∃ (i : Nat) (b : Bool), i + gk = i0 ∧ a = .int .i64 i ∧ ok = .bool b ∧ Hid (b = (oS && (x.items.take i).all itemB)) ∧ Hid (Below w3.heap.size w3 wr))
  case atStart => exact ⟨0, oS, by omega, rfl, rfl, Lib.hid (by simp), Lib.hid (Below.refl _ _)⟩
  case round =>
   obtain ⟨i, b, hig, rfl, rfl, HBB, HQr⟩ := hrel
   by_cases hlt : i < i0
   · have hi1 : (i : Int) < (i0 : Int) := by omega
     obtain ⟨ad, z, T0, t0, u9, rfl, hax, sp⟩ := LQI_at (Lay.rd_below HR3.out.1.1 HQr.out) hlt
     have x0 := sp.z0
     have x1 := sp.z1
     have HSPz := Lib.hid sp
     have HAX := Lib.hid (all_takeQ (p := itemB) hax)
     have HZM := Lib.hid (List.mem_of_getElem? hax)
     have HQz := Lib.hid (bl_al (Below.refl wr.heap.size wr) (.cells #[.slice T0 t0 u9, .string z.as_] 82))
     have HZ := Lib.hid (Blk.new wr 82 #[.slice T0 t0 u9, .string z.as_])
     clear sp hax
     go_upto_region 7 with fail
     clear x0 x1
     generalize wr.alloc (.cells #[.slice T0 t0 u9, .string z.as_] 82) = wz at *
     have HQ0 := Lib.hid (bl_ca HQr.out HQz.out)
     have HTz := Lib.hid (HT3.out.below HQ0.out)
     have HTP := Lib.hid (HSP.out.1.1 z HZM.out).1
     have HTP2 := Lib.hid (HSP.out.1.1 z HZM.out).2
     cases b
     · go_wp2_with fail
       go_roundg (gk - 1)
       · exact ⟨i + 1, false, by omega, by go_num, rfl, Lib.hid (by rw [HAX.out, ← Bool.and_assoc, ← HBB.out]; rfl), HQ0⟩
       · omega
     · have y0 := HZ.out.cell 0
       go_wp2_with fail
       have q1 := bl_al (Below.refl wz.heap.size wz) (.cells #[.slice T0 t0 u9] 26)
       have hb1 := Blk.new wz 26 #[.slice T0 t0 u9]
       refine (trees_any F z.t T0 t0 u9 wz.heap.size _ hb1 (Lay.rd_below (Lay.rd_below HSPz.out.r0 HQz.out) q1) HSPz.out.k0.1 HSPz.out.k0.2 HTP.out (HTz.out.below q1)).mono ?_
       rintro e wt ⟨rfl, q2⟩
       have HQt := Lib.hid (bl_ca q1 q2)
       clear y0 q1 q2 hb1
       generalize hv9 : okF z.t = v9
       have HV9 := Lib.hid hv9
       clear hv9
       cases v9
       · go_wp2_with fail
         go_roundg (gk - 1)
         · exact ⟨i + 1, false, by omega, by go_num, rfl, Lib.hid (by rw [HAX.out, ← Bool.and_assoc, ← HBB.out, Bool.true_and]; unfold itemB; rw [HV9.out]; rfl), Lib.hid (bl_ca HQ0.out HQt.out)⟩
         · omega
       · have HZt := Lib.hid (HZ.out.ca HQt.out)
         have y1 := HZt.out.cell 1
         go_wp2_with fail
         refine (maybe_any z.as_ wt (HTz.out.below HQt.out) HTP2.out).mono ?_
         rintro e wu ⟨rfl, q3⟩
         have HQu := Lib.hid (bl_ca HQ0.out (bl_ca HQt.out q3))
         clear y1 q3
         go_wp2
         go_roundg (gk - 1)
         · exact ⟨i + 1, _, by omega, by go_num, rfl, Lib.hid (by rw [HAX.out, ← Bool.and_assoc, ← HBB.out, Bool.true_and]; unfold itemB; rw [HV9.out]; rfl), HQu⟩
         · omega
   · have hi1 : ¬ ((i : Int) < (i0 : Int)) := by omega
     have hie : i = i0 := by omega
     have HAe := Lib.hid (show b = (oS && x.items.all itemB) from by have h9 := HBB.out; rw [List.take_of_length_le (by have := Lay.rd_len HR3.out.1.1; omega)] at h9; exact h9)
     clear hie HBB
     go_wp2_with fail
     go_meet
     exact ⟨b, rfl, HAe, HQr⟩
 case rest =>
 obtain ⟨oI, rfl, HoI, HQ4⟩ := hcut
 obtain ⟨w4, rfl⟩ : ∃ x, x = wc := ⟨_, rfl⟩
 have HB4 := Lib.hid (HB3.out.ca HQ4.out)
 have HR4 := Lib.hid (HR3.out.below HQ4.out)
 have HT4 := Lib.hid (HT3.out.below HQ4.out)
 have HQ04 := Lib.hid (bl_ca HQ03.out HQ4.out)
 clear HB3 HR3 HT3 HQ03 HQ4
 have yC := HB4.out.cell 5
 go_upto_block 2 with fail
 clear yC
 go_cut [3] (fun ok wx => ∃ b : Bool, ok = .bool b ∧ Hid (b = (oI && x.joins.all joinB)) ∧ Hid (Below w4.heap.size w4 wx))
 case first =>
  go_wp2_with fail
  go_loopg [63, 3] u0 (fun gk a ok wr => ∃ (i : Nat) (b : Bool), i + gk = u0 ∧ a = .int .i64 i ∧ ok = .bool b ∧ Hid (b = (oI && (x.joins.take i).all joinB)) ∧ Hid (Below w4.heap.size w4 wr))
  case atStart => exact ⟨0, oI, by omega, rfl, rfl, Lib.hid (by simp), Lib.hid (Below.refl _ _)⟩
  case round =>
   obtain ⟨i, b, hig, rfl, rfl, HBB, HQr⟩ := hrel
   by_cases hlt : i < u0
   · have hi1 : (i : Int) < (u0 : Int) := by omega
     obtain ⟨ad, z, T0, t0, u9, rfl, hax, sp⟩ := LQJ_at (Lay.rd_below HR4.out.2.1.1 HQr.out) hlt
     have x0 := sp.z0
     have x1 := sp.z1
     have x2 := sp.z2
     have x3 := sp.z3
     have HSPz := Lib.hid sp
     have HAX := Lib.hid (all_takeQ (p := joinB) hax)
     have HZM := Lib.hid (List.mem_of_getElem? hax)
     have HQz := Lib.hid (bl_al (Below.refl wr.heap.size wr) (.cells #[.bool z.left, .string z.tb, .string z.as_, .slice T0 t0 u9] 85))
     have HZ := Lib.hid (Blk.new wr 85 #[.bool z.left, .string z.tb, .string z.as_, .slice T0 t0 u9])
     clear sp hax
     go_upto_region 12 with fail
     clear x0 x1 x2 x3
     generalize wr.alloc (.cells #[.bool z.left, .string z.tb, .string z.as_, .slice T0 t0 u9] 85) = wz at *
     have HQ0 := Lib.hid (bl_ca HQr.out HQz.out)
     have HTz := Lib.hid (HT4.out.below HQ0.out)
     have HTP := Lib.hid (HSP.out.1.2.1 z HZM.out).1
     have HTP2 := Lib.hid (HSP.out.1.2.1 z HZM.out).2
     cases b
     · go_wp2_with fail
       go_roundg (gk - 1)
       · exact ⟨i + 1, false, by omega, by go_num, rfl, Lib.hid (by rw [HAX.out, ← Bool.and_assoc, ← HBB.out]; rfl), HQ0⟩
       · omega
     · have y3 := HZ.out.cell 3
       go_wp2_with fail
       have q1 := bl_al (Below.refl wz.heap.size wz) (.cells #[.slice T0 t0 u9] 26)
       have hb1 := Blk.new wz 26 #[.slice T0 t0 u9]
       refine (trees_any F z.on T0 t0 u9 wz.heap.size _ hb1 (Lay.rd_below (Lay.rd_below HSPz.out.r0 HQz.out) q1) HSPz.out.k0.1 HSPz.out.k0.2 HTP.out (HTz.out.below q1)).mono ?_
       rintro e wt ⟨rfl, q2⟩
       have HQt := Lib.hid (bl_ca q1 q2)
       clear y3 q1 q2 hb1
       generalize hv9 : okF z.on = v9
       have HV9 := Lib.hid hv9
       clear hv9
       cases v9
       · go_wp2_with fail
         go_roundg (gk - 1)
         · exact ⟨i + 1, false, by omega, by go_num, rfl, Lib.hid (by rw [HAX.out, ← Bool.and_assoc, ← HBB.out, Bool.true_and]; unfold joinB; rw [HV9.out]; rfl), Lib.hid (bl_ca HQ0.out HQt.out)⟩
         · omega
       · have HZt := Lib.hid (HZ.out.ca HQt.out)
         have y1 := HZt.out.cell 1
         have y2 := HZt.out.cell 2
         go_wp2_with fail
         refine (source_any z.tb z.as_ wt (HTz.out.below HQt.out) HTP2.out.1 HTP2.out.2).mono ?_
         rintro e wu ⟨rfl, q3⟩
         have HQu := Lib.hid (bl_ca HQ0.out (bl_ca HQt.out q3))
         clear y1 y2 q3
         obtain ⟨vs, hvs⟩ : ∃ vs, vs = (nameB z.tb && mayB z.as_) := ⟨_, rfl⟩
         rw [← hvs]
         have HVS := Lib.hid hvs
         clear hvs
         go_wp2
         go_roundg (gk - 1)
         · exact ⟨i + 1, _, by omega, by go_num, rfl, Lib.hid (by rw [HAX.out, ← Bool.and_assoc, ← HBB.out, Bool.true_and]; unfold joinB; rw [HV9.out, HVS.out]; rfl), HQu⟩
         · omega
   · have hi1 : ¬ ((i : Int) < (u0 : Int)) := by omega
     have hie : i = u0 := by omega
     have HAe := Lib.hid (show b = (oI && x.joins.all joinB) from by have h9 := HBB.out; rw [List.take_of_length_le (by have := Lay.rd_len HR4.out.2.1.1; omega)] at h9; exact h9)
     clear hie HBB
     go_wp2_with fail
     go_meet
     exact ⟨b, rfl, HAe, HQr⟩
 case rest =>
 obtain ⟨oJ, rfl, HoJ, HQ5⟩ := hcut
 obtain ⟨w5, rfl⟩ : ∃ x, x = wc := ⟨_, rfl⟩
 have HB5 := Lib.hid (HB4.out.ca HQ5.out)
 have HR5 := Lib.hid (HR4.out.below HQ5.out)
 have HT5 := Lib.hid (HT4.out.below HQ5.out)
 have HQ05 := Lib.hid (bl_ca HQ04.out HQ5.out)
 clear HB4 HR4 HT4 HQ04 HQ5
 have yC := HB5.out.cell 8
 go_upto_block 4 with fail
 clear yC
 go_cut [3] (fun ok wx => ∃ b : Bool, ok = .bool b ∧ Hid (b = (oJ && x.grp.all nmB)) ∧ Hid (Below w5.heap.size w5 wx))
 case first =>
  go_wp2_with fail
  go_loopg [83, 3] p0 (fun gk a ok wr => ∃ (i : Nat) (b : Bool), i + gk = p0 ∧ a = .int .i64 i ∧ ok = .bool b ∧ Hid (b = (oJ && (x.grp.take i).all nmB)) ∧ Hid (Below w5.heap.size w5 wr))
  case atStart => exact ⟨0, oJ, by omega, rfl, rfl, Lib.hid (by simp), Lib.hid (Below.refl _ _)⟩
  case round =>
   obtain ⟨i, b, hig, rfl, rfl, HBB, HQr⟩ := hrel
   by_cases hlt : i < p0
   · have hi1 : (i : Int) < (p0 : Int) := by omega
     obtain ⟨ad, z, rfl, hax, sp⟩ := LQN_at (Lay.rd_below HR5.out.2.2.2.2.1 HQr.out) hlt
     have x0 := sp.z0
     have x1 := sp.z1
     have HSPz := Lib.hid sp
     have HAX := Lib.hid (all_takeQ (p := nmB) hax)
     have HZM := Lib.hid (List.mem_of_getElem? hax)
     have HQz := Lib.hid (bl_al (Below.refl wr.heap.size wr) (.cells #[.string z.tb, .string z.nm] 88))
     have HZ := Lib.hid (Blk.new wr 88 #[.string z.tb, .string z.nm])
     clear sp hax
     go_upto_region 17 with fail
     clear x0 x1
     generalize wr.alloc (.cells #[.string z.tb, .string z.nm] 88) = wz at *
     have HQ0 := Lib.hid (bl_ca HQr.out HQz.out)
     have HTz := Lib.hid (HT5.out.below HQ0.out)
     cases b
     · go_wp2_with fail
       go_roundg (gk - 1)
       · exact ⟨i + 1, false, by omega, by go_num, rfl, Lib.hid (by rw [HAX.out, ← Bool.and_assoc, ← HBB.out]; rfl), HQ0⟩
       · omega
     · have HTP := Lib.hid (HSP.out.1.2.2 z HZM.out)
       have y1 := HZ.out.cell 1
       go_wp2_with fail
       refine (isname_any z.nm wz HTz.out HTP.out.2).mono ?_
       rintro e wt ⟨rfl, q2⟩
       have HQt := Lib.hid q2
       clear y1 q2
       generalize hv9 : nameB z.nm = v9
       have HV9 := Lib.hid hv9
       clear hv9
       cases v9
       · go_wp2_with fail
         go_roundg (gk - 1)
         · exact ⟨i + 1, false, by omega, by go_num, rfl, Lib.hid (by rw [HAX.out, ← Bool.and_assoc, ← HBB.out, Bool.true_and]; unfold nmB; rw [HV9.out]; rfl), Lib.hid (bl_ca HQ0.out HQt.out)⟩
         · omega
       · have HZt := Lib.hid (HZ.out.ca HQt.out)
         have y0 := HZt.out.cell 0
         go_wp2_with fail
         refine (maybe_any z.tb wt (HTz.out.below HQt.out) HTP.out.1).mono ?_
         rintro e wu ⟨rfl, q3⟩
         have HQu := Lib.hid (bl_ca HQ0.out (bl_ca HQt.out q3))
         clear y0 q3
         go_wp2
         go_roundg (gk - 1)
         · exact ⟨i + 1, _, by omega, by go_num, rfl, Lib.hid (by rw [HAX.out, ← Bool.and_assoc, ← HBB.out, Bool.true_and]; unfold nmB; rw [HV9.out]; rfl), HQu⟩
         · omega
   · have hi1 : ¬ ((i : Int) < (p0 : Int)) := by omega
     have hie : i = p0 := by omega
     have HAe := Lib.hid (show b = (oJ && x.grp.all nmB) from by have h9 := HBB.out; rw [List.take_of_length_le (by have := Lay.rd_len HR5.out.2.2.2.2.1; omega)] at h9; exact h9)
     clear hie HBB
     go_wp2_with fail
     go_meet
     exact ⟨b, rfl, HAe, HQr⟩
 case rest =>
 obtain ⟨oN, rfl, HoN, HQ6⟩ := hcut
 obtain ⟨w6, rfl⟩ : ∃ x, x = wc := ⟨_, rfl⟩
 have HB6 := Lib.hid (HB5.out.ca HQ6.out)
 have HR6 := Lib.hid (HR5.out.below HQ6.out)
 have HT6 := Lib.hid (HT5.out.below HQ6.out)
 have HQ06 := Lib.hid (bl_ca HQ05.out HQ6.out)
 clear HB5 HR5 HT5 HQ05 HQ6
 have yC6 := HB6.out.cell 6
 have yC7 := HB6.out.cell 7
 have gx0 : ∀ W, (Instr.index 128 (.agg #[.slice W0 a0 b0, .slice H0 e0 f0]) (.int .i64 0)).run Tryz.prog W = .ok (.agg #[.slice W0 a0 b0]) W := fun _ => by kernel_rfl
 have gx1 : ∀ W, (Instr.index 128 (.agg #[.slice W0 a0 b0, .slice H0 e0 f0]) (.int .i64 1)).run Tryz.prog W = .ok (.agg #[.slice H0 e0 f0]) W := fun _ => by kernel_rfl
 go_upto_block 6 with fail
 clear yC6 yC7
 go_cut [3] (fun ok wx => ∃ b : Bool, ok = .bool b ∧ Hid (b = (oN && [x.wh, x.hv].all noneB)) ∧ Hid (Below w6.heap.size w6 wx))
 case first =>
  go_wp2_with fail
  go_loopg [104, 3] 2 (fun gk a ok wr => ∃ (i : Nat) (b : Bool), i + gk = 2 ∧ a = .int .i64 i ∧ ok = .bool b ∧ Hid (b = (oN && ([x.wh, x.hv].take i).all noneB)) ∧ Hid (Below w6.heap.size w6 wr))
  case atStart => exact ⟨0, oN, by omega, rfl, rfl, Lib.hid (by simp), Lib.hid (Below.refl _ _)⟩
  case round =>
   obtain ⟨i, b, hig, rfl, rfl, HBB, HQr⟩ := hrel
   by_cases i0e : i = 0
   · subst i0e
     have HZM := Lib.hid (show TrP x.wh from HSP.out.2.1.1)
     have HQz := Lib.hid (bl_al (Below.refl wr.heap.size wr) (.cells #[.slice W0 a0 b0] 26))
     have HZ := Lib.hid (Blk.new wr 26 #[.slice W0 a0 b0])
     have HAX := Lib.hid (all_takeQ (p := noneB) (show [x.wh, x.hv][0]? = some x.wh from rfl))
     go_upto_region 22 with fail
     generalize wr.alloc (.cells #[.slice W0 a0 b0] 26) = wz at *
     have HQ0 := Lib.hid (bl_ca HQr.out HQz.out)
     have HTz := Lib.hid (HT6.out.below HQ0.out)
     cases b
     · go_wp2_with fail
       go_roundg (gk - 1)
       · exact ⟨0 + 1, false, by omega, by go_num, rfl, Lib.hid (by rw [HAX.out, ← Bool.and_assoc, ← HBB.out]; rfl), HQ0⟩
       · omega
     · have y0 := HZ.out.cell 0
       by_cases hz : a0 = 0
       · have hz1 : ((a0 : Int) = 0) := by omega
         have hz2 : noneB x.wh = true := by
          unfold noneB
          rw [decide_eq_true (show (x.wh).length = 0 from by have := Lay.rd_len HR6.out.2.2.1.1; omega)]; rfl
         go_wp2_with fail
         go_roundg (gk - 1)
         · exact ⟨0 + 1, true, by omega, by go_num, rfl, Lib.hid (by rw [HAX.out, ← Bool.and_assoc, ← HBB.out, hz2]; rfl), HQ0⟩
         · omega
       · have hz1 : ¬ ((a0 : Int) = 0) := by omega
         have hz2 : noneB x.wh = okF x.wh := by
          unfold noneB
          rw [decide_eq_false (show ¬ (x.wh).length = 0 from by have := Lay.rd_len HR6.out.2.2.1.1; omega)]; rfl
         go_wp2_with fail
         have q1 := bl_al (Below.refl wz.heap.size wz) (.cells #[.slice W0 a0 b0] 26)
         have hb1 := Blk.new wz 26 #[.slice W0 a0 b0]
         refine (trees_any F x.wh W0 a0 b0 wz.heap.size _ hb1 (Lay.rd_below (Lay.rd_below HR6.out.2.2.1.1 HQ0.out) q1) HR6.out.2.2.1.2.1 HR6.out.2.2.1.2.2 HZM.out (HTz.out.below q1)).mono ?_
         rintro e wt ⟨rfl, q2⟩
         have HQt := Lib.hid (bl_ca q1 q2)
         clear y0 q1 q2 hb1
         generalize hv9 : okF x.wh = v9 at *
         go_wp2_with fail
         go_roundg (gk - 1)
         · exact ⟨0 + 1, v9, by omega, by go_num, by rw [show (((a0 : Nat) : Int) == 0) = false from by simpa using hz]; rfl, Lib.hid (by rw [HAX.out, ← Bool.and_assoc, ← HBB.out, hz2]; rfl), Lib.hid (bl_ca HQ0.out HQt.out)⟩
         · omega
   by_cases i0e : i = 1
   · subst i0e
     have HZM := Lib.hid (show TrP x.hv from HSP.out.2.1.2)
     have HQz := Lib.hid (bl_al (Below.refl wr.heap.size wr) (.cells #[.slice H0 e0 f0] 26))
     have HZ := Lib.hid (Blk.new wr 26 #[.slice H0 e0 f0])
     have HAX := Lib.hid (all_takeQ (p := noneB) (show [x.wh, x.hv][1]? = some x.hv from rfl))
     go_upto_region 22 with fail
     generalize wr.alloc (.cells #[.slice H0 e0 f0] 26) = wz at *
     have HQ0 := Lib.hid (bl_ca HQr.out HQz.out)
     have HTz := Lib.hid (HT6.out.below HQ0.out)
     cases b
     · go_wp2_with fail
       go_roundg (gk - 1)
       · exact ⟨1 + 1, false, by omega, by go_num, rfl, Lib.hid (by rw [HAX.out, ← Bool.and_assoc, ← HBB.out]; rfl), HQ0⟩
       · omega
     · have y0 := HZ.out.cell 0
       by_cases hz : e0 = 0
       · have hz1 : ((e0 : Int) = 0) := by omega
         have hz2 : noneB x.hv = true := by
          unfold noneB
          rw [decide_eq_true (show (x.hv).length = 0 from by have := Lay.rd_len HR6.out.2.2.2.1.1; omega)]; rfl
         go_wp2_with fail
         go_roundg (gk - 1)
         · exact ⟨1 + 1, true, by omega, by go_num, rfl, Lib.hid (by rw [HAX.out, ← Bool.and_assoc, ← HBB.out, hz2]; rfl), HQ0⟩
         · omega
       · have hz1 : ¬ ((e0 : Int) = 0) := by omega
         have hz2 : noneB x.hv = okF x.hv := by
          unfold noneB
          rw [decide_eq_false (show ¬ (x.hv).length = 0 from by have := Lay.rd_len HR6.out.2.2.2.1.1; omega)]; rfl
         go_wp2_with fail
         have q1 := bl_al (Below.refl wz.heap.size wz) (.cells #[.slice H0 e0 f0] 26)
         have hb1 := Blk.new wz 26 #[.slice H0 e0 f0]
         refine (trees_any F x.hv H0 e0 f0 wz.heap.size _ hb1 (Lay.rd_below (Lay.rd_below HR6.out.2.2.2.1.1 HQ0.out) q1) HR6.out.2.2.2.1.2.1 HR6.out.2.2.2.1.2.2 HZM.out (HTz.out.below q1)).mono ?_
         rintro e wt ⟨rfl, q2⟩
         have HQt := Lib.hid (bl_ca q1 q2)
         clear y0 q1 q2 hb1
         generalize hv9 : okF x.hv = v9 at *
         go_wp2_with fail
         go_roundg (gk - 1)
         · exact ⟨1 + 1, v9, by omega, by go_num, by rw [show (((e0 : Nat) : Int) == 0) = false from by simpa using hz]; rfl, Lib.hid (by rw [HAX.out, ← Bool.and_assoc, ← HBB.out, hz2]; rfl), Lib.hid (bl_ca HQ0.out HQt.out)⟩
         · omega
   have hie : i = 2 := by omega
   subst hie
   have HAe := Lib.hid (show b = (oN && [x.wh, x.hv].all noneB) from HBB.out)
   go_wp2_with fail
   go_meet
   exact ⟨b, rfl, HAe, HQr⟩
 case rest =>
 obtain ⟨oF, rfl, HoF, HQ7⟩ := hcut
 have HQ := Lib.hid (bl_ca HQ06.out HQ7.out)
 go_wp2_with fail
 go_ret
 exact ⟨ret_bool (by
  rw [HRR.out, HoF.out, HoN.out, HoJ.out, HoI.out, HOS.out]; unfold selB; rw [shape_of HEbS.out HLN.out.1 HLN.out.2.1 HLN.out.2.2]
  simp [Bool.and_assoc]), HQ.out⟩
end Go.Proofs.YtoaggmldekejoaaGreatDoor
