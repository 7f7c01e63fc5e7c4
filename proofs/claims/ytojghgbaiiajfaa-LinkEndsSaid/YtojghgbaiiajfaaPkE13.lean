/- link.takes. Conditions: the rows read as these; the receiver may be. -/
import Derived.Test.YtojghgbaiiajfaaPkE12
import Derived.Deep.LoopGhost
import Derived.Shelf.Abstract
import Derived.Shelf.RegionOpen
import Derived.Shelf.RegionOpenPlain
import Derived.Lib.SliceRun
import Derived.Lib.Overlaps
import Derived.Lib.AppendZerosOnto
import Derived.Laws.Externs
import Derived.Laws.IdiomCopy
namespace Go.Proofs.Ytojghgbaiiajfaa
open Go.RowKit

/-- what is handed over: a test of a held batch -/
def TestH (D : FuncId) (cap : Array Value) (f : HC → Bool) (G : World → Prop) : Prop :=
 ∀ (q : HC) (B : Option Addr) (k d : Nat) (W : World), G W → Calls Try.prog D (#[.agg #[.int .u64 q.seq, .slice B k d, .bool q.b.fin, .int .u64 q.b.cnt]] ++ cap) W fun e w' => e = .returned (.bool (f q)) ∧ Below W.heap.size W w'
set_option maxRecDepth 100000 in
set_option maxHeartbeats 4000000 in
theorem indexH (F : Nat → Prop) (A : Option Addr) (m c : Nat) (xs : List HC) (D : FuncId) (cap : Array Value) (f : HC → Bool) (w : World) (h : LH4.rd w F A m xs) (hm : m ≤ 9223372036854775807)
 (hent : ∀ (args : Array Value) (w : World), (callFunc D args).run Try.prog w = .ok (.enter D args) w) (hD : TestH D cap f (fun W => Below w.heap.size w W)) :
 Calls Try.prog 120 #[.slice A m c, .func (.func D) #[] cap] w fun e w' => e = .returned (.int .i64 (idxL f xs)) ∧ Below w.heap.size w w' := by
 have HL := Lib.hid h.1
 have HEN := hent
 have HD := Lib.hid hD
 clear hent hD
 go_enter Try.func120, Try.ntmps120
 go_wp2_with fail
 go_loopg [8] m (fun g a wr => ∃ i : Nat, i + g = m ∧ a = .int .i64 i ∧ (∀ (k : Nat) (q : HC), k < i → xs[k]? = some q → f q = false) ∧ Below w.heap.size w wr)
 case atStart => exact ⟨0, by omega, rfl, fun k q hk => by omega, Below.refl _ _⟩
 case round =>
  obtain ⟨i, hig, rfl, hlo, bb⟩ := hrel
  have HLO := Lib.hid hlo
  have HBB := Lib.hid bb
  clear hlo
  by_cases hlt : i < m
  · have hi1 : (i : Int) < (m : Int) := by omega
    obtain ⟨p, q, B, k, d, rfl, hx, s1⟩ := LH4_at (Lay.rd_below h bb) hlt
    have e0 := s1.c0
    have e1 := s1.c1
    have e2 := s1.c2
    have e3 := s1.c3
    have HX := Lib.hid hx
    have HKC := Lib.hid (HD.out q B k d wr bb )
    clear hx s1 bb
    cases hq : f q
    · rw [hq] at HKC
      have HF := Lib.hid (show ∀ (k : Nat) (r : HC), k < i + 1 → xs[k]? = some r → f r = false from fun k r hk hr => by
       rcases Nat.lt_or_ge k i with h1 | h1
       · exact HLO.out k r h1 hr
       · obtain rfl : k = i := by omega
         have h2 := HX.out
         rw [hr] at h2
         injection h2 with h2
         subst h2
         exact hq)
      clear hq
      go_wp2_with fail
      refine HKC.out.mono ?_
      rintro e w2 ⟨rfl, q2⟩
      have b2 := bl_ca HBB.out q2
      clear q2
      go_wp2
      go_roundg (gk - 1)
      · exact ⟨i + 1, by omega, by go_num, HF.out, b2⟩
      · omega
    · rw [hq] at HKC
      have HF := Lib.hid (idxL_at HX.out hq HLO.out)
      clear hq
      go_wp2_with fail
      refine HKC.out.mono ?_
      rintro e w2 ⟨rfl, q2⟩
      have b2 := bl_ca HBB.out q2
      clear q2
      go_wp2
      go_ret
      exact ⟨ret_int (by rw [HF.out]), b2⟩
  · obtain rfl : i = m := by omega
    have hi1 : (i : Int) ≤ (i : Int) := by omega
    have HF := Lib.hid (idxL_no (fun k q hk => HLO.out k q (by rw [← HL.out]; exact hk)))
    clear bb
    go_wp2
    go_ret
    exact ⟨ret_int (by rw [HF.out]), HBB.out⟩
set_option maxRecDepth 100000 in
theorem containsH (F : Nat → Prop) (A : Option Addr) (m c : Nat) (xs : List HC) (D : FuncId) (cap : Array Value) (f : HC → Bool) (w : World) (h : LH4.rd w F A m xs) (hm : m ≤ 9223372036854775807)
 (hent : ∀ (args : Array Value) (w : World), (callFunc D args).run Try.prog w = .ok (.enter D args) w) (hD : TestH D cap f (fun W => Below w.heap.size w W)) :
 Calls Try.prog 107 #[.slice A m c, .func (.func D) #[] cap] w fun e w' => e = .returned (.bool (xs.any f)) ∧ Below w.heap.size w w' := by
 have HI := Lib.hid (indexH F A m c xs D cap f w h hm hent hD)
 have HE := Lib.hid (idxL_has f xs)
 clear h hent hD
 generalize idxL f xs = z at *
 go_enter Try.func107, Try.ntmps107
 go_wp2_with fail
 refine HI.out.mono ?_
 rintro e w2 ⟨rfl, q2⟩
 have HQ := Lib.hid q2
 clear q2
 go_wp2
 go_ret
 exact ⟨ret_bool (by rw [← HE.out]), HQ.out⟩

/-- does a held batch stand against one of a number? -/
def againstB (b : BC) (seq : Int) (h : HC) : Bool := (decide (h.seq = seq) || (h.b.fin && decide (h.seq < seq))) || (b.fin && decide (seq < h.seq))
def takesB (r : RC) (b : BC) (seq : Int) : Bool := !(((r.over || endsB r.buf) || decide (seq < r.next)) || decide (limR r < seq)) && !(r.ahead.any (againstB b seq))
set_option maxRecDepth 100000 in
set_option maxHeartbeats 16000000 in
theorem takes1_any (b : BC) (seq : Int) (p5 p4 : Nat) (bA : Option Addr) (bn bc : Nat) (w0 : World) (h5 : Blk w0 p5 26 #[.int .u64 seq]) (h4 : Blk w0 p4 45 #[.slice bA bn bc, .bool b.fin, .int .u64 b.cnt]) :
 TestH 108 #[.pointer (some ⟨p5, 0, none⟩), .pointer (some ⟨p4, 0, none⟩)] (againstB b seq) (fun W => Below w0.heap.size w0 W) := by
 intro q B k d W hW
 have q1 := bl_al (Below.refl W.heap.size W) (.cells #[.int .u64 q.seq, .slice B k d, .bool q.b.fin, .int .u64 q.b.cnt] 81)
 have HQ1 := Lib.hid q1
 have HN := Lib.hid (Blk.new W 81 #[.int .u64 q.seq, .slice B k d, .bool q.b.fin, .int .u64 q.b.cnt])
 have H5 := Lib.hid ((h5.ca hW).ca q1)
 have H4 := Lib.hid ((h4.ca hW).ca q1)
 clear q1 h5 h4 hW
 obtain ⟨gg, hgg⟩ : ∃ gg, gg = W.heap.size := ⟨_, rfl⟩
 rw [← hgg] at HN
 obtain ⟨RR, hRR⟩ : ∃ RR, RR = againstB b seq q := ⟨_, rfl⟩
 rw [← hRR]
 have HRR := Lib.hid hRR
 clear hRR
 show Calls Try.prog 108 #[.agg #[.int .u64 q.seq, .slice B k d, .bool q.b.fin, .int .u64 q.b.cnt], .pointer (some ⟨p5, 0, none⟩), .pointer (some ⟨p4, 0, none⟩)] W _
 go_enter Try.func108, Try.ntmps108
 go_upto_region 1 with fail
 rw [← hgg]
 generalize W.alloc (.cells #[.int .u64 q.seq, .slice B k d, .bool q.b.fin, .int .u64 q.b.cnt] 81) = w1 at *
 clear hgg
 refine wp_region_ps0 .text (S := fun _ _ w' => Below w1.heap.size w1 w') (by kernel_rfl) ?spswg1 ?ppswg1
 case spswg1 =>
  exact (Below.refl w1.heap.size w1)
 refine Pz 0 (some 5) (.pointer (some ⟨gg, 0, none⟩)) rfl rfl (by exact StepS.pure nP rfl fun _ => rfl) ?_
 try simp only [Act.put, sA, sZ, sS]
 refine Pz 1 (some 6) (.int .u64 (q.seq)) rfl rfl ?ywg1_3 ?rwg1_3
 case ywg1_3 =>
  refine StepS.read [] (by kernel_rfl) nP (by rfl) (fun L9 m9 w9 hSh hAt hDn hS => ?_)
  have hT : Below _ _ w9 := hS
  have x0 : w9.cell? ⟨gg, 0, none⟩ = some (.int .u64 (q.seq)) := (HN.out.ca hT).cell 0
  clear hT hS
  go_simp
  try rfl
 try simp only [Act.put, sA, sZ, sS]
 refine Pz 2 (some 7) (.int .u64 (seq)) rfl rfl ?ywg1_4 ?rwg1_4
 case ywg1_4 =>
  refine StepS.read [] (by kernel_rfl) nP (by rfl) (fun L9 m9 w9 hSh hAt hDn hS => ?_)
  have hT : Below _ _ w9 := hS
  have x0 : w9.cell? ⟨p5, 0, none⟩ = some (.int .u64 (seq)) := (H5.out.ca hT).cell 0
  clear hT hS
  go_simp
  try rfl
 try simp only [Act.put, sA, sZ, sS]
 refine Pz 3 (some 8) (.bool (decide (q.seq = seq))) rfl rfl (by exact StepS.pure nP rfl fun _ => rfl) ?_
 try simp only [Act.put, sA, sZ, sS]
 obtain ⟨bS, hb9⟩ : ∃ zb : Bool, zb = (decide (q.seq = seq)) := ⟨_, rfl⟩
 have HEbS := Lib.hid hb9
 clear hb9
 refine Pz 4 (some 9) (.bool (bS)) rfl rfl ?ywg1_6 ?rwg1_6
 case ywg1_6 =>
  refine StepS.pure nP (by rfl) (fun w9 => ?_)
  have e9 : (decide (q.seq = seq)) = bS := by rw [HEbS.out]
  rw [← e9]
  clear e9
  first | rfl | (go_simp; done) | (go_simp; rfl)
 try simp only [Act.put, sA, sZ, sS]
 refine Pz 5 (some 10) (cond bS (undef) (.pointer (some ⟨gg, 1, none⟩))) rfl rfl (by cases bS; (exact StepS.pure nP rfl fun _ => rfl); exact StepS.skip nP rfl) ?_
 try simp only [Act.put, sA, sZ, sS]
 refine Pz 6 (some 11) (cond bS (undef) (.pointer (some ⟨gg, 2, none⟩))) rfl rfl (by cases bS; (exact StepS.pure nP rfl fun _ => rfl); exact StepS.skip nP rfl) ?_
 try simp only [Act.put, sA, sZ, sS]
 refine Pz 7 (some 12) (cond bS (undef) (.bool (q.b.fin))) rfl rfl ?ywg1_9 ?rwg1_9
 case ywg1_9 =>
  cases bS
  · skip
    refine StepS.read [] (by kernel_rfl) nP (by rfl) (fun L9 m9 w9 hSh hAt hDn hS => ?_)
    have hT : Below _ _ w9 := hS
    have x0 : w9.cell? ⟨gg, 2, none⟩ = some (.bool (q.b.fin)) := (HN.out.ca hT).cell 2
    clear hT hS
    go_simp
    try rfl
  · exact StepS.skip nP (by rfl)
 try simp only [Act.put, sA, sZ, sS]
 obtain ⟨bF, hb9⟩ : ∃ zb : Bool, zb = (q.b.fin) := ⟨_, rfl⟩
 have HEbF := Lib.hid hb9
 clear hb9
 refine Pz 8 (some 13) (cond bS (undef) (.bool (bF))) rfl rfl ?ywg1_10 ?rwg1_10
 case ywg1_10 =>
  cases bS
  · skip
    refine StepS.pure nP (by rfl) (fun w9 => ?_)
    have e9 : (q.b.fin) = bF := by rw [HEbF.out]
    rw [← e9]
    clear e9
    first | rfl | (go_simp; done) | (go_simp; rfl)
  · exact StepS.skip nP (by rfl)
 try simp only [Act.put, sA, sZ, sS]
 refine Pz 9 (some 14) (cond bS (undef) (cond bF (.int .u64 (seq)) (undef))) rfl rfl ?ywg1_11 ?rwg1_11
 case ywg1_11 =>
  cases bS
  · skip
    cases bF
    · exact StepS.skip nP (by rfl)
    · skip
      refine StepS.read [] (by kernel_rfl) nP (by rfl) (fun L9 m9 w9 hSh hAt hDn hS => ?_)
      have hT : Below _ _ w9 := hS
      have x0 : w9.cell? ⟨p5, 0, none⟩ = some (.int .u64 (seq)) := (H5.out.ca hT).cell 0
      clear hT hS
      go_simp
      try rfl
  · exact StepS.skip nP (by rfl)
 try simp only [Act.put, sA, sZ, sS]
 refine Pz 10 (some 15) (cond bS (undef) (cond bF (.pointer (some ⟨gg, 0, none⟩)) (undef))) rfl rfl (by cases bS; (cases bF; exact StepS.skip nP rfl; exact StepS.pure nP rfl fun _ => rfl); exact StepS.skip nP rfl) ?_
 try simp only [Act.put, sA, sZ, sS]
 refine Pz 11 (some 16) (cond bS (undef) (cond bF (.int .u64 (q.seq)) (undef))) rfl rfl ?ywg1_13 ?rwg1_13
 case ywg1_13 =>
  cases bS
  · skip
    cases bF
    · exact StepS.skip nP (by rfl)
    · skip
      refine StepS.read [] (by kernel_rfl) nP (by rfl) (fun L9 m9 w9 hSh hAt hDn hS => ?_)
      have hT : Below _ _ w9 := hS
      have x0 : w9.cell? ⟨gg, 0, none⟩ = some (.int .u64 (q.seq)) := (HN.out.ca hT).cell 0
      clear hT hS
      go_simp
      try rfl
  · exact StepS.skip nP (by rfl)
 try simp only [Act.put, sA, sZ, sS]
 refine Pz 12 (some 17) (cond bS (undef) (cond bF (.bool (decide (q.seq < seq))) (undef))) rfl rfl (by cases bS; (cases bF; exact StepS.skip nP rfl; exact StepS.pure nP rfl fun _ => rfl); exact StepS.skip nP rfl) ?_
 try simp only [Act.put, sA, sZ, sS]
 refine Pz 13 (some 18) (cond bS (undef) (.bool (bF && (decide (q.seq < seq))))) rfl rfl ?ywg1_15 ?rwg1_15
 case ywg1_15 =>
  cases bS
  · skip
    refine StepS.pure nP (by rfl) (fun w9 => ?_)
    cases bF <;> (first | rfl | (go_simp; done) | (go_simp; rfl))
  · exact StepS.skip nP (by rfl)
 try simp only [Act.put, sA, sZ, sS]
 refine Pz 14 (some 19) (.bool (bS || (bF && (decide (q.seq < seq))))) rfl rfl ?ywg1_16 ?rwg1_16
 case ywg1_16 =>
  refine StepS.pure nP (by rfl) (fun w9 => ?_)
  cases bS <;> (first | rfl | (go_simp; done) | (go_simp; rfl))
 try simp only [Act.put, sA, sZ, sS]
 obtain ⟨bM, hb9⟩ : ∃ zb : Bool, zb = ((decide (q.seq = seq)) || ((q.b.fin) && (decide (q.seq < seq)))) := ⟨_, rfl⟩
 have HEbM := Lib.hid hb9
 clear hb9
 refine Pz 15 (some 20) (.bool (bM)) rfl rfl ?ywg1_17 ?rwg1_17
 case ywg1_17 =>
  refine StepS.pure nP (by rfl) (fun w9 => ?_)
  have e9 : (bS || (bF && (decide (q.seq < seq)))) = bM := by rw [HEbM.out, HEbS.out, HEbF.out]
  rw [← e9]
  clear e9
  first | rfl | (go_simp; done) | (go_simp; rfl)
 try simp only [Act.put, sA, sZ, sS]
 refine Pz 16 (some 21) (cond bM (undef) (.pointer (some ⟨p4, 1, none⟩))) rfl rfl (by cases bM; (exact StepS.pure nP rfl fun _ => rfl); exact StepS.skip nP rfl) ?_
 try simp only [Act.put, sA, sZ, sS]
 refine Pz 17 (some 22) (cond bM (undef) (.bool (b.fin))) rfl rfl ?ywg1_19 ?rwg1_19
 case ywg1_19 =>
  cases bM
  · skip
    refine StepS.read [] (by kernel_rfl) nP (by rfl) (fun L9 m9 w9 hSh hAt hDn hS => ?_)
    have hT : Below _ _ w9 := hS
    have x0 : w9.cell? ⟨p4, 1, none⟩ = some (.bool (b.fin)) := (H4.out.ca hT).cell 1
    clear hT hS
    go_simp
    try rfl
  · exact StepS.skip nP (by rfl)
 try simp only [Act.put, sA, sZ, sS]
 obtain ⟨bG, hb9⟩ : ∃ zb : Bool, zb = (b.fin) := ⟨_, rfl⟩
 have HEbG := Lib.hid hb9
 clear hb9
 refine Pz 18 (some 23) (cond bM (undef) (.bool (bG))) rfl rfl ?ywg1_20 ?rwg1_20
 case ywg1_20 =>
  cases bM
  · skip
    refine StepS.pure nP (by rfl) (fun w9 => ?_)
    have e9 : (b.fin) = bG := by rw [HEbG.out]
    rw [← e9]
    clear e9
    first | rfl | (go_simp; done) | (go_simp; rfl)
  · exact StepS.skip nP (by rfl)
 try simp only [Act.put, sA, sZ, sS]
 refine Pz 19 (some 24) (cond bM (undef) (cond bG (.pointer (some ⟨gg, 0, none⟩)) (undef))) rfl rfl (by cases bM; (cases bG; exact StepS.skip nP rfl; exact StepS.pure nP rfl fun _ => rfl); exact StepS.skip nP rfl) ?_
 try simp only [Act.put, sA, sZ, sS]
 refine Pz 20 (some 25) (cond bM (undef) (cond bG (.int .u64 (q.seq)) (undef))) rfl rfl ?ywg1_22 ?rwg1_22
 case ywg1_22 =>
  cases bM
  · skip
    cases bG
    · exact StepS.skip nP (by rfl)
    · skip
      refine StepS.read [] (by kernel_rfl) nP (by rfl) (fun L9 m9 w9 hSh hAt hDn hS => ?_)
      have hT : Below _ _ w9 := hS
      have x0 : w9.cell? ⟨gg, 0, none⟩ = some (.int .u64 (q.seq)) := (HN.out.ca hT).cell 0
      clear hT hS
      go_simp
      try rfl
  · exact StepS.skip nP (by rfl)
 try simp only [Act.put, sA, sZ, sS]
 refine Pz 21 (some 26) (cond bM (undef) (cond bG (.int .u64 (seq)) (undef))) rfl rfl ?ywg1_23 ?rwg1_23
 case ywg1_23 =>
  cases bM
  · skip
    cases bG
    · exact StepS.skip nP (by rfl)
    · skip
      refine StepS.read [] (by kernel_rfl) nP (by rfl) (fun L9 m9 w9 hSh hAt hDn hS => ?_)
      have hT : Below _ _ w9 := hS
      have x0 : w9.cell? ⟨p5, 0, none⟩ = some (.int .u64 (seq)) := (H5.out.ca hT).cell 0
      clear hT hS
      go_simp
      try rfl
  · exact StepS.skip nP (by rfl)
 try simp only [Act.put, sA, sZ, sS]
 refine Pz 22 (some 27) (cond bM (undef) (cond bG (.bool (decide (seq < q.seq))) (undef))) rfl rfl (by cases bM; (cases bG; exact StepS.skip nP rfl; exact StepS.pure nP rfl fun _ => rfl); exact StepS.skip nP rfl) ?_
 try simp only [Act.put, sA, sZ, sS]
 refine Pz 23 (some 28) (cond bM (undef) (.bool (bG && (decide (seq < q.seq))))) rfl rfl ?ywg1_25 ?rwg1_25
 case ywg1_25 =>
  cases bM
  · skip
    refine StepS.pure nP (by rfl) (fun w9 => ?_)
    cases bG <;> (first | rfl | (go_simp; done) | (go_simp; rfl))
  · exact StepS.skip nP (by rfl)
 try simp only [Act.put, sA, sZ, sS]
 obtain ⟨bR, hb9⟩ : ∃ zb : Bool, zb = (((decide (q.seq = seq)) || ((q.b.fin) && (decide (q.seq < seq)))) || ((b.fin) && (decide (seq < q.seq)))) := ⟨_, rfl⟩
 have HEbR := Lib.hid hb9
 clear hb9
 refine Pz 24 (some 29) (.bool (bR)) rfl rfl ?ywg1_26 ?rwg1_26
 case ywg1_26 =>
  refine StepS.pure nP (by rfl) (fun w9 => ?_)
  have e9 : (bM || (bG && (decide (seq < q.seq)))) = bR := by rw [HEbR.out, HEbM.out, HEbG.out]
  rw [← e9]
  clear e9
  cases bM <;> (first | rfl | (go_simp; done) | (go_simp; rfl))
 try simp only [Act.put, sA, sZ, sS]
 refine Pz 25 (some 4) (.bool (bR)) rfl rfl (by exact StepS.pure nP rfl fun _ => rfl) ?_
 try simp only [Act.put, sA, sZ, sS]
 refine Ps.done (by kernel_rfl) (fun wg1 hS => ?_) _
 try generalize (cond bS (undef) (cond bF (.pointer (some ⟨gg, 0, none⟩)) (undef)) : Value) = zz28
 try generalize (cond bM (undef) (cond bG (.pointer (some ⟨gg, 0, none⟩)) (undef)) : Value) = zz29
 try generalize (cond bS (undef) (cond bF (.bool (decide (q.seq < seq))) (undef)) : Value) = zz30
 try generalize (cond bM (undef) (cond bG (.bool (decide (seq < q.seq))) (undef)) : Value) = zz31
 try generalize (cond bM (undef) (.bool (bG && (decide (seq < q.seq)))) : Value) = zz32
 try generalize (cond bS (undef) (.bool (bF && (decide (q.seq < seq)))) : Value) = zz33
 try generalize (cond bM (undef) (cond bG (.int .u64 (q.seq)) (undef)) : Value) = zz34
 try generalize (cond bS (undef) (cond bF (.int .u64 (q.seq)) (undef)) : Value) = zz35
 try generalize (cond bS (undef) (cond bF (.int .u64 (seq)) (undef)) : Value) = zz36
 try generalize (cond bM (undef) (cond bG (.int .u64 (seq)) (undef)) : Value) = zz37
 try generalize (cond bM (undef) (.pointer (some ⟨p4, 1, none⟩)) : Value) = zz38
 try generalize (cond bS (undef) (.pointer (some ⟨gg, 1, none⟩)) : Value) = zz39
 try generalize (cond bS (undef) (.pointer (some ⟨gg, 2, none⟩)) : Value) = zz40
 try generalize (.bool (bS || (bF && (decide (q.seq < seq)))) : Value) = zz41
 try generalize (cond bS (undef) (.bool (q.b.fin)) : Value) = zz42
 try generalize (cond bM (undef) (.bool (b.fin)) : Value) = zz43
 try generalize (cond bS (undef) (.bool (bF)) : Value) = zz44
 try generalize (cond bM (undef) (.bool (bG)) : Value) = zz45
 have HQ2 := Lib.hid (show Below w1.heap.size w1 wg1 from hS)
 clear hS
 obtain ⟨w2, rfl⟩ : ∃ x, x = wg1 := ⟨_, rfl⟩
 go_wp2
 go_ret
 exact ⟨ret_bool (by rw [HRR.out, HEbR.out]; rfl), bl_ca HQ1.out HQ2.out⟩
set_option maxRecDepth 100000 in
set_option maxHeartbeats 16000000 in
theorem takes_any (F F2 : Nat → Prop) (r : RC) (A : Option Addr) (n c : Nat) (A2 : Option Addr) (m d : Nat) (b : BC) (bA : Option Addr) (bn bc : Nat) (seq : Int) (w : World) (h : LH4.rd w F A n r.ahead) (h2 : LB3.rd w F2 A2 m r.buf) (hn : n ≤ 9223372036854775807) (hm : m ≤ 9223372036854775807) (hok : recB r = true) :
 Calls Try.prog 76 #[.agg (r.cells A n c A2 m d), .agg #[.slice bA bn bc, .bool b.fin, .int .u64 b.cnt], .int .u64 seq] w fun e w' => e = .returned (.bool (takesB r b seq)) ∧ Below w.heap.size w w' := by
 have q1 := bl_al (Below.refl w.heap.size w) (.cells (r.cells A n c A2 m d) 36)
 have q2 := bl_al (Below.refl (w.alloc (.cells (r.cells A n c A2 m d) 36)).heap.size (w.alloc (.cells (r.cells A n c A2 m d) 36))) (.cells #[.slice bA bn bc, .bool b.fin, .int .u64 b.cnt] 45)
 have q3 := bl_al (Below.refl ((w.alloc (.cells (r.cells A n c A2 m d) 36)).alloc (.cells #[.slice bA bn bc, .bool b.fin, .int .u64 b.cnt] 45)).heap.size ((w.alloc (.cells (r.cells A n c A2 m d) 36)).alloc (.cells #[.slice bA bn bc, .bool b.fin, .int .u64 b.cnt] 45))) (.cells #[.int .u64 seq] 26)
 have hq := bl_ca q1 (bl_ca q2 q3)
 have hq2 := bl_ca q2 q3
 have HR1 := Lib.hid ((Blk.new w 36 (r.cells A n c A2 m d)).ca hq2)
 have HB1 := Lib.hid (show Blk (((w.alloc (.cells (r.cells A n c A2 m d) 36)).alloc (.cells #[.slice bA bn bc, .bool b.fin, .int .u64 b.cnt] 45)).alloc (.cells #[.int .u64 seq] 26)) (w.heap.size + 1) 45 #[.slice bA bn bc, .bool b.fin, .int .u64 b.cnt] from Blk.ca (Blk.mk' (by simp only [World.size_alloc])) q3)
 have HS1 := Lib.hid (show Blk (((w.alloc (.cells (r.cells A n c A2 m d) 36)).alloc (.cells #[.slice bA bn bc, .bool b.fin, .int .u64 b.cnt] 45)).alloc (.cells #[.int .u64 seq] 26)) (w.heap.size + 2) 26 #[.int .u64 seq] from Blk.mk' (by simp only [World.size_alloc]))
 have HRA := Lib.hid (Lay.rd_below (Lay.rd_below h q1) hq2)
 have HRB := Lib.hid (Lay.rd_below (Lay.rd_below h2 q1) hq2)
 have HQ := Lib.hid hq
 have hbl := Lay.rd_len h2
 have hrs := recB_len hok
 have hrm : (r.buf.length : Int) ≤ r.room ∧ r.room ≤ 8 := by
  unfold recB recA at hok
  simp only [Bool.and_eq_true, decide_eq_true_eq] at hok
  omega
 clear h h2 q1 q2 q3 hq hq2 hok
 obtain ⟨RR, hRR⟩ : ∃ RR, RR = takesB r b seq := ⟨_, rfl⟩
 rw [← hRR]
 have HRR := Lib.hid hRR
 clear hRR
 obtain ⟨ses, next, ahead, buf, room, over⟩ := r
 dsimp only at hbl hrs hrm
 obtain ⟨en, hen⟩ : ∃ en, en = endsB buf := ⟨_, rfl⟩
 have HEN := Lib.hid hen
 clear hen
 obtain ⟨lm, hlm⟩ : ∃ lm, lm = limR ⟨ses, next, ahead, buf, room, over⟩ := ⟨_, rfl⟩
 have HLM := Lib.hid hlm
 clear hlm
 go_enter Try.func76, Try.ntmps76
 go_wp2_with fail
 generalize ((w.alloc (.cells (RC.cells ⟨ses, next, ahead, buf, room, over⟩ A n c A2 m d) 36)).alloc (.cells #[.slice bA bn bc, .bool b.fin, .int .u64 b.cnt] 45)).alloc (.cells #[.int .u64 seq] 26) = w1 at *
 refine wp_region_ps (S := fun _ _ w' => Below w1.heap.size w1 w') (by kernel_rfl) ?spswg46 ?ppswg46
 case spswg46 =>
  exact (Below.refl w1.heap.size w1).drew
 refine Pz 0 (some 7) (.pointer (some ⟨w.heap.size, 5, none⟩)) rfl rfl (by exact StepS.pure nP rfl fun _ => rfl) ?_
 try simp only [Act.put, sA, sZ, sS]
 refine Pz 1 (some 8) (.bool (over)) rfl rfl ?ywg46_48 ?rwg46_48
 case ywg46_48 =>
  refine StepS.read [] (by kernel_rfl) nP (by rfl) (fun L9 m9 w9 hSh hAt hDn hS => ?_)
  have hT : Below _ _ w9 := hS
  have x0 : w9.cell? ⟨w.heap.size, 5, none⟩ = some (.bool (over)) := (HR1.out.ca hT).cell 5
  clear hT hS
  go_simp
  try rfl
 try simp only [Act.put, sA, sZ, sS]
 obtain ⟨bO, hb9⟩ : ∃ zb : Bool, zb = (over) := ⟨_, rfl⟩
 have HEbO := Lib.hid hb9
 clear hb9
 refine Pz 2 (some 9) (.bool (bO)) rfl rfl ?ywg46_49 ?rwg46_49
 case ywg46_49 =>
  refine StepS.pure nP (by rfl) (fun w9 => ?_)
  have e9 : (over) = bO := by rw [HEbO.out]
  rw [← e9]
  clear e9
  first | rfl | (go_simp; done) | (go_simp; rfl)
 try simp only [Act.put, sA, sZ, sS]
 refine Pz 3 (some 10) (cond bO (undef) (.pointer (some ⟨w.heap.size, 3, none⟩))) rfl rfl (by cases bO; (exact StepS.pure nP rfl fun _ => rfl); exact StepS.skip nP rfl) ?_
 try simp only [Act.put, sA, sZ, sS]
 refine Pz 4 (some 11) (cond bO (undef) (.slice A2 m d)) rfl rfl ?ywg46_51 ?rwg46_51
 case ywg46_51 =>
  cases bO
  · skip
    refine StepS.read [] (by kernel_rfl) nP (by rfl) (fun L9 m9 w9 hSh hAt hDn hS => ?_)
    have hT : Below _ _ w9 := hS
    have x0 : w9.cell? ⟨w.heap.size, 3, none⟩ = some (.slice A2 m d) := (HR1.out.ca hT).cell 3
    clear hT hS
    go_simp
    try rfl
  · exact StepS.skip nP (by rfl)
 try simp only [Act.put, sA, sZ, sS]
 refine Pz 5 (some 12) (cond bO (undef) (.bool (en))) rfl rfl ?ywg46_52 ?rwg46_52
 case ywg46_52 =>
  cases bO
  · skip
    refine StepS.call ?fwg46_52 ?awg46_52 [] (by kernel_rfl) (by rfl) (fun w9 => ?hwg46_52) (fun L9 m9 w9 hSh hAt hDn hS => ?cwg46_52)
    case hwg46_52 => go_simp; refine ⟨?_, ?_⟩ <;> rfl
    case cwg46_52 =>
     have hT : Below _ _ w9 := hS
     refine (ends_any _ A2 m d buf w9 (Lay.rd_below HRB.out hT) hm).mono ?_
     rintro e w8 ⟨rfl, rfl⟩
     exact ⟨congrArg (fun b => Ending.returned (Value.bool b)) HEN.out.symm, hT⟩
  · exact StepS.skip nP (by rfl)
 try simp only [Act.put, sA, sZ, sS]
 refine Pz 6 (some 13) (.bool (bO || en)) rfl rfl ?ywg46_53 ?rwg46_53
 case ywg46_53 =>
  refine StepS.pure nP (by rfl) (fun w9 => ?_)
  cases bO <;> (first | rfl | (go_simp; done) | (go_simp; rfl))
 try simp only [Act.put, sA, sZ, sS]
 obtain ⟨bE, hb9⟩ : ∃ zb : Bool, zb = ((over) || en) := ⟨_, rfl⟩
 have HEbE := Lib.hid hb9
 clear hb9
 refine Pz 7 (some 14) (.bool (bE)) rfl rfl ?ywg46_54 ?rwg46_54
 case ywg46_54 =>
  refine StepS.pure nP (by rfl) (fun w9 => ?_)
  have e9 : (bO || en) = bE := by rw [HEbE.out, HEbO.out]
  rw [← e9]
  clear e9
  first | rfl | (go_simp; done) | (go_simp; rfl)
 try simp only [Act.put, sA, sZ, sS]
 refine Pz 8 (some 15) (cond bE (undef) (.int .u64 (seq))) rfl rfl ?ywg46_55 ?rwg46_55
 case ywg46_55 =>
  cases bE
  · skip
    refine StepS.read [] (by kernel_rfl) nP (by rfl) (fun L9 m9 w9 hSh hAt hDn hS => ?_)
    have hT : Below _ _ w9 := hS
    have x0 : w9.cell? ⟨w.heap.size + 2, 0, none⟩ = some (.int .u64 (seq)) := (HS1.out.ca hT).cell 0
    clear hT hS
    go_simp
    try rfl
  · exact StepS.skip nP (by rfl)
 try simp only [Act.put, sA, sZ, sS]
 refine Pz 9 (some 16) (cond bE (undef) (.pointer (some ⟨w.heap.size, 1, none⟩))) rfl rfl (by cases bE; (exact StepS.pure nP rfl fun _ => rfl); exact StepS.skip nP rfl) ?_
 try simp only [Act.put, sA, sZ, sS]
 refine Pz 10 (some 17) (cond bE (undef) (.int .u64 (next))) rfl rfl ?ywg46_57 ?rwg46_57
 case ywg46_57 =>
  cases bE
  · skip
    refine StepS.read [] (by kernel_rfl) nP (by rfl) (fun L9 m9 w9 hSh hAt hDn hS => ?_)
    have hT : Below _ _ w9 := hS
    have x0 : w9.cell? ⟨w.heap.size, 1, none⟩ = some (.int .u64 (next)) := (HR1.out.ca hT).cell 1
    clear hT hS
    go_simp
    try rfl
  · exact StepS.skip nP (by rfl)
 try simp only [Act.put, sA, sZ, sS]
 refine Pz 11 (some 18) (cond bE (undef) (.bool (decide (seq < next)))) rfl rfl (by cases bE; (exact StepS.pure nP rfl fun _ => rfl); exact StepS.skip nP rfl) ?_
 try simp only [Act.put, sA, sZ, sS]
 refine Pz 12 (some 19) (.bool (bE || (decide (seq < next)))) rfl rfl ?ywg46_59 ?rwg46_59
 case ywg46_59 =>
  refine StepS.pure nP (by rfl) (fun w9 => ?_)
  cases bE <;> (first | rfl | (go_simp; done) | (go_simp; rfl))
 try simp only [Act.put, sA, sZ, sS]
 obtain ⟨bN, hb9⟩ : ∃ zb : Bool, zb = (((over) || en) || (decide (seq < next))) := ⟨_, rfl⟩
 have HEbN := Lib.hid hb9
 clear hb9
 refine Pz 13 (some 20) (.bool (bN)) rfl rfl ?ywg46_60 ?rwg46_60
 case ywg46_60 =>
  refine StepS.pure nP (by rfl) (fun w9 => ?_)
  have e9 : (bE || (decide (seq < next))) = bN := by rw [HEbN.out, HEbE.out]
  rw [← e9]
  clear e9
  first | rfl | (go_simp; done) | (go_simp; rfl)
 try simp only [Act.put, sA, sZ, sS]
 refine Pz 14 (some 21) (cond bN (undef) (.int .u64 (seq))) rfl rfl ?ywg46_61 ?rwg46_61
 case ywg46_61 =>
  cases bN
  · skip
    refine StepS.read [] (by kernel_rfl) nP (by rfl) (fun L9 m9 w9 hSh hAt hDn hS => ?_)
    have hT : Below _ _ w9 := hS
    have x0 : w9.cell? ⟨w.heap.size + 2, 0, none⟩ = some (.int .u64 (seq)) := (HS1.out.ca hT).cell 0
    clear hT hS
    go_simp
    try rfl
  · exact StepS.skip nP (by rfl)
 try simp only [Act.put, sA, sZ, sS]
 refine Pz 15 (some 22) (cond bN (undef) (.agg #[.int .u32 (ses), .int .u64 (next), .slice A n c, .slice A2 m d, .int .i64 (room), .bool (over)])) rfl rfl ?ywg46_62 ?rwg46_62
 case ywg46_62 =>
  cases bN
  · skip
    refine StepS.read [] (by kernel_rfl) nP (by rfl) (fun L9 m9 w9 hSh hAt hDn hS => ?_)
    have hT : Below _ _ w9 := hS
    have x0 : w9.cell? ⟨w.heap.size, 0, none⟩ = some (.int .u32 (ses)) := (HR1.out.ca hT).cell 0
    have x1 : w9.cell? ⟨w.heap.size, 1, none⟩ = some (.int .u64 (next)) := (HR1.out.ca hT).cell 1
    have x2 : w9.cell? ⟨w.heap.size, 2, none⟩ = some (.slice A n c) := (HR1.out.ca hT).cell 2
    have x3 : w9.cell? ⟨w.heap.size, 3, none⟩ = some (.slice A2 m d) := (HR1.out.ca hT).cell 3
    have x4 : w9.cell? ⟨w.heap.size, 4, none⟩ = some (.int .i64 (room)) := (HR1.out.ca hT).cell 4
    have x5 : w9.cell? ⟨w.heap.size, 5, none⟩ = some (.bool (over)) := (HR1.out.ca hT).cell 5
    clear hT hS
    go_simp
    try rfl
  · exact StepS.skip nP (by rfl)
 try simp only [Act.put, sA, sZ, sS]
 refine Pz 16 (some 23) (cond bN (undef) (.int .u64 (lm))) rfl rfl ?ywg46_63 ?rwg46_63
 case ywg46_63 =>
  cases bN
  · skip
    refine StepS.call ?fwg46_63 ?awg46_63 [] (by kernel_rfl) (by rfl) (fun w9 => ?hwg46_63) (fun L9 m9 w9 hSh hAt hDn hS => ?cwg46_63)
    case hwg46_63 => go_simp; refine ⟨?_, ?_⟩ <;> rfl
    case cwg46_63 =>
     have hT : Below _ _ w9 := hS
     refine (limit_any ⟨ses, next, ahead, buf, room, over⟩ A n c A2 m d w9 hbl hrs.2.2.1 (by dsimp only; omega) (by dsimp only; omega) hrm.2).mono ?_
     rintro e w8 ⟨rfl, q8⟩
     exact ⟨congrArg (fun b => Ending.returned (Value.int .u64 b)) HLM.out.symm, bl_ca hT q8⟩
  · exact StepS.skip nP (by rfl)
 try simp only [Act.put, sA, sZ, sS]
 refine Pz 17 (some 24) (cond bN (undef) (.bool (decide (lm < seq)))) rfl rfl (by cases bN; (exact StepS.pure nP rfl fun _ => rfl); exact StepS.skip nP rfl) ?_
 try simp only [Act.put, sA, sZ, sS]
 obtain ⟨bT, hb9⟩ : ∃ zb : Bool, zb = ((((over) || en) || (decide (seq < next))) || (decide (lm < seq))) := ⟨_, rfl⟩
 have HEbT := Lib.hid hb9
 clear hb9
 refine Pz 18 (some 25) (.bool (bT)) rfl rfl ?ywg46_65 ?rwg46_65
 case ywg46_65 =>
  refine StepS.pure nP (by rfl) (fun w9 => ?_)
  have e9 : (bN || (decide (lm < seq))) = bT := by rw [HEbT.out, HEbN.out]
  rw [← e9]
  clear e9
  cases bN <;> (first | rfl | (go_simp; done) | (go_simp; rfl))
 try simp only [Act.put, sA, sZ, sS]
 refine Ps.done (by kernel_rfl) (fun wg46 hS => ?_) _
 try generalize (cond bN (undef) (.agg #[.int .u32 (ses), .int .u64 (next), .slice A n c, .slice A2 m d, .int .i64 (room), .bool (over)]) : Value) = zz66
 try generalize (cond bE (undef) (.pointer (some ⟨w.heap.size, 1, none⟩)) : Value) = zz67
 try generalize (cond bO (undef) (.pointer (some ⟨w.heap.size, 3, none⟩)) : Value) = zz68
 try generalize (cond bE (undef) (.bool (decide (seq < next))) : Value) = zz69
 try generalize (cond bN (undef) (.bool (decide (lm < seq))) : Value) = zz70
 try generalize (.bool (bE || (decide (seq < next))) : Value) = zz71
 try generalize (cond bE (undef) (.int .u64 (next)) : Value) = zz72
 try generalize (cond bE (undef) (.int .u64 (seq)) : Value) = zz73
 try generalize (cond bN (undef) (.int .u64 (seq)) : Value) = zz74
 try generalize (cond bN (undef) (.int .u64 (lm)) : Value) = zz75
 try generalize (cond bO (undef) (.slice A2 m d) : Value) = zz76
 try generalize (cond bO (undef) (.bool (en)) : Value) = zz77
 try generalize (.bool (bO || en) : Value) = zz78
 have HT2 := Lib.hid (show Below w1.heap.size w1 wg46 from hS)
 clear hS
 obtain ⟨w2, rfl⟩ : ∃ x, x = wg46 := ⟨_, rfl⟩
 have HQ2 := Lib.hid (bl_ca HQ.out HT2.out)
 cases bT
 · have HR2 := Lib.hid (HR1.out.ca HT2.out)
   have HC := Lib.hid (containsH F A n c ahead 108 #[.pointer (some ⟨w.heap.size + 2, 0, none⟩), .pointer (some ⟨w.heap.size + 1, 0, none⟩)] (againstB b seq) w2 (Lay.rd_below HRA.out HT2.out) hn (Go.Proofs.enters_of Try.func108 (by kernel_rfl) rfl) (takes1_any b seq (w.heap.size + 2) (w.heap.size + 1) bA bn bc w2 (HS1.out.ca HT2.out) (HB1.out.ca HT2.out)))
   have y2 : w2.cell? ⟨w.heap.size, 2, none⟩ = some (.slice A n c) := HR2.out.cell 2
   clear HR2 HR1 HB1 HS1 HRA HRB
   go_wp2_with fail
   refine HC.out.mono ?_
   rintro e w3 ⟨rfl, q3⟩
   have HQ3 := Lib.hid (bl_ca HQ2.out q3)
   clear q3 y2 HC
   go_wp2
   go_ret
   exact ⟨ret_bool (by rw [HRR.out]; unfold takesB; dsimp only; rw [← HLM.out, ← HEN.out, ← HEbT.out]; rfl), HQ3.out⟩
 · go_wp2
   go_ret
   exact ⟨ret_bool (by rw [HRR.out]; unfold takesB; dsimp only; rw [← HLM.out, ← HEN.out, ← HEbT.out]; rfl), HQ2.out⟩
end Go.Proofs.Ytojghgbaiiajfaa
/- slices.BinarySearchFunc over held batches in order. Conditions: the slice reads as these. -/
namespace Go.Proofs.Ytojghgbaiiajfaa
open Go.RowKit
set_option maxRecDepth 100000 in
theorem cmp_any (q : HC) (B : Option Addr) (k d : Nat) (seq : Int) (W : World) :
 Calls Try.prog 78 #[.agg #[.int .u64 q.seq, .slice B k d, .bool q.b.fin, .int .u64 q.b.cnt], .int .u64 seq] W fun e w' => e = .returned (.int .i64 (if q.seq < seq then -1 else 1)) ∧ Below W.heap.size W w' := by
 have q1 := bl_al (Below.refl W.heap.size W) (.cells #[.int .u64 q.seq, .slice B k d, .bool q.b.fin, .int .u64 q.b.cnt] 81)
 have HQ1 := Lib.hid q1
 have x0 : (W.alloc (.cells #[.int .u64 q.seq, .slice B k d, .bool q.b.fin, .int .u64 q.b.cnt] 81)).cell? ⟨W.heap.size, 0, none⟩ = some (.int .u64 q.seq) := (Blk.new W 81 #[.int .u64 q.seq, .slice B k d, .bool q.b.fin, .int .u64 q.b.cnt]).cell 0
 clear q1
 by_cases hlt : q.seq < seq
 · go_enter Try.func78, Try.ntmps78
   go_wp2
   go_ret
   exact ⟨rfl, HQ1.out⟩
 · go_enter Try.func78, Try.ntmps78
   go_wp2
   go_ret
   exact ⟨rfl, HQ1.out⟩
set_option maxRecDepth 100000 in
set_option maxHeartbeats 16000000 in
theorem bsearch_any (F : Nat → Prop) (A : Option Addr) (n c : Nat) (xs : List HC) (seq : Int) (p : Nat) (w : World) (h : LH4.rd w F A n xs) (hn : n ≤ 1000) (hp : p ≤ n) (hlo : ∀ (k : Nat) x, k < p → xs[k]? = some x → x.seq < seq) (hhi : ∀ (k : Nat) x, p ≤ k → xs[k]? = some x → seq ≤ x.seq) :
 Calls Try.prog 77 #[.slice A n c, .int .u64 seq, .func (.func 78) #[] #[]] w fun e w' => e = .returned (.tuple #[.int .i64 p, .bool false]) ∧ Below w.heap.size w w' := by
 have HH := Lib.hid h
 have HLO := Lib.hid hlo
 have HHI := Lib.hid hhi
 have HEN := Go.Proofs.enters_of (P := Try.prog) Try.func78 (by kernel_rfl) rfl
 clear h hlo hhi
 go_enter Try.func77, Try.ntmps77
 go_wp2_with fail
 go_loopg [9, 10] n (fun kx s9 s10 wr => ∃ lo hi : Nat, s9 = .int .i64 lo ∧ s10 = .int .i64 hi ∧ lo ≤ p ∧ p ≤ hi ∧ hi ≤ n ∧ hi - lo ≤ kx ∧ Below w.heap.size w wr)
 case atStart => exact ⟨0, n, rfl, rfl, by omega, by omega, by omega, by omega, Below.refl _ _⟩
 case round =>
  obtain ⟨lo, hi, rfl, rfl, hlp, hph, hin, hg, bb⟩ := hrel
  have HBB := Lib.hid bb
  by_cases hlt : lo < hi
  · obtain ⟨ad, x, B, k, d, rfl, hx, s1⟩ := LH4_at (i := (lo + hi) / 2) (Lay.rd_below HH.out bb) (by omega)
    have e0 := s1.c0
    have e1 := s1.c1
    have e2 := s1.c2
    have e3 := s1.c3
    have HX := Lib.hid hx
    have HC := Lib.hid (cmp_any x B k d seq wr)
    clear s1 hx bb
    by_cases hyx : x.seq < seq
    · rw [if_pos hyx] at HC
      have hmp : (lo + hi) / 2 < p := by
       rcases Nat.lt_or_ge ((lo + hi) / 2) p with h1 | h1
       · exact h1
       · exact absurd hyx (by have := HHI.out _ _ h1 HX.out; omega)
      clear hyx
      go_wp2_with fail
      refine HC.out.mono ?_
      rintro e w2 ⟨rfl, q2⟩
      have HB2 := Lib.hid (bl_ca HBB.out q2)
      clear q2 e0 e1 e2 e3 HC
      go_wp2
      go_roundg (hi - ((lo + hi) / 2 + 1))
      case measure => omega
      case rel => exact ⟨(lo + hi) / 2 + 1, hi, by rw [show ((lo : Int) + (hi : Int)) / 2 + 1 = (((lo + hi) / 2 + 1 : Nat) : Int) by omega], rfl, by omega, by omega, hin, Nat.le_refl _, HB2.out⟩
    · rw [if_neg hyx] at HC
      have hmp : p ≤ (lo + hi) / 2 := by
       rcases Nat.lt_or_ge ((lo + hi) / 2) p with h1 | h1
       · exact absurd (HLO.out _ _ h1 HX.out) hyx
       · exact h1
      clear hyx
      go_wp2_with fail
      refine HC.out.mono ?_
      rintro e w2 ⟨rfl, q2⟩
      have HB2 := Lib.hid (bl_ca HBB.out q2)
      clear q2 e0 e1 e2 e3 HC
      go_wp2
      go_roundg ((lo + hi) / 2 - lo)
      case measure => omega
      case rel => exact ⟨lo, (lo + hi) / 2, rfl, by rw [show ((lo : Int) + (hi : Int)) / 2 = (((lo + hi) / 2 : Nat) : Int) by omega], by omega, by omega, by omega, Nat.le_refl _, HB2.out⟩
  · obtain rfl : hi = lo := by omega
    obtain rfl : hi = p := by omega
    by_cases hpn : hi < n
    · obtain ⟨ad, x, B, k, d, rfl, hx, s1⟩ := LH4_at (i := hi) (Lay.rd_below HH.out bb) hpn
      have e0 := s1.c0
      have e1 := s1.c1
      have e2 := s1.c2
      have e3 := s1.c3
      have HC := Lib.hid (cmp_any x B k d seq wr)
      rw [if_neg (by have := HHI.out _ _ (Nat.le_refl _) hx; omega)] at HC
      clear s1 hx bb
      go_wp2_with fail
      refine HC.out.mono ?_
      rintro e w2 ⟨rfl, q2⟩
      have HB2 := Lib.hid (bl_ca HBB.out q2)
      clear q2 e0 e1 e2 e3 HC
      go_wp2
      go_ret2
      exact ⟨rfl, HB2.out⟩
    · clear bb
      go_wp2
      go_ret2
      exact ⟨rfl, HBB.out⟩
end Go.Proofs.Ytojghgbaiiajfaa
/- slices.Insert of one row into rows of one's own. Conditions: none. -/
namespace Go.Proofs.Ytojghgbaiiajfaa
open Go.RowKit
theorem run_copy_cellsK {P : Program} (w : World) (dT sT ty elem : TypeId) (b o dLen dCap : Nat) (a : Addr) (sLen sCap sz : Nat) (cs : List Value)
 (hu : P.underlying dT = some (.slice elem)) (hs : (P.info? elem).map (·.size) = some sz) (hn : cs.length = Nat.min sLen dLen * sz)
 (hsrc : ∀ j v, cs[j]? = some v → w.cell? (a.add j) = some v) (hc : ∀ j, j < cs.length → (w.cell? ⟨b, o + j, none⟩).isSome = true) (hf : ∀ j, j < cs.length → w.frozen? ⟨b, o + j, none⟩ = false) (h1 : ∀ v ∈ cs, v.oneCell' = true) :
 (Builtin.copy_ #[dT, sT] ty #[.slice (some ⟨b, o, none⟩) dLen dCap, .slice (some a) sLen sCap]).run P w = .ok (goInt (Nat.min sLen dLen)) (w.setCells b o cs) := by
 have hl := run_loadCells_list (P := P) w a cs hsrc
 have hst := run_storeCells_cells (P := P) b o cs 0 w (by simpa using hc) (by simpa using hf) h1
 cases hq : P.info? elem with
 | none => simp [hq] at hs
 | some i =>
  have hi : i.size = sz := by simpa [hq] using hs
  have hn2 : Nat.min sLen dLen * i.size = cs.length := by rw [hi, hn]
  simp [Builtin.copy_, run_underlying hu, Builtin.lenOf, Builtin.firstCells, sizeOf, typeInfo, hq, hn2, hl, hst]
theorem isSome_setCellsI (b : Nat) (vs : List Value) (o : Nat) (w : World) (h : ∀ j, j < vs.length → (w.cell? ⟨b, o + j, none⟩).isSome = true) (k : Nat) (hk : (w.cell? ⟨b, k, none⟩).isSome = true) : ((w.setCells b o vs).cell? ⟨b, k, none⟩).isSome = true := by
 by_cases hin : o ≤ k ∧ k < o + vs.length
 · have := World.cell?_setCells_in b vs o w h (k - o) (by omega)
   rw [show o + (k - o) = k by omega] at this
   rw [this]; rfl
 · rw [World.cell?_setCells_out b vs o w ⟨b, k, none⟩ (fun _ _ => by show k < o ∨ o + vs.length ≤ k; omega)]
   exact hk
theorem wp_copy_runK {P : Program} (w : World) {o : Oper} {a : Act} {K : Act → World → Prop} {Q : Exit → Act → World → Prop} (d s : Operand) (t t' : TypeId)
 (ho : o.op = .call { callee := .builtin .copy, args := #[d, s], argTypes := #[t, t'] }) (v u : Value) (hd : a.eval d = v) (hs : a.eval s = u) {v' : Value} {w' : World}
 (hr : (Builtin.copy_ #[t, t'] o.type #[v, u]).run P w = .ok v' w') (h : K (a.put o.dst v') w') : o.wp P a w K Q := by
 unfold Oper.wp execOp
 simp only [ho, resolve, invoke, builtin, Sem.run_bind, Sem.run_pure, Result.andThen_ok, List.map_toArray, List.map_cons, List.map_nil, hd, hs, hr]
 exact h
theorem wpList_copy_runK {P : Program} (w : World) {ops : Array Oper} {rest : List Oper} {o : Oper} {a : Act} {Q : Exit → Act → World → Prop} (hgd : o.guard = none) (d s : Operand) (t t' : TypeId)
 (ho : o.op = .call { callee := .builtin .copy, args := #[d, s], argTypes := #[t, t'] }) (v u : Value) (hd : a.eval d = v) (hs : a.eval s = u) {v' : Value} {w' : World}
 (hr : (Builtin.copy_ #[t, t'] o.type #[v, u]).run P w = .ok v' w') (h : wpList P ops Q rest (a.put o.dst v') w') : wpList P ops Q (o :: rest) a w :=
 wpList_plain hgd fun _ hK => wp_copy_runK w d s t t' ho v u hd hs hr (hK _ _ h)
theorem step_copy_runK {P : Program} {ops : Array Oper} {o : Oper} {a : Act} {w : World} {K : Act → World → Prop} {Q : Exit → Act → World → Prop} {E : Prop}
 (hg : o.guard = none) (d x : Operand) (dT sT : TypeId) (hop : o.op = Op.call { callee := Callee.builtin Builtin.copy, args := #[d, x], argTypes := #[dT, sT] })
 (v u : Value) (hd : a.eval d = v) (hx : a.eval x = u) {v' : Value} {w' : World} (hr : (Builtin.copy_ #[dT, sT] o.type #[v, u]).run P w = .ok v' w') (hK : K (a.put o.dst v') w') :
 if Region.wanted o (yielded ops a.tmps) = true then Oper.wp P o a w K Q else E := by
 have hw : Region.wanted o (yielded ops a.tmps) = true := by simp [Region.wanted, hg]
 rw [if_pos hw]
 unfold Oper.wp
 simp [execOp, hop, resolve, invoke, builtin, hd, hx, hr, Result.andThen]
 exact hK
theorem heldI : (Try.prog.info? 81).map (·.size) = some 4 := by kernel_rfl
theorem shape_blk {w : World} {g : Nat} {t : TypeId} {cs : Array Value} (h : Blk w g t cs) : w.shape? g = some (t, cs.size) := by
 unfold World.shape?
 rw [show w.heap[g]? = some (.cells cs t (0, 0)) from h]
theorem cell_list {w : World} {g : Nat} {t : TypeId} {cs : Array Value} (h : Blk w g t cs) {j : Nat} {v : Value} (hj : cs.toList[j]? = some v) : w.cell? ⟨g, j, none⟩ = some v := by
 have := h.cell j
 rw [this]
 simpa using hj
set_option maxHeartbeats 8000000 in
set_option maxRecDepth 100000 in
theorem ins_shift (b n c i vb vc : Nat) (cs vs : List Value) (cur : Array Value) (w : World) (hi : i < n) (hroom : n + 1 ≤ c) (hc63 : c ≤ 9223372036854775807) (hvb : vb ≠ b) (hcl : cs.length = n * 4) (hvl : vs.length = 4)
 (hB : Blk w b 81 cur) (hcur : cur.size = c * 4) (htk : cur.toList.take (n * 4) = cs) (hV : Blk w vb 81 vs.toArray) (h1c : ∀ v ∈ cs, v.oneCell' = true) (h1v : ∀ v ∈ vs, v.oneCell' = true) :
 Calls Try.prog 79 #[.slice (some ⟨b, 0, none⟩) n c, .int .i64 i, .slice (some ⟨vb, 0, none⟩) 1 vc] w fun e w' =>
  e = .returned (.slice (some ⟨b, 0, none⟩) (n + 1) c) ∧ w' = (w.drew.setCells b ((i + 1) * 4) (cs.drop (i * 4))).setCells b (i * 4) vs := by
 have hov : ∀ o lb cb, (callFunc 109 #[.slice (some ⟨vb, 0, none⟩) 1 vc, .slice (some ⟨b, o, none⟩) lb cb]).run Try.prog w = .ok (.value (.bool false)) w := fun o lb cb => by
  rw [run_callFunc_extern Try.func109 (by kernel_rfl) (by kernel_rfl) (by kernel_rfl) (e := Extern.SlicesOverlaps.overlaps #[34, 34] #[4]) (by kernel_rfl)]
  rw [Lib.run_overlaps_apart w 34 4 81 Try.underlying34 4 (fun w => by kernel_rfl) ⟨vb, 0, none⟩ ⟨b, o, none⟩ 1 vc lb cb hvb _ _ _ _ (shape_blk hV) (shape_blk hB) (by omega) (hV.frozen 0) (hV.frozen _)]
  rfl
 have hz2 : ¬ ((i : Int) = (n : Int)) := by omega
 have hw1 : IntKind.i64.wrap ((i : Int) + 1) = (i : Int) + 1 := by rw [IntKind.wrap_i64]; omega
 have hw2 : IntKind.i64.wrap ((n : Int) + 1) = (n : Int) + 1 := by rw [IntKind.wrap_i64]; omega
 have hin : (i : Int) ≤ (n : Int) := by omega
 have hin2 : (i : Int) ≤ (n : Int) + 1 := by omega
 have hin3 : (i : Int) + 1 ≤ (n : Int) + 1 := by omega
 have hnc : (n : Int) + 1 ≤ (c : Int) := by omega
 have htn : ((i : Int) + 1).toNat = i + 1 := by omega
 have htn2 : ((n : Int) + 1).toNat = n + 1 := by omega
 have hb2 : ¬ (c = i + 1) := by omega
 have hb1 : (0 : Int) ≤ (i : Int) + 1 := by omega
 have hin4 : i ≤ n := by omega
 have hin5 : i ≤ n + 1 := by omega
 have hb4 : ¬ (c = i) := by omega
 have hcs : ∀ j v, cs[j]? = some v → w.cell? ⟨b, j, none⟩ = some v := fun j v hj => cell_list hB (by
  rw [← htk, List.getElem?_take] at hj
  split at hj
  · exact hj
  · cases hj)
 have hsp : ∀ j, j < (n + 1) * 4 → (w.cell? ⟨b, j, none⟩).isSome = true := fun j hj => by
  rw [hB.cell j, Array.getElem?_eq_getElem (show j < cur.size by rw [hcur]; omega)]; rfl
 have hdl : (cs.drop (i * 4)).length = (n - i) * 4 := by rw [List.length_drop, hcl]; omega
 have hmin1 : Nat.min (n + 1 - i) (n - i) = n - i := by simp only [Nat.min_def]; split <;> omega
 have hmin2 : Nat.min 1 (n + 1 - i) = 1 := by simp only [Nat.min_def]; split <;> omega
 have hcp1 : ∀ ty dc sc, (Builtin.copy_ #[34, 34] ty #[.slice (some ⟨b, (i + 1) * 4, none⟩) (n - i) dc, .slice (some ⟨b, i * 4, none⟩) (n + 1 - i) sc]).run Try.prog w.drew = .ok (goInt (Nat.min (n + 1 - i) (n - i))) (w.drew.setCells b ((i + 1) * 4) (cs.drop (i * 4))) := fun ty dc sc =>
  run_copy_cellsK w.drew _ _ ty 81 b ((i + 1) * 4) (n - i) dc ⟨b, i * 4, none⟩ (n + 1 - i) sc 4 (cs.drop (i * 4)) Try.underlying34 heldI (by rw [hdl, hmin1])
   (fun j v hj => by rw [Addr.add_lit]; exact hcs (i * 4 + j) v (by rwa [List.getElem?_drop] at hj))
   (fun j hj => hsp ((i + 1) * 4 + j) (by rw [hdl] at hj; omega)) (fun j _ => hB.frozen _) (fun v hv => h1c v (List.mem_of_mem_drop hv))
 obtain ⟨W1, hW1⟩ : ∃ W1, W1 = w.drew.setCells b ((i + 1) * 4) (cs.drop (i * 4)) := ⟨_, rfl⟩
 have hsp1 : ∀ k, k < (n + 1) * 4 → (W1.cell? ⟨b, k, none⟩).isSome = true := fun k hk => by
  rw [hW1]
  exact isSome_setCellsI b _ _ w.drew (fun j hj => hsp ((i + 1) * 4 + j) (by rw [hdl] at hj; omega)) _ (hsp k hk)
 have hcp2 : ∀ (W : World), (∀ x, W.cell? x = W1.cell? x) → (∀ x, W.frozen? x = W1.frozen? x) → ∀ ty dc, (Builtin.copy_ #[34, 34] ty #[.slice (some ⟨b, i * 4, none⟩) (n + 1 - i) dc, .slice (some ⟨vb, 0, none⟩) 1 vc]).run Try.prog W = .ok (goInt (Nat.min 1 (n + 1 - i))) (W.setCells b (i * 4) vs) := fun W hWc hWf ty dc =>
  run_copy_cellsK W _ _ ty 81 b (i * 4) (n + 1 - i) dc ⟨vb, 0, none⟩ 1 vc 4 vs Try.underlying34 heldI (by rw [hvl, hmin2])
   (fun j v hj => by
    rw [Addr.add_lit, hWc, hW1, World.cell?_setCells_out b _ _ _ _ (fun h _ => absurd h hvb)]
    exact cell_list hV (by rw [Nat.zero_add]; simpa using hj))
   (fun j hj => by rw [hWc]; exact hsp1 (i * 4 + j) (by rw [hvl] at hj; omega)) (fun j _ => by rw [hWf, hW1, World.frozen?_setCells]; exact hB.frozen _) h1v
 rw [← hW1] at hcp1
 have mixed : Try.prog.follows Departure.mixedOrders = true := by kernel_rfl
 clear hsp hsp1 hcs htk hcl hvl hdl
 go_enter Try.func79, Try.ntmps79
 go_wp2_with (simp only [hov])
 go_region_law_o (refine step_copy_runK rfl _ _ 34 34 rfl _ _ (by simp [Act.eval, Act.put]) (by simp [Act.eval, Act.put]) (hcp1 _ _ _) ?_)
 go_wp2_with (at_builtin; refine wpList_copy_runK _ rfl _ _ 34 34 rfl _ _ rfl rfl (hcp2 _ (fun _ => rfl) (fun _ => rfl) _ _) ?_)
 go_ret
 first | exact ⟨rfl, rfl⟩ | exact ⟨rfl, by rw [hW1]⟩
set_option maxHeartbeats 8000000 in
set_option maxRecDepth 100000 in
theorem ins_grow (b n c i vb vc : Nat) (cs vs : List Value) (cur : Array Value) (w : World) (hi : i < n) (hnc : n ≤ c) (hroom : c < n + 1) (hbig : n ≤ 1000) (hcl : cs.length = n * 4) (hvl : vs.length = 4)
 (hB : Blk w b 81 cur) (htk : cur.toList.take (n * 4) = cs) (hV : Blk w vb 81 vs.toArray) (h1c : ∀ v ∈ cs, v.oneCell' = true) (h1v : ∀ v ∈ vs, v.oneCell' = true) :
 Calls Try.prog 79 #[.slice (some ⟨b, 0, none⟩) n c, .int .i64 i, .slice (some ⟨vb, 0, none⟩) 1 vc] w fun e w' =>
  ∃ (G : Nat) (ROW : Array Value), n + 1 ≤ G ∧ G ≤ maxLen ∧ ROW.size = G * 4 ∧ ROW.toList.take (i * 4) = cs.take (i * 4) ∧ e = .returned (.slice (some ⟨w.heap.size, 0, none⟩) (n + 1) G) ∧
   w' = (((w.alloc (.cells ROW 81)).drew.setCells w.heap.size (i * 4) vs).drew).setCells w.heap.size ((i + 1) * 4) (cs.drop (i * 4)) := by
 obtain ⟨i0, hi0, hz0, hzs, hzb⟩ := info_parts infoH
 have hz2 : ¬ ((i : Int) = (n : Int)) := by omega
 have hz3 : (c : Int) < (n : Int) + 1 := by omega
 have hbw := hB.lt
 have hvw := hV.lt
 have hkk : (n : Int) + 1 - (i : Int) = ((n + 1 - i : Nat) : Int) := by omega
 have hik : i + (n + 1 - i) = n + 1 := by omega
 have hcs : ∀ j v, cs[j]? = some v → w.cell? ⟨b, j, none⟩ = some v := fun j v hj => cell_list hB (by
  rw [← htk, List.getElem?_take] at hj
  split at hj
  · exact hj
  · cases hj)
 have hold : (Builtin.firstCells i0.size i (.slice (some ⟨b, 0, none⟩) i c)).run Try.prog w.drew = .ok (cs.take (i * 4)).toArray w.drew := by
  rw [hzs]
  exact run_firstCells_some w.drew 4 i ⟨b, 0, none⟩ i c (cs.take (i * 4)) (by rw [List.length_take]; omega) (fun j v hj => by
   rw [Addr.add_lit]
   rw [List.getElem?_take] at hj
   split at hj
   · rw [Nat.zero_add]; exact hcs j v hj
   · cases hj)
 obtain ⟨zz, hzz⟩ : ∃ zz : Value, zz = .agg #[.int .u64 0, .slice none 0 0, .bool false, .int .u64 0] := ⟨_, rfl⟩
 rw [← hzz] at hz0
 have hzc : zz.cells.size = 4 := by rw [hzz]; rfl
 have hrz : ∀ ty, (Builtin.append_ #[34, 3] ty #[.slice (some ⟨b, 0, none⟩) i c, .int .i64 ((n : Int) + 1 - (i : Int))]).run Try.prog w =
  .ok (.slice (some ⟨w.heap.size, 0, none⟩) (n + 1) (grownCap w (n + 1) c 81)) (w.drew.alloc (.cells ((cs.take (i * 4)).toArray ++ Builtin.zeroCells zz.cells (n + 1 - i) ++ Builtin.zeroCells zz.cells (grownCap w (n + 1) c 81 - (n + 1))) 81)) := fun ty => by
  have h := Lib.run_append_grow_zeros w 34 3 ty 81 i0 _ .i64 .i64 Try.underlying34 Try.underlying3 hi0 hz0 (some ⟨b, 0, none⟩) i c (cs.take (i * 4)) hold (n + 1 - i) (by omega) (by omega) (by omega) (by omega) (by rw [hzb]; omega) (by rw [hzb, hik]; exact growslice_fits hroom (by omega))
  rw [hik] at h
  rw [hkk]
  exact h
 obtain ⟨G, hG⟩ : ∃ G, G = grownCap w (n + 1) c 81 := ⟨_, rfl⟩
 obtain ⟨ROW, hROW⟩ : ∃ ROW : Array Value, ROW = (cs.take (i * 4)).toArray ++ Builtin.zeroCells zz.cells (n + 1 - i) ++ Builtin.zeroCells zz.cells (G - (n + 1)) := ⟨_, rfl⟩
 rw [← hG] at hrz
 rw [← hROW] at hrz
 have hGn : n + 1 ≤ G := by rw [hG]; exact grownCap_ge w _ _ _
 have hGm : G ≤ maxLen := by rw [hG]; exact grownCap_le_maxLen w (n + 1) c 81 (by unfold maxLen; omega)
 have hG63 : G ≤ 9223372036854775807 := by have := hGm; unfold maxLen at this; omega
 have hRs : ROW.size = G * 4 := by
  rw [hROW]
  simp only [Array.size_append, size_zeroCells, hzc, List.size_toArray, List.length_take]
  omega
 have hRt : ROW.toList.take (i * 4) = cs.take (i * 4) := by
  rw [hROW]
  simp only [Array.toList_append, List.append_assoc]
  rw [List.take_append_of_le_length (by rw [List.length_take]; omega), List.take_take, Nat.min_self]
 obtain ⟨W1, hW1⟩ : ∃ W1, W1 = w.drew.alloc (.cells ROW 81) := ⟨_, rfl⟩
 rw [← hW1] at hrz
 have hN : ∀ j, j < (n + 1) * 4 → (W1.cell? ⟨w.heap.size, j, none⟩).isSome = true := fun j hj => by
  rw [hW1, World.cell?_alloc_at (w := w.drew) ROW _ w.heap.size j rfl, Array.getElem?_eq_getElem (by omega)]; rfl
 have hNf : ∀ j, W1.frozen? ⟨w.heap.size, j, none⟩ = false := fun j => by rw [hW1]; exact World.frozen?_alloc_at (w := w.drew) ROW _ w.heap.size j rfl
 have hOb : ∀ j v, w.cell? ⟨b, j, none⟩ = some v → W1.cell? ⟨b, j, none⟩ = some v := fun j v h => by rw [hW1, World.cell?_alloc_past (w := w.drew) _ b j hbw]; exact h
 have hOv : ∀ j v, w.cell? ⟨vb, j, none⟩ = some v → W1.cell? ⟨vb, j, none⟩ = some v := fun j v h => by rw [hW1, World.cell?_alloc_past (w := w.drew) _ vb j hvw]; exact h
 have hmin2 : Nat.min 1 (n + 1 - i) = 1 := by simp only [Nat.min_def]; split <;> omega
 have hcpA : ∀ (W : World), (∀ x, W.cell? x = W1.cell? x) → (∀ x, W.frozen? x = W1.frozen? x) → ∀ ty dc, (Builtin.copy_ #[34, 34] ty #[.slice (some ⟨w.heap.size, i * 4, none⟩) (n + 1 - i) dc, .slice (some ⟨vb, 0, none⟩) 1 vc]).run Try.prog W = .ok (goInt (Nat.min 1 (n + 1 - i))) (W.setCells w.heap.size (i * 4) vs) := fun W hWc hWf ty dc =>
  run_copy_cellsK W _ _ ty 81 w.heap.size (i * 4) (n + 1 - i) dc ⟨vb, 0, none⟩ 1 vc 4 vs Try.underlying34 heldI (by rw [hvl, hmin2])
   (fun j v hj => by rw [Addr.add_lit, hWc]; exact hOv _ v (cell_list hV (by rw [Nat.zero_add]; simpa using hj)))
   (fun j hj => by rw [hWc]; exact hN (i * 4 + j) (by rw [hvl] at hj; omega)) (fun j _ => by rw [hWf]; exact hNf _) h1v
 have hbN : b ≠ w.heap.size := by omega
 have hdl : (cs.drop (i * 4)).length = (n - i) * 4 := by rw [List.length_drop, hcl]; omega
 have hmin1 : Nat.min (n - i) (n - i) = n - i := Nat.min_self _
 have hcpB : ∀ (W : World), (∀ x, W.cell? x = (W1.setCells w.heap.size (i * 4) vs).cell? x) → (∀ x, W.frozen? x = (W1.setCells w.heap.size (i * 4) vs).frozen? x) → ∀ ty dc sc, (Builtin.copy_ #[34, 34] ty #[.slice (some ⟨w.heap.size, (i + 1) * 4, none⟩) (n - i) dc, .slice (some ⟨b, i * 4, none⟩) (n - i) sc]).run Try.prog W = .ok (goInt (Nat.min (n - i) (n - i))) (W.setCells w.heap.size ((i + 1) * 4) (cs.drop (i * 4))) := fun W hWc hWf ty dc sc =>
  run_copy_cellsK W _ _ ty 81 w.heap.size ((i + 1) * 4) (n - i) dc ⟨b, i * 4, none⟩ (n - i) sc 4 (cs.drop (i * 4)) Try.underlying34 heldI (by rw [hdl, hmin1])
   (fun j v hj => by
    rw [Addr.add_lit, hWc, World.cell?_setCells_out _ _ _ _ _ (fun h _ => absurd h hbN)]
    exact hOb _ v (hcs (i * 4 + j) v (by rwa [List.getElem?_drop] at hj)))
   (fun j hj => by rw [hWc]; exact isSome_setCellsI _ _ _ _ (fun t ht => hN (i * 4 + t) (by rw [hvl] at ht; omega)) _ (hN ((i + 1) * 4 + j) (by rw [hdl] at hj; omega)))
   (fun j _ => by rw [hWf, World.frozen?_setCells]; exact hNf _) (fun v hv => h1c v (List.mem_of_mem_drop hv))
 subst hW1
 have hE1 : ∀ x, ((w.alloc (.cells ROW 81)).drew).cell? x = (w.drew.alloc (.cells ROW 81)).cell? x := fun x => rfl
 have hE2 : ∀ x, ((w.alloc (.cells ROW 81)).drew).frozen? x = (w.drew.alloc (.cells ROW 81)).frozen? x := fun x => rfl
 have hF1 : ∀ x, (((w.alloc (.cells ROW 81)).drew.setCells w.heap.size (i * 4) vs).drew).cell? x = ((w.drew.alloc (.cells ROW 81)).setCells w.heap.size (i * 4) vs).cell? x := fun x => rfl
 have hF2 : ∀ x, (((w.alloc (.cells ROW 81)).drew.setCells w.heap.size (i * 4) vs).drew).frozen? x = ((w.drew.alloc (.cells ROW 81)).setCells w.heap.size (i * 4) vs).frozen? x := fun x => rfl
 have hw1 : IntKind.i64.wrap ((i : Int) + 1) = (i : Int) + 1 := by rw [IntKind.wrap_i64]; omega
 have hw2 : IntKind.i64.wrap ((n : Int) + 1) = (n : Int) + 1 := by rw [IntKind.wrap_i64]; omega
 have hw3 : IntKind.i64.wrap ((n : Int) + 1 - (i : Int)) = (n : Int) + 1 - (i : Int) := by rw [IntKind.wrap_i64]; omega
 have hb1 : (0 : Int) ≤ (i : Int) + 1 := by omega
 have hin : i ≤ n := by omega
 have hin1 : (i : Int) ≤ (n : Int) := by omega
 have hin2 : (i : Int) ≤ (n : Int) + 1 := by omega
 have htn : ((i : Int) + 1).toNat = i + 1 := by omega
 have hb2 : ¬ (G = i + 1) := by omega
 have hb3 : ¬ (G = i) := by omega
 have hb4 : ¬ (c = i) := by omega
 have mixed : Try.prog.follows Departure.mixedOrders = true := by kernel_rfl
 clear hkk hik hold hROW hG hN hNf hOb hOv hcs htk hdl
 go_enter Try.func79, Try.ntmps79
 go_wp2_with (first
  | (at_builtin; refine Lib.wpList_append_run _ rfl _ _ _ _ rfl _ _ rfl rfl _ _ (hrz _) ?_)
  | (at_builtin; refine wpList_copy_runK _ rfl _ _ 34 34 rfl _ _ rfl rfl (hcpA _ hE1 hE2 _ _) ?_)
  | (at_builtin; refine wpList_copy_runK _ rfl _ _ 34 34 rfl _ _ rfl rfl (hcpB _ (fun _ => rfl) (fun _ => rfl) _ _ _) ?_))
 go_region_law_o (refine step_copy_runK rfl _ _ 34 34 rfl (.slice (some ⟨w.heap.size, (i + 1) * 4, none⟩) (n - i) (G - (i + 1))) (.slice (some ⟨b, i * 4, none⟩) (n - i) (c - i)) (by simp [Act.eval, Act.put]) (by simp [Act.eval, Act.put]) (hcpB _ hF1 hF2 _ (G - (i + 1)) (c - i)) ?_)
 go_wp2
 go_ret
 exact ⟨G, ROW, hGn, hGm, hRs, hRt, rfl, rfl⟩
end Go.Proofs.Ytojghgbaiiajfaa
