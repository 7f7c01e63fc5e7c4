/- (*pair).sound. Conditions: the pair is as the law asks. -/
import Derived.Test.YtojghgbaiiajfaaPkE24
namespace Go.Proofs.Ytojghgbaiiajfaa
open Go.RowKit
theorem i64_in {x : Int} (h0 : 0 ≤ x) (h1 : x ≤ 9223372036854775807) : IntKind.i64.wrap x = x := by simp [IntKind.wrap, IntKind.signed, IntKind.bits]; omega
set_option maxRecDepth 100000 in
set_option maxHeartbeats 16000000 in
theorem sound_any (B0 g : Nat) (w : World) (s : SC) (r : RC) (way : List PK) (put taken : List BC) (A : Option Addr) (n c : Nat) (A2 : Option Addr) (n2 c2 : Nat) (A3 : Option Addr) (n3 c3 : Nat) (A4 : Option Addr) (n4 c4 : Nat) (A5 : Option Addr) (n5 c5 : Nat) (A6 : Option Addr) (n6 c6 : Nat)
 (h : PM B0 g w s r way put taken A n c A2 n2 c2 A3 n3 c3 A4 n4 c4 A5 n5 c5 A6 n6 c6) (h1 : n6 + n3 ≤ n5) (h2 : taken ++ r.buf = put.take (n6 + n3)) (h3 : sendB s = true) (h4 : recB r = true) (h5 : s.base ≤ r.next) (h6 : s.sent ≤ (n6 : Int) + r.room) (h7 : r.next - 1 = ((n6 + n3 : Nat) : Int)) (h8 : n5 ≤ 100000) :
 Calls Try.prog 41 #[.pointer (some ⟨g, 0, none⟩)] w fun e w' => e = .returned (.bool true) ∧ Below w.heap.size w w' := by
 have HP := Lib.hid h
 have H2 := Lib.hid h2
 have HSR := Lib.hid (And.intro h3 h4)
 have HSP := Lib.hid (And.intro ((sp_iff s).1 h3) ((rp_iff r).1 h4))
 have HNX := Lib.hid (And.intro h5 (And.intro h6 h7))
 clear h h2 h3 h4 h5 h6 h7
 go_enter Try.func41, Try.ntmps41
 go_upto_region 1 with fail
 refine wp_region_ps (S := SeqN [9, 10] (fun z mm w' => match z with | 0 => Below w.heap.size w w' | 1 => Below w.heap.size w w' ∧ ∃ gb, mm 9 = .slice (some ⟨gb, 0, none⟩) 2 2 ∧ Blk w' gb 27 #[.slice A6 n6 c6, .slice A3 n3 c3] | _ => Below w.heap.size w w' ∧ ∃ E f, mm 10 = .slice E (n6 + n3) f ∧ LB3.rd w' (fun _ => True) E (n6 + n3) (taken ++ r.buf))) (by kernel_rfl) ?spswg1 ?ppswg1
 case spswg1 =>
  exact SeqN.start (by decide) (Below.refl _ _).drew
 refine Pz 0 (some 4) (.pointer (some ⟨g, 0, none⟩)) rfl rfl (by exact StepS.pure (SeqN.pass (by decide)) rfl fun _ => rfl) ?_
 try simp only [Act.put, sA, sZ, sS]
 refine Pz 1 (some 5) (.pointer (some ⟨g, 0, none⟩)) rfl rfl (by exact StepS.pure (SeqN.pass (by decide)) rfl fun _ => by first | rfl | (go_simp; done) | (go_simp; rfl)) ?_
 try simp only [Act.put, sA, sZ, sS]
 refine Pz 2 (some 6) (.pointer (some ⟨g, 15, none⟩)) rfl rfl (by exact StepS.pure (SeqN.pass (by decide)) rfl fun _ => rfl) ?_
 try simp only [Act.put, sA, sZ, sS]
 refine Pz 3 (some 7) (.slice A6 n6 c6) rfl rfl ?ywg1_5 ?rwg1_5
 case ywg1_5 =>
  refine StepS.read [] (by kernel_rfl) (SeqN.pass (by decide)) (by rfl) (fun L9 m9 w9 hSh hAt hDn hS => ?_)
  have hT : Below w.heap.size w w9 := SeqN.lt (ks := [9, 10]) (k := 9) (by simp) (reach_no hSh (f := 12) (j := 9) (by kernel_rfl) hDn) (fun z _ _ hz h => by match z, hz, h with | 0, _, h => exact h | 1, _, h => exact h.1 | _ + 2, hz, _ => exact absurd hz (by simp)) hS
  have x0 : w9.cell? ⟨g, 15, none⟩ = some (.slice A6 n6 c6) := (HP.out.blk.ca hT).cell 15
  clear hT hS
  go_simp
  try rfl
 try simp only [Act.put, sA, sZ, sS]
 refine Pz 4 (some 8) (.pointer (some ⟨g, 0, none⟩)) rfl rfl (by exact StepS.pure (SeqN.pass (by decide)) rfl fun _ => rfl) ?_
 try simp only [Act.put, sA, sZ, sS]
 refine Pz 5 (some 9) (.pointer (some ⟨g, 0, none⟩)) rfl rfl (by exact StepS.pure (SeqN.pass (by decide)) rfl fun _ => by first | rfl | (go_simp; done) | (go_simp; rfl)) ?_
 try simp only [Act.put, sA, sZ, sS]
 refine Pz 6 (some 10) (.pointer (some ⟨g, 7, none⟩)) rfl rfl (by exact StepS.pure (SeqN.pass (by decide)) rfl fun _ => rfl) ?_
 try simp only [Act.put, sA, sZ, sS]
 refine Pz 7 (some 11) (.pointer (some ⟨g, 10, none⟩)) rfl rfl (by exact StepS.pure (SeqN.pass (by decide)) rfl fun _ => rfl) ?_
 try simp only [Act.put, sA, sZ, sS]
 refine Pz 8 (some 12) (.slice A3 n3 c3) rfl rfl ?ywg1_10 ?rwg1_10
 case ywg1_10 =>
  refine StepS.read [] (by kernel_rfl) (SeqN.pass (by decide)) (by rfl) (fun L9 m9 w9 hSh hAt hDn hS => ?_)
  have hT : Below w.heap.size w w9 := SeqN.lt (ks := [9, 10]) (k := 9) (by simp) (reach_no hSh (f := 12) (j := 9) (by kernel_rfl) hDn) (fun z _ _ hz h => by match z, hz, h with | 0, _, h => exact h | 1, _, h => exact h.1 | _ + 2, hz, _ => exact absurd hz (by simp)) hS
  have x0 : w9.cell? ⟨g, 10, none⟩ = some (.slice A3 n3 c3) := (HP.out.blk.ca hT).cell 10
  clear hT hS
  go_simp
  try rfl
 try simp only [Act.put, sA, sZ, sS]
 refine Ps.one (k := 9) (d := some 13) rfl rfl (by kernel_rfl) (TurnS.value (V := fun v => ∃ gb, v = .slice (some ⟨gb, 0, none⟩) 2 2) [] (by kernel_rfl) (by rfl) (fun L9 m9 w9 hSh hAt hDn hS => ?cwg1_11)) (fun v9 hVv9 => ?rwg1_11)
 case cwg1_11 =>
  have hT := SeqN.at_ (m0 := m9) (m1 := m9) [] [10] hSh (fun d hd => by cases hd) hDn (by kernel_rfl) hS
  refine ⟨.slice (some ⟨w9.heap.size, 0, none⟩) 2 2, w9.alloc (.cells #[.slice A6 n6 c6, .slice A3 n3 c3] 27), ?_, ⟨_, rfl⟩, SeqN.set_ (m0 := m9) (m1 := m9) [] [10] hSh (fun d hd => by cases hd) hDn (by kernel_rfl) (by decide) (by decide) ⟨bl_al hT _, _, upd_same _ _ _, Blk.new _ _ _⟩⟩
  clear hT hS
  go_simp
 try simp only [Act.put, sA, sZ, sS]
 obtain ⟨gb, rfl⟩ := hVv9
 refine Ps.one (k := 10) (d := some 14) rfl rfl (by kernel_rfl) (TurnS.call (V := fun v => ∃ E f, v = .slice E (n6 + n3) f) ?fwg1_12 ?awg1_12 [9] (by kernel_rfl) (by rfl) (fun w9 => ?hwg1_12) (fun L9 m9 w9 hSh hAt hDn hS => ?cwg1_12)) (fun v10 hVv10 => ?rwg1_12)
 case hwg1_12 => go_simp; refine ⟨?_, ?_⟩ <;> rfl
 case cwg1_12 =>
  obtain ⟨hT, gb2, hv, hbk⟩ := SeqN.at_ [9] [] hSh hAt hDn (by kernel_rfl) hS
  obtain rfl : gb = gb2 := by have h9 : Value.slice (some ⟨gb, 0, none⟩) 2 2 = .slice (some ⟨gb2, 0, none⟩) 2 2 := (hAt 9 (by simp)).2.symm.trans hv; simpa using h9
  have htk : LB3.rd w9 (fun b => b < w9.heap.size) A6 n6 taken := Lay.rd_weak (fun b _ hl => hl) (Lay.ownO_rd (F := fun _ => True) (HP.out.below hT).tk (fun _ _ => trivial) (fun _ _ _ => trivial))
  have hbf : LB3.rd w9 (fun b => b < w9.heap.size) A3 n3 r.buf := Lay.rd_weak (fun b _ hl => hl) (HP.out.below hT).bf
  refine (concat_any (fun b => b < w9.heap.size) taken r.buf A6 n6 c6 A3 n3 c3 gb w9 hbk htk hbf (by omega) (by omega) (fun b hb => hb)).mono ?_
  rintro e w8 ⟨E, f, rfl, ho, q8⟩
  exact ⟨_, rfl, ⟨E, f, rfl⟩, SeqN.set_ [9] [] hSh hAt hDn (by kernel_rfl) (by decide) (by decide) ⟨bl_ca hT q8, E, f, upd_same _ _ _, Lay.own_rd ho (fun _ _ _ => trivial) (fun _ _ _ => trivial)⟩⟩
 try simp only [Act.put, sA, sZ, sS]
 obtain ⟨E, f, rfl⟩ := hVv10
 refine Pz 11 (some 3) (.slice E (n6 + n3) f) rfl rfl (by exact StepS.pure (SeqN.pass (by decide)) rfl fun _ => rfl) ?_
 try simp only [Act.put, sA, sZ, sS]
 refine Ps.done (by kernel_rfl) (fun wg1 hS => ?_) _
 obtain ⟨hT, E2, f2, hv, hr⟩ := SeqN.fin (by rfl) hS
 clear hS
 obtain ⟨rfl, rfl⟩ : E = E2 ∧ f = f2 := by have h9 : Value.slice E (n6 + n3) f = .slice E2 (n6 + n3) f2 := hv; simpa using h9
 clear hv
 obtain ⟨w1, rfl⟩ : ∃ x, x = wg1 := ⟨_, rfl⟩
 have HQ1 := Lib.hid hT
 have HG1 := Lib.hid hr
 have HP1 := Lib.hid (HP.out.below hT)
 clear hT hr
 have hlt9 : ¬ ((n5 : Nat) : Int) < ((n6 + n3 : Nat) : Int) := by omega
 have hcap := Lay.ownO_caps HP1.out.pt
 have hcap2 : ((n6 + n3 : Nat) : Int) ≤ ((c5 : Nat) : Int) := by omega
 have y14 := HP1.out.blk.cell 14
 clear hcap
 go_wp2_with fail
 have hpt : LB3.rd w1 (fun _ => True) A5 (n6 + n3) (put.take (n6 + n3)) := Lay.rd_take (Lay.ownO_rd (F := fun _ => True) HP1.out.pt (fun _ _ => trivial) (fun _ _ _ => trivial)) (by omega)
 refine (eqfW _ _ E A5 (n6 + n3) f (n6 + n3) c5 _ _ w1 HG1.out hpt (by omega)).mono ?_
 rintro e w2 ⟨rfl, q2⟩
 rw [decide_eq_true H2.out]
 have HP2 := Lib.hid (HP1.out.below q2)
 have HQ2 := Lib.hid (bl_ca HQ1.out q2)
 clear q2 hpt y14
 have y0 := HP2.out.blk.cell 0
 have y1 := HP2.out.blk.cell 1
 have y2 := HP2.out.blk.cell 2
 have y3 := HP2.out.blk.cell 3
 have y4 := HP2.out.blk.cell 4
 have y5 := HP2.out.blk.cell 5
 have y6 := HP2.out.blk.cell 6
 go_wp2_with fail
 have hb0 : 0 ≤ s.base := by have := HSP.out.1.b1; omega
 have hcq := HP2.out.cq
 have hca := HP2.out.ca
 have hcb := HP2.out.cb
 refine (csend_any _ s A n c w2 HP2.out.q (by omega) hb0).mono ?_
 rintro e w3 ⟨rfl, q3⟩
 rw [if_pos HSR.out.1]
 have HP3 := Lib.hid (HP2.out.below q3)
 have HQ3 := Lib.hid (bl_ca HQ2.out q3)
 clear q3 y0 y1 y2 y3 y4 y5 y6
 have y7 := HP3.out.blk.cell 7
 have y8 := HP3.out.blk.cell 8
 have y9 := HP3.out.blk.cell 9
 have y10 := HP3.out.blk.cell 10
 have y11 := HP3.out.blk.cell 11
 have y12 := HP3.out.blk.cell 12
 go_wp2_with fail
 refine (crecv_any _ _ r A2 n2 c2 A3 n3 c3 w3 HP3.out.ah HP3.out.bf (by omega) (by omega)).mono ?_
 rintro e w4 ⟨rfl, q4⟩
 rw [if_pos HSR.out.2]
 have HP4 := Lib.hid (HP3.out.below q4)
 have HQ4 := Lib.hid (bl_ca HQ3.out q4)
 clear q4 y7 y8 y9 y10 y11 y12
 go_upto_region 4 with fail
 have hm1 := HSP.out.2.m1
 have hm2 := HSP.out.2.m2
 have HW1 := Lib.hid (show IntKind.i64.wrap ((n6 : Int) + r.room) = (n6 : Int) + r.room from i64_in (by omega) (by omega))
 have HW2 := Lib.hid (show IntKind.u64.wrap ((n6 : Int) + r.room) = (n6 : Int) + r.room from u64_in (by omega) (by omega))
 have HW3 := Lib.hid (show IntKind.u64.wrap (r.next - 1) = ((n6 + n3 : Nat) : Int) from by rw [HNX.out.2.2]; exact u64_in (by omega) (by omega))
 have HW4 := Lib.hid (show IntKind.u64.wrap ((n6 + n3 : Nat) : Int) = ((n6 + n3 : Nat) : Int) from u64_in (by omega) (by omega))
 refine wp_region_ps (S := fun _ _ w' => Below w4.heap.size w4 w') (by kernel_rfl) ?spswg14 ?ppswg14
 case spswg14 =>
  exact (Below.refl w4.heap.size w4).drew
 refine Pz 0 (some 51) (.pointer (some ⟨g, 0, none⟩)) rfl rfl (by exact StepS.pure nP rfl fun _ => rfl) ?_
 try simp only [Act.put, sA, sZ, sS]
 refine Pz 1 (some 52) (.pointer (some ⟨g, 0, none⟩)) rfl rfl (by exact StepS.pure nP rfl fun _ => by first | rfl | (go_simp; done) | (go_simp; rfl)) ?_
 try simp only [Act.put, sA, sZ, sS]
 refine Pz 2 (some 53) (.pointer (some ⟨g, 0, none⟩)) rfl rfl (by exact StepS.pure nP rfl fun _ => rfl) ?_
 try simp only [Act.put, sA, sZ, sS]
 refine Pz 3 (some 54) (.pointer (some ⟨g, 1, none⟩)) rfl rfl (by exact StepS.pure nP rfl fun _ => rfl) ?_
 try simp only [Act.put, sA, sZ, sS]
 refine Pz 4 (some 55) (.int .u64 (s.base)) rfl rfl ?ywg14_19 ?rwg14_19
 case ywg14_19 =>
  refine StepS.read [] (by kernel_rfl) nP (by rfl) (fun L9 m9 w9 hSh hAt hDn hS => ?_)
  have hT : Below _ _ w9 := hS
  have x0 : w9.cell? ⟨g, 1, none⟩ = some (.int .u64 (s.base)) := (HP4.out.blk.ca hT).cell 1
  clear hT hS
  go_simp
  try rfl
 try simp only [Act.put, sA, sZ, sS]
 refine Pz 5 (some 56) (.pointer (some ⟨g, 0, none⟩)) rfl rfl (by exact StepS.pure nP rfl fun _ => rfl) ?_
 try simp only [Act.put, sA, sZ, sS]
 refine Pz 6 (some 57) (.pointer (some ⟨g, 0, none⟩)) rfl rfl (by exact StepS.pure nP rfl fun _ => by first | rfl | (go_simp; done) | (go_simp; rfl)) ?_
 try simp only [Act.put, sA, sZ, sS]
 refine Pz 7 (some 58) (.pointer (some ⟨g, 7, none⟩)) rfl rfl (by exact StepS.pure nP rfl fun _ => rfl) ?_
 try simp only [Act.put, sA, sZ, sS]
 refine Pz 8 (some 59) (.pointer (some ⟨g, 8, none⟩)) rfl rfl (by exact StepS.pure nP rfl fun _ => rfl) ?_
 try simp only [Act.put, sA, sZ, sS]
 refine Pz 9 (some 60) (.int .u64 (r.next)) rfl rfl ?ywg14_24 ?rwg14_24
 case ywg14_24 =>
  refine StepS.read [] (by kernel_rfl) nP (by rfl) (fun L9 m9 w9 hSh hAt hDn hS => ?_)
  have hT : Below _ _ w9 := hS
  have x0 : w9.cell? ⟨g, 8, none⟩ = some (.int .u64 (r.next)) := (HP4.out.blk.ca hT).cell 8
  clear hT hS
  go_simp
  try rfl
 try simp only [Act.put, sA, sZ, sS]
 refine Pz 10 (some 61) (.bool (true)) rfl rfl ?ywg14_25 ?rwg14_25
 case ywg14_25 =>
  refine StepS.pure nP (by rfl) (fun w9 => ?_)
  have e9 : decide (s.base ≤ r.next) = true := decide_eq_true HNX.out.1
  refine Eq.trans ?_ (congrArg (fun b => Result.ok (Next.value (Value.bool b)) w9) e9)
  first | rfl | (go_simp; done) | (go_simp; rfl)
 try simp only [Act.put, sA, sZ, sS]
 refine Pz 11 (some 62) (.bool (true)) rfl rfl (by exact StepS.pure nP rfl fun _ => rfl) ?_
 try simp only [Act.put, sA, sZ, sS]
 refine Pz 12 (some 63) (.pointer (some ⟨g, 0, none⟩)) rfl rfl (by exact StepS.pure nP rfl fun _ => rfl) ?_
 try simp only [Act.put, sA, sZ, sS]
 refine Pz 13 (some 64) (.pointer (some ⟨g, 0, none⟩)) rfl rfl (by exact StepS.pure nP rfl fun _ => by first | rfl | (go_simp; done) | (go_simp; rfl)) ?_
 try simp only [Act.put, sA, sZ, sS]
 refine Pz 14 (some 65) (.pointer (some ⟨g, 0, none⟩)) rfl rfl (by exact StepS.pure nP rfl fun _ => rfl) ?_
 try simp only [Act.put, sA, sZ, sS]
 refine Pz 15 (some 66) (.pointer (some ⟨g, 3, none⟩)) rfl rfl (by exact StepS.pure nP rfl fun _ => rfl) ?_
 try simp only [Act.put, sA, sZ, sS]
 refine Pz 16 (some 67) (.int .u64 (s.sent)) rfl rfl ?ywg14_31 ?rwg14_31
 case ywg14_31 =>
  refine StepS.read [] (by kernel_rfl) nP (by rfl) (fun L9 m9 w9 hSh hAt hDn hS => ?_)
  have hT : Below _ _ w9 := hS
  have x0 : w9.cell? ⟨g, 3, none⟩ = some (.int .u64 (s.sent)) := (HP4.out.blk.ca hT).cell 3
  clear hT hS
  go_simp
  try rfl
 try simp only [Act.put, sA, sZ, sS]
 refine Pz 17 (some 68) (.pointer (some ⟨g, 0, none⟩)) rfl rfl (by exact StepS.pure nP rfl fun _ => rfl) ?_
 try simp only [Act.put, sA, sZ, sS]
 refine Pz 18 (some 69) (.pointer (some ⟨g, 0, none⟩)) rfl rfl (by exact StepS.pure nP rfl fun _ => by first | rfl | (go_simp; done) | (go_simp; rfl)) ?_
 try simp only [Act.put, sA, sZ, sS]
 refine Pz 19 (some 70) (.pointer (some ⟨g, 15, none⟩)) rfl rfl (by exact StepS.pure nP rfl fun _ => rfl) ?_
 try simp only [Act.put, sA, sZ, sS]
 refine Pz 20 (some 71) (.slice A6 n6 c6) rfl rfl ?ywg14_35 ?rwg14_35
 case ywg14_35 =>
  refine StepS.read [] (by kernel_rfl) nP (by rfl) (fun L9 m9 w9 hSh hAt hDn hS => ?_)
  have hT : Below _ _ w9 := hS
  have x0 : w9.cell? ⟨g, 15, none⟩ = some (.slice A6 n6 c6) := (HP4.out.blk.ca hT).cell 15
  clear hT hS
  go_simp
  try rfl
 try simp only [Act.put, sA, sZ, sS]
 refine Pz 21 (some 72) (.int .i64 ((n6 : Int))) rfl rfl (by exact StepS.pure nP rfl fun _ => by first | rfl | (go_simp; done) | (go_simp; rfl)) ?_
 try simp only [Act.put, sA, sZ, sS]
 refine Pz 22 (some 73) (.pointer (some ⟨g, 0, none⟩)) rfl rfl (by exact StepS.pure nP rfl fun _ => rfl) ?_
 try simp only [Act.put, sA, sZ, sS]
 refine Pz 23 (some 74) (.pointer (some ⟨g, 0, none⟩)) rfl rfl (by exact StepS.pure nP rfl fun _ => by first | rfl | (go_simp; done) | (go_simp; rfl)) ?_
 try simp only [Act.put, sA, sZ, sS]
 refine Pz 24 (some 75) (.pointer (some ⟨g, 7, none⟩)) rfl rfl (by exact StepS.pure nP rfl fun _ => rfl) ?_
 try simp only [Act.put, sA, sZ, sS]
 refine Pz 25 (some 76) (.pointer (some ⟨g, 11, none⟩)) rfl rfl (by exact StepS.pure nP rfl fun _ => rfl) ?_
 try simp only [Act.put, sA, sZ, sS]
 refine Pz 26 (some 77) (.int .i64 (r.room)) rfl rfl ?ywg14_41 ?rwg14_41
 case ywg14_41 =>
  refine StepS.read [] (by kernel_rfl) nP (by rfl) (fun L9 m9 w9 hSh hAt hDn hS => ?_)
  have hT : Below _ _ w9 := hS
  have x0 : w9.cell? ⟨g, 11, none⟩ = some (.int .i64 (r.room)) := (HP4.out.blk.ca hT).cell 11
  clear hT hS
  go_simp
  try rfl
 try simp only [Act.put, sA, sZ, sS]
 refine Pz 27 (some 78) (.int .i64 ((n6 : Int) + r.room)) rfl rfl ?ywg14_42 ?rwg14_42
 case ywg14_42 =>
  refine StepS.pure nP (by rfl) (fun w9 => ?_)
  refine Eq.trans ?_ (congrArg (fun z => Result.ok (Next.value (Value.int .i64 z)) w9) HW1.out)
  first | rfl | (go_simp; done) | (go_simp; rfl)
 try simp only [Act.put, sA, sZ, sS]
 refine Pz 28 (some 79) (.int .u64 ((n6 : Int) + r.room)) rfl rfl ?ywg14_43 ?rwg14_43
 case ywg14_43 =>
  refine StepS.pure nP (by rfl) (fun w9 => ?_)
  refine Eq.trans ?_ (congrArg (fun z => Result.ok (Next.value (Value.int .u64 z)) w9) HW2.out)
  first | rfl | (go_simp; done) | (go_simp; rfl)
 try simp only [Act.put, sA, sZ, sS]
 refine Pz 29 (some 80) (.bool (true)) rfl rfl ?ywg14_44 ?rwg14_44
 case ywg14_44 =>
  refine StepS.pure nP (by rfl) (fun w9 => ?_)
  have e9 : decide (s.sent ≤ (n6 : Int) + r.room) = true := decide_eq_true HNX.out.2.1
  refine Eq.trans ?_ (congrArg (fun b => Result.ok (Next.value (Value.bool b)) w9) e9)
  first | rfl | (go_simp; done) | (go_simp; rfl)
 try simp only [Act.put, sA, sZ, sS]
 refine Pz 30 (some 81) (.bool (true)) rfl rfl (by exact StepS.pure nP rfl fun _ => rfl) ?_
 try simp only [Act.put, sA, sZ, sS]
 refine Pz 31 (some 82) (.bool (true)) rfl rfl (by exact StepS.pure nP rfl fun _ => rfl) ?_
 try simp only [Act.put, sA, sZ, sS]
 refine Pz 32 (some 83) (.pointer (some ⟨g, 0, none⟩)) rfl rfl (by exact StepS.pure nP rfl fun _ => rfl) ?_
 try simp only [Act.put, sA, sZ, sS]
 refine Pz 33 (some 84) (.pointer (some ⟨g, 0, none⟩)) rfl rfl (by exact StepS.pure nP rfl fun _ => by first | rfl | (go_simp; done) | (go_simp; rfl)) ?_
 try simp only [Act.put, sA, sZ, sS]
 refine Pz 34 (some 85) (.pointer (some ⟨g, 7, none⟩)) rfl rfl (by exact StepS.pure nP rfl fun _ => rfl) ?_
 try simp only [Act.put, sA, sZ, sS]
 refine Pz 35 (some 86) (.pointer (some ⟨g, 8, none⟩)) rfl rfl (by exact StepS.pure nP rfl fun _ => rfl) ?_
 try simp only [Act.put, sA, sZ, sS]
 refine Pz 36 (some 87) (.int .u64 (r.next)) rfl rfl ?ywg14_51 ?rwg14_51
 case ywg14_51 =>
  refine StepS.read [] (by kernel_rfl) nP (by rfl) (fun L9 m9 w9 hSh hAt hDn hS => ?_)
  have hT : Below _ _ w9 := hS
  have x0 : w9.cell? ⟨g, 8, none⟩ = some (.int .u64 (r.next)) := (HP4.out.blk.ca hT).cell 8
  clear hT hS
  go_simp
  try rfl
 try simp only [Act.put, sA, sZ, sS]
 refine Pz 37 (some 88) (.int .u64 (((n6 + n3 : Nat) : Int))) rfl rfl ?ywg14_52 ?rwg14_52
 case ywg14_52 =>
  refine StepS.pure nP (by rfl) (fun w9 => ?_)
  refine Eq.trans ?_ (congrArg (fun z => Result.ok (Next.value (Value.int .u64 z)) w9) HW3.out)
  first | rfl | (go_simp; done) | (go_simp; rfl)
 try simp only [Act.put, sA, sZ, sS]
 refine Pz 38 (some 89) (.slice E (n6 + n3) f) rfl rfl (by exact StepS.pure nP rfl fun _ => rfl) ?_
 try simp only [Act.put, sA, sZ, sS]
 refine Pz 39 (some 90) (.int .i64 (((n6 + n3 : Nat) : Int))) rfl rfl ?ywg14_54 ?rwg14_54
 case ywg14_54 =>
  refine StepS.pure nP (by rfl) (fun w9 => ?_)
  first | rfl | (go_simp; done) | (go_simp; rfl)
 try simp only [Act.put, sA, sZ, sS]
 refine Pz 40 (some 91) (.int .u64 (((n6 + n3 : Nat) : Int))) rfl rfl ?ywg14_55 ?rwg14_55
 case ywg14_55 =>
  refine StepS.pure nP (by rfl) (fun w9 => ?_)
  refine Eq.trans ?_ (congrArg (fun z => Result.ok (Next.value (Value.int .u64 z)) w9) HW4.out)
  first | rfl | (go_simp; done) | (go_simp; rfl)
 try simp only [Act.put, sA, sZ, sS]
 refine Pz 41 (some 92) (.bool (true)) rfl rfl ?ywg14_56 ?rwg14_56
 case ywg14_56 =>
  refine StepS.pure nP (by rfl) (fun w9 => ?_)
  have e9 : decide (((n6 + n3 : Nat) : Int) = ((n6 + n3 : Nat) : Int)) = true := decide_eq_true rfl
  refine Eq.trans ?_ (congrArg (fun b => Result.ok (Next.value (Value.bool b)) w9) e9)
  first | rfl | (go_simp; done) | (go_simp; rfl)
 try simp only [Act.put, sA, sZ, sS]
 refine Pz 42 (some 93) (.bool (true)) rfl rfl (by exact StepS.pure nP rfl fun _ => rfl) ?_
 try simp only [Act.put, sA, sZ, sS]
 refine Pz 43 (some 2) (.bool (true)) rfl rfl (by exact StepS.pure nP rfl fun _ => rfl) ?_
 try simp only [Act.put, sA, sZ, sS]
 refine Ps.done (by kernel_rfl) (fun wg14 hS => ?_) _
 have HQ5 := Lib.hid (show Below w4.heap.size w4 wg14 from hS)
 clear hS
 obtain ⟨w5, rfl⟩ : ∃ x, x = wg14 := ⟨_, rfl⟩
 go_wp2
 go_ret
 exact ⟨rfl, bl_ca HQ4.out HQ5.out⟩
end Go.Proofs.Ytojghgbaiiajfaa
/- A pair begins: begin. Conditions: the session and the room may be. -/
namespace Go.Proofs.Ytojghgbaiiajfaa
open Go.RowKit
set_option maxRecDepth 100000 in
set_option maxHeartbeats 16000000 in
theorem begin_any (n room : Int) (w : World) (hr : roomB n room = true) :
 Calls Try.prog 39 #[.int .u32 n, .int .i64 room] w fun e w' => ∃ g, e = .returned (.tuple #[.pointer (some ⟨g, 0, none⟩), .bool true]) ∧ Below w.heap.size w w' ∧ PM w.heap.size g w' (openS n) (listenR n room) [] [] [] none 0 0 none 0 0 none 0 0 none 0 0 none 0 0 none 0 0 := by
 have hs : sesB n = true := by unfold roomB at hr; simp only [Bool.and_eq_true] at hr; exact hr.1
 have hE1 : openE n = 0 := by unfold openE; rw [if_pos hs]
 have hE2 : listenE n room = 0 := by unfold listenE; rw [if_pos hr]
 have hS : (openS n).q = [] := by unfold openS; rw [if_pos hs]
 have hL : (listenR n room).ahead = [] ∧ (listenR n room).buf = [] := by unfold listenR; rw [if_pos hr]; exact ⟨rfl, rfl⟩
 have HS := Lib.hid hS
 have HL := Lib.hid hL
 have HO := Lib.hid (fun W => open_any n W)
 have HI := Lib.hid (fun W => listen_any n room W)
 rw [hE1] at HO
 rw [hE2] at HI
 clear hs hE1 hE2 hS hL hr
 generalize openS n = S at *
 generalize listenR n room = T at *
 go_enter Try.func39, Try.ntmps39
 go_wp2_with fail
 refine (HO.out w).mono ?_
 rintro e w1 ⟨rfl, q1⟩
 have q2 := bl_al q1 (.cells (S.cells none 0 0) 29)
 have HB2 := Lib.hid (Blk.new w1 29 (S.cells none 0 0))
 have HQ2 := Lib.hid q2
 clear q1 q2
 go_wp2_with fail
 generalize w1.alloc (.cells (S.cells none 0 0) 29) = w2 at *
 refine (HI.out w2).mono ?_
 rintro e w3 ⟨rfl, q3⟩
 have q4 := bl_al q3 (.cells (T.cells none 0 0 none 0 0) 36)
 have HB4 := Lib.hid (HB2.out.ca q4)
 have HT4 := Lib.hid (Blk.new w3 36 (T.cells none 0 0 none 0 0))
 have HQ4 := Lib.hid (bl_ca HQ2.out q4)
 have x0 := HB4.out.cell 0
 have x1 := HB4.out.cell 1
 have x2 := HB4.out.cell 2
 have x3 := HB4.out.cell 3
 have x4 := HB4.out.cell 4
 have x5 := HB4.out.cell 5
 have x6 := HB4.out.cell 6
 have y0 := HT4.out.cell 0
 have y1 := HT4.out.cell 1
 have y2 := HT4.out.cell 2
 have y3 := HT4.out.cell 3
 have y4 := HT4.out.cell 4
 have y5 := HT4.out.cell 5
 have hq3 := q3.size
 clear q3 q4
 go_wp2_with fail
 clear x0 x1 x2 x3 x4 x5 x6 y0 y1 y2 y3 y4 y5
 have q5 := bl_al (Below.refl (w3.alloc (.cells (T.cells none 0 0 none 0 0) 36)).heap.size (w3.alloc (.cells (T.cells none 0 0 none 0 0) 36))) (.cells (pairC S T none 0 0 none 0 0 none 0 0 (.slice none 0 0) (.slice none 0 0) (.slice none 0 0)) 93)
 have hb := Blk.new (w3.alloc (.cells (T.cells none 0 0 none 0 0) 36)) 93 (pairC S T none 0 0 none 0 0 none 0 0 (.slice none 0 0) (.slice none 0 0) (.slice none 0 0))
 have hsz : (w3.alloc (.cells (T.cells none 0 0 none 0 0) 36)).heap.size = w3.heap.size + 1 := World.size_alloc _ _
 rw [hsz] at hb
 have hle := HQ4.out.size
 rw [hsz] at hle
 have hge : w.heap.size ≤ w3.heap.size := Nat.le_trans HQ2.out.size hq3
 refine bodyPost_ret (results_tmp2 Try.results39 _ _ _) rfl ⟨w3.heap.size + 1, rfl, bl_ca HQ4.out q5, ?_⟩
 exact { blk := hb, g0 := by omega, q := by rw [HS.out]; exact Lay.rd_nil _, cq := by omega, ah := by rw [HL.out.1]; exact Lay.rd_nil _, ca := by omega, bf := by rw [HL.out.2]; exact Lay.rd_nil _, cb := by omega, wy := Lay.ownO_nil, pt := Lay.ownO_nil, tk := Lay.ownO_nil, d45 := fun k h => (by cases h), d46 := fun k h => (by cases h), d56 := fun k h => (by cases h), dg := ⟨by simp [ob], by simp [ob], by simp [ob]⟩ }
end Go.Proofs.Ytojghgbaiiajfaa
/- bowspritlaw22.wakes. Conditions: none. -/
namespace Go.Proofs.Ytojghgbaiiajfaa
open Go.RowKit
theorem SeqN.lt3 {k1 k2 k3 k4 : Nat} {B : Nat → (Nat → Value) → World → Prop} {L : Array Bool} {m : Nat → Value} {w : World} {T : World → Prop} (h4 : Dn L k4 = false) (t : ∀ z m w, z < 4 → B z m w → T w) (hS : SeqN [k1, k2, k3, k4] B L m w) : T w :=
 SeqN.lt (k := k4) (by simp) h4 (fun z m w hz h => t z m w (by simpa using hz) h) hS
theorem own_past {α : Type} {L : Lay α} {e : TypeId} {w w' : World} {B n c g : Nat} {G : Nat → Prop} {A : Option Addr} {xs : List α} (h : L.own e w B G A n c xs) (hg : w.grownBy w' (some g)) (hG : ∀ b, G b → b ≠ g) (hB : g < B) : L.own e w' B G A n c xs :=
 Lay.own_same h (fun k e => hg.block k (Lay.own_base h k e).2 (fun e2 => by injection e2 with e2; have := (Lay.own_base h k e).1; omega)) (fun b hb _ hl => hg.block b hl (fun e2 => by injection e2 with e2; exact hG b hb e2))
theorem wkput_any (ga gb : Nat) (w : World) (B : Nat) (ha : B ≤ ga) (hb : B ≤ gb) (hB : B ≤ w.heap.size) (h1 : Blk w ga 142 (intV 1).cells) (h2 : Blk w gb 89 #[.slice (some ⟨ga, 0, none⟩) 1 1]) :
 Calls Try.prog 47 #[.agg #[.int .u32 7, .int .u64 1, .slice none 0 0, .int .u64 0, .int .u64 0, .int .i64 0, .bool false], .slice (some ⟨gb, 0, none⟩) 1 1] w fun e w' => ∃ A2 c2, e = .returned (.tuple #[.agg #[.int .u32 7, .int .u64 1, .slice A2 1 c2, .int .u64 0, .int .u64 0, .int .i64 0, .bool false], .int .i64 0]) ∧ LB3.own 45 w' B (fun k => B ≤ k) A2 1 c2 wk1.q ∧ Below w.heap.size w w' := by
 have hr : LR.rd w (fun k => B ≤ k ∧ k < w.heap.size) (some ⟨gb, 0, none⟩) 1 [[intV 1]] := rd_blk1 h2 ⟨_, _, _, rfl, Nat.le_refl _, by omega, rd_blk1 h1 rfl ⟨ha, h1.lt⟩⟩ ⟨hb, h2.lt⟩
 refine (put_any (fun k => B ≤ k ∧ k < w.heap.size) wk0 none 0 0 [[intV 1]] (some ⟨gb, 0, none⟩) 1 1 w (fun k h => h.2) (Lay.rd_nil _) hr (by omega) (by omega) (by decide)).mono ?_
 rintro e w' ⟨t, A2, n2, c2, N, rfl, h⟩
 unfold SendsO at h
 rw [wk_put.1, wk_put.2.1, if_pos rfl] at h
 obtain ⟨hc, _, h | ⟨_, rfl, A3, n3, c3, he, ho⟩⟩ := h
 · exact absurd rfl h.1
 · rw [wk_put.2.2] at he ho
   have hl := Lay.own_len ho
   obtain rfl : 1 = n3 := hl
   refine ⟨A3, c3, by rw [he]; rfl, Lay.own_lessB (Lay.own_weak (fun k hk _ => by rcases hk.2 with h | h; exact h.1; omega) ho) hB, ?_⟩
   exact ⟨hc.os, hc.tape, hc.output, hc.size, fun b hb => hc.block b hb (fun h => h)⟩
theorem wkopen_any (w : World) : Calls Try.prog 11 #[.int .u32 7] w fun e w' => e = .returned (.tuple #[.agg #[.int .u32 7, .int .u64 1, .slice none 0 0, .int .u64 0, .int .u64 0, .int .i64 0, .bool false], .int .i64 0]) ∧ Below w.heap.size w w' := by
 have h := open_any 7 w
 rw [wk_open.1, wk_open.2] at h
 exact h
theorem wklisten_any (w : World) : Calls Try.prog 13 #[.int .u32 7, .int .i64 2] w fun e w' => e = .returned (.tuple #[.agg #[.int .u32 7, .int .u64 1, .slice none 0 0, .slice none 0 0, .int .i64 2, .bool false], .int .i64 0]) ∧ Below w.heap.size w w' := by
 have h := listen_any 7 2 w
 rw [wk_listen.1, wk_listen.2] at h
 exact h
theorem wkack_any (w : World) : Calls Try.prog 31 #[.agg #[.int .u32 7, .int .u64 1, .slice none 0 0, .slice none 0 0, .int .i64 2, .bool false]] w fun e w' => e = .returned (.tuple #[.agg #[.int .i64 2, .int .u32 7, .int .u64 1, .int .u64 2, .slice none 0 0, .bool false, .int .u64 0], .int .i64 0]) ∧ Below w.heap.size w w' := by
 refine (ack_any (fun _ => True) (fun _ => True) wkR none 0 0 none 0 0 w (Lay.rd_nil _) (Lay.rd_nil _) (by omega) (by omega)).mono ?_
 intro e w' h
 unfold AckC at h
 rw [wk_ack.1, wk_ack.2] at h
 exact h
theorem wkacked_any (A : Option Addr) (c : Nat) (w : World) (B : Nat) (hB : B ≤ w.heap.size) (h : LB3.rd w (fun k => B ≤ k) A 1 wk1.q) :
 Calls Try.prog 30 #[.agg #[.int .u32 7, .int .u64 1, .slice A 1 c, .int .u64 0, .int .u64 0, .int .i64 0, .bool false], .agg #[.int .i64 2, .int .u32 7, .int .u64 1, .int .u64 2, .slice none 0 0, .bool false, .int .u64 0]] w fun e w' => ∃ A2 c2, e = .returned (.tuple #[.agg #[.int .u32 7, .int .u64 1, .slice A2 1 c2, .int .u64 0, .int .u64 2, .int .i64 0, .bool false], .int .i64 0]) ∧ LB3.own 45 w' B (fun k => B ≤ k) A2 1 c2 wk2.q ∧ Below w.heap.size w w' := by
 refine (acked_any (fun k => B ≤ k ∧ k < w.heap.size) wk1 A 1 c wkP none 0 0 w (fun k h => h.2) (Lay.rd_weak (fun k h hl => ⟨h, hl⟩) h) (Lay.rd_nil _) (by omega) (by omega) (by decide)).mono ?_
 rintro e w' ⟨t, A2, n2, c2, N, rfl, h⟩
 unfold SendsO at h
 rw [wk_acked.1, if_pos rfl] at h
 obtain ⟨hc, _, h | ⟨_, rfl, A3, n3, c3, he, ho⟩⟩ := h
 · exact absurd rfl h.1
 · rw [wk_acked.2] at he ho
   have hl := Lay.own_len ho
   obtain rfl : 1 = n3 := hl
   refine ⟨A3, c3, by rw [he]; rfl, Lay.own_lessB (Lay.own_weak (fun k hk _ => by rcases hk.2 with h | h; exact h.1; omega) ho) hB, ?_⟩
   exact ⟨hc.os, hc.tape, hc.output, hc.size, fun b hb => hc.block b hb (fun h => h)⟩
theorem wktick_any (A : Option Addr) (c : Nat) (w : World) (h : LB3.rd w (fun k => k < w.heap.size) A 1 wk2.q) :
 Calls Try.prog 43 #[.agg #[.int .u32 7, .int .u64 1, .slice A 1 c, .int .u64 0, .int .u64 2, .int .i64 0, .bool false]] w fun e w' => ∃ (t : SC) (A2 : Option Addr) (n2 c2 gp pc : Nat), e = .returned (.tuple #[.agg (t.cells A2 n2 c2), .slice (some ⟨gp, 0, none⟩) 1 pc, .int .i64 0]) ∧ gp < w'.heap.size ∧ w'.cell? ⟨gp, 2, none⟩ = some (.int .u64 1) ∧ Below w.heap.size w w' := by
 refine (tick_any (fun k => k < w.heap.size) wk2 A 1 c w (fun k h => h) h (by omega) (by decide)).mono ?_
 rintro e w' ⟨t, A2, n2, c2, N, PA, pn, pc, rfl, h, hp⟩
 unfold SendsO at h
 unfold TickO at hp
 rw [wk_tick.1, if_pos rfl] at h hp
 rw [wk_tick.2] at hp
 obtain ⟨hc, _, h | ⟨_, rfl, A3, n3, c3, he, ho⟩⟩ := h
 · exact absurd rfl h.1
 · have hl := Lay.own_len hp
   obtain rfl : 1 = pn := hl
   have hr := Lay.own_rd (F := fun _ => True) hp (fun _ _ _ => trivial) (fun _ _ _ => trivial)
   obtain ⟨_, cs, _, hown⟩ := hp
   obtain ⟨gp, cap, hv, _, hlt⟩ := World.ownsRow.form hown (by omega)
   injection hv with hA _ hcap
   subst hA
   have h2 := lp7_last (m := 0) hr rfl
   rw [show wkO.seq = 1 from rfl] at h2
   refine ⟨t, A2, n2, c2, gp, pc, rfl, hlt, ?_, ?_⟩
   · simpa [Addr.add] using h2
   · exact ⟨hc.os, hc.tape, hc.output, hc.size, fun b hb => hc.block b hb (fun h => h)⟩
set_option maxRecDepth 100000 in
set_option maxHeartbeats 16000000 in
theorem wakes_any (w : World) : Calls Try.prog 10 #[] w fun e w' => e = .returned (.bool true) ∧ Below w.heap.size w w' := by
 have HO := Lib.hid (fun W => wkopen_any W)
 have HL := Lib.hid (fun W => wklisten_any W)
 go_enter Try.func10, Try.ntmps10
 go_wp2_with fail
 refine (HO.out _).mono ?_
 rintro e w1 ⟨rfl, q1⟩
 have b1 := Lib.hid (bl_al q1 (.cells #[.int .u32 7, .int .u64 1, .slice none 0 0, .int .u64 0, .int .u64 0, .int .i64 0, .bool false] 29))
 have hz1 := q1.size
 have hN := Blk.new w1 29 #[.int .u32 7, .int .u64 1, .slice none 0 0, .int .u64 0, .int .u64 0, .int .i64 0, .bool false]
 obtain ⟨g1, hg1⟩ : ∃ g, g = w1.heap.size := ⟨_, rfl⟩
 clear q1 HO
 go_wp2_with fail
 rw [← hg1] at hN hz1 ⊢
 have HS := Lib.hid hN
 clear hg1 hN
 generalize w1.alloc (.cells #[.int .u32 7, .int .u64 1, .slice none 0 0, .int .u64 0, .int .u64 0, .int .i64 0, .bool false] 29) = w1b at *
 refine (HL.out _).mono ?_
 rintro e w2 ⟨rfl, q2⟩
 have HS2 := Lib.hid (HS.out.ca q2)
 have b2 := Lib.hid (bl_al (bl_ca b1.out q2) (.cells #[.int .u32 7, .int .u64 1, .slice none 0 0, .slice none 0 0, .int .i64 2, .bool false] 36))
 have hN := Blk.new w2 36 #[.int .u32 7, .int .u64 1, .slice none 0 0, .slice none 0 0, .int .i64 2, .bool false]
 have hl2 := HS2.out.lt
 have HS3 := Lib.hid (HS2.out.ca (bl_al (Below.refl _ w2) (.cells #[.int .u32 7, .int .u64 1, .slice none 0 0, .slice none 0 0, .int .i64 2, .bool false] 36)))
 obtain ⟨g3, hg3⟩ : ∃ g, g = w2.heap.size := ⟨_, rfl⟩
 clear q2 b1 HL HS HS2
 go_wp2_with fail
 rw [← hg3] at hN hl2 ⊢
 have HR3 := Lib.hid hN
 clear hg3 hN
 generalize w2.alloc (.cells #[.int .u32 7, .int .u64 1, .slice none 0 0, .slice none 0 0, .int .i64 2, .bool false] 36) = w3 at *
 have hg1s := HS3.out.lt
 refine wp_region_ps (S := SeqN [1, 2, 3, 7] (fun z m w' => match z with | 0 => Below w3.heap.size w3 w' | 1 => Below w3.heap.size w3 w' ∧ ∃ ga, m 1 = .slice (some ⟨ga, 0, none⟩) 1 1 ∧ w3.heap.size ≤ ga ∧ Blk w' ga 142 (intV 1).cells | 2 => Below w3.heap.size w3 w' ∧ ∃ ga gb, m 2 = .slice (some ⟨gb, 0, none⟩) 1 1 ∧ w3.heap.size ≤ ga ∧ w3.heap.size ≤ gb ∧ Blk w' ga 142 (intV 1).cells ∧ Blk w' gb 89 #[.slice (some ⟨ga, 0, none⟩) 1 1] | 3 => Below w3.heap.size w3 w' ∧ ∃ A2 c2, m 3 = .tuple #[.agg #[.int .u32 7, .int .u64 1, .slice A2 1 c2, .int .u64 0, .int .u64 0, .int .i64 0, .bool false], .int .i64 0] ∧ LB3.own 45 w' w3.heap.size (fun k => w3.heap.size ≤ k) A2 1 c2 wk1.q | _ => Chg (fun k => k = g1) w3 w' ∧ ∃ A2 c2, m 3 = .tuple #[.agg #[.int .u32 7, .int .u64 1, .slice A2 1 c2, .int .u64 0, .int .u64 0, .int .i64 0, .bool false], .int .i64 0] ∧ LB3.own 45 w' w3.heap.size (fun k => w3.heap.size ≤ k) A2 1 c2 wk1.q ∧ Blk w' g1 29 #[.int .u32 7, .int .u64 1, .slice A2 1 c2, .int .u64 0, .int .u64 0, .int .i64 0, .bool false])) (by kernel_rfl) ?spswq ?ppswq
 case spswq =>
  exact SeqN.start (by decide) (Below.refl _ _).drew
 refine Pz 0 (some 21) (.agg #[.int .u32 7, .int .u64 1, .slice none 0 0, .int .u64 0, .int .u64 0, .int .i64 0, .bool false]) rfl rfl ?ywq_1 ?rwq_1
 case ywq_1 =>
  refine StepS.read [] (by kernel_rfl) (SeqN.pass (by decide)) (by rfl) (fun L9 m9 w9 hSh hAt hDn hS => ?_)
  have hT : Below w3.heap.size w3 w9 := SeqN.lt3 (T := fun w9 => Below w3.heap.size w3 w9) (reach_no hSh (f := 9) (j := 7) (by kernel_rfl) hDn) (fun z _ _ hz h => by match z, hz, h with | 0, _, h => exact h | 1, _, h => exact h.1 | 2, _, h => exact h.1 | 3, _, h => exact h.1 | _ + 4, hz, _ => exact absurd hz (by omega)) hS
  have x0 : w9.cell? ⟨g1, 0, none⟩ = some (.int .u32 7) := (HS3.out.ca hT).cell 0
  have x1 : w9.cell? ⟨g1, 1, none⟩ = some (.int .u64 1) := (HS3.out.ca hT).cell 1
  have x2 : w9.cell? ⟨g1, 2, none⟩ = some (.slice none 0 0) := (HS3.out.ca hT).cell 2
  have x3 : w9.cell? ⟨g1, 3, none⟩ = some (.int .u64 0) := (HS3.out.ca hT).cell 3
  have x4 : w9.cell? ⟨g1, 4, none⟩ = some (.int .u64 0) := (HS3.out.ca hT).cell 4
  have x5 : w9.cell? ⟨g1, 5, none⟩ = some (.int .i64 0) := (HS3.out.ca hT).cell 5
  have x6 : w9.cell? ⟨g1, 6, none⟩ = some (.bool false) := (HS3.out.ca hT).cell 6
  clear hT hS
  go_simp
  try rfl
 try simp only [Act.put, sA, sZ, sS]
 refine Ps.one (k := 1) (d := some 22) rfl rfl (by kernel_rfl) (TurnS.call (V := fun v => ∃ ga, v = .slice (some ⟨ga, 0, none⟩) 1 1) ?fwq_2 ?awq_2 [] (by kernel_rfl) (by rfl) (fun w9 => ?hwq_2) (fun L9 m9 w9 hSh hAt hDn hS => ?cwq_2)) (fun v1 hVv1 => ?rwq_2)
 case hwq_2 => go_simp; refine ⟨?_, ?_⟩ <;> rfl
 case cwq_2 =>
  have hT : Below w3.heap.size w3 w9 := SeqN.at_ (m0 := m9) (m1 := m9) [] [2, 3, 7] hSh (fun d hd => by cases hd) hDn (by kernel_rfl) hS
  refine (one_any 1 w9).mono ?_
  rintro e w6 ⟨ga, rfl, hga, hb, q6⟩
  exact ⟨_, rfl, ⟨_, rfl⟩, SeqN.set_ (m0 := m9) (m1 := m9) [] [2, 3, 7] hSh (fun d hd => by cases hd) hDn (by kernel_rfl) (by decide) (by decide) ⟨bl_ca hT q6, ga, upd_same _ _ _, Nat.le_trans hT.size hga, hb⟩⟩
 try simp only [Act.put, sA, sZ, sS]
 obtain ⟨ga, rfl⟩ := hVv1
 refine Ps.one (k := 2) (d := some 23) rfl rfl (by kernel_rfl) (TurnS.value (V := fun v => ∃ gb, v = .slice (some ⟨gb, 0, none⟩) 1 1) [1] (by kernel_rfl) (by rfl) (fun L9 m9 w9 hSh hAt hDn hS => ?cwq_3)) (fun v2 hVv2 => ?rwq_3)
 case cwq_3 =>
  obtain ⟨hT, ga2, hv, hg1, hg2⟩ := SeqN.at_ [1] [3, 7] hSh hAt hDn (by kernel_rfl) hS
  obtain rfl : ga = ga2 := by have h9 : Value.slice (some ⟨ga, 0, none⟩) 1 1 = .slice (some ⟨ga2, 0, none⟩) 1 1 := (hAt 1 (by simp)).2.symm.trans hv; simpa using h9
  refine ⟨.slice (some ⟨w9.heap.size, 0, none⟩) 1 1, w9.alloc (.cells #[.slice (some ⟨ga, 0, none⟩) 1 1] 89), ?_, ⟨_, rfl⟩, SeqN.set_ [1] [3, 7] hSh hAt hDn (by kernel_rfl) (by decide) (by decide) ⟨bl_al hT _, ga, w9.heap.size, upd_same _ _ _, hg1, hT.size, hg2.alloc _, Blk.new _ _ _⟩⟩
  clear hT hS
  go_simp
 try simp only [Act.put, sA, sZ, sS]
 obtain ⟨gb, rfl⟩ := hVv2
 refine Ps.one (k := 3) (d := some 24) rfl rfl (by kernel_rfl) (TurnS.call (V := fun v => ∃ A2 c2, v = .tuple #[.agg #[.int .u32 7, .int .u64 1, .slice A2 1 c2, .int .u64 0, .int .u64 0, .int .i64 0, .bool false], .int .i64 0]) ?fwq_4 ?awq_4 [1, 2] (by kernel_rfl) (by rfl) (fun w9 => ?hwq_4) (fun L9 m9 w9 hSh hAt hDn hS => ?cwq_4)) (fun v3 hVv3 => ?rwq_4)
 case hwq_4 => go_simp; refine ⟨?_, ?_⟩ <;> rfl
 case cwq_4 =>
  obtain ⟨hT, ga2, gb2, hv, hga, hgb, hba, hbb⟩ := SeqN.at_ [1, 2] [7] hSh hAt hDn (by kernel_rfl) hS
  obtain rfl : gb = gb2 := by have h9 : Value.slice (some ⟨gb, 0, none⟩) 1 1 = .slice (some ⟨gb2, 0, none⟩) 1 1 := (hAt 2 (by simp)).2.symm.trans hv; simpa using h9
  refine (wkput_any ga2 gb w9 w3.heap.size hga hgb hT.size hba hbb).mono ?_
  rintro e w6 ⟨A2, c2, rfl, ho, q6⟩
  exact ⟨_, rfl, ⟨A2, c2, rfl⟩, SeqN.set_ [1, 2] [7] hSh hAt hDn (by kernel_rfl) (by decide) (by decide) ⟨bl_ca hT q6, A2, c2, upd_same _ _ _, ho⟩⟩
 try simp only [Act.put, sA, sZ, sS]
 obtain ⟨A2, c2, rfl⟩ := hVv3
 refine Pz 4 (some 20) _ rfl rfl (StepS.pure (SeqN.pass (by decide)) rfl fun w9 => by go_simp; try rfl) ?_
 try simp only [Act.put, sA, sZ, sS]
 refine Pz 5 (some 25) _ rfl rfl (StepS.pure (SeqN.pass (by decide)) rfl fun w9 => by go_simp; try rfl) ?_
 try simp only [Act.put, sA, sZ, sS]
 refine Pz 6 (some 26) _ rfl rfl (StepS.pure (SeqN.pass (by decide)) rfl fun w9 => by go_simp; try rfl) ?_
 try simp only [Act.put, sA, sZ, sS]
 refine Pz 7 none undef rfl rfl ?ywq_8 ?rwq_8
 case ywq_8 =>
  refine StepS.store [1, 2, 3] (by kernel_rfl) (by rfl) (fun L9 m9 w9 hSh hAt hDn hS => ?_)
  obtain ⟨hT, A3, c3, hv, ho⟩ := SeqN.at_ [1, 2, 3] [] hSh hAt hDn (by kernel_rfl) hS
  obtain ⟨rfl, rfl⟩ : A2 = A3 ∧ c2 = c3 := by have h9 : Value.tuple #[.agg #[.int .u32 7, .int .u64 1, .slice A2 1 c2, .int .u64 0, .int .u64 0, .int .i64 0, .bool false], .int .i64 0] = .tuple #[.agg #[.int .u32 7, .int .u64 1, .slice A3 1 c3, .int .u64 0, .int .u64 0, .int .i64 0, .bool false], .int .i64 0] := (hAt 3 (by simp)).2.symm.trans hv; simpa using h9
  refine (exec_store_blk (w := w9) 29 (.tmp 1) (.tmp 25) (by rfl) g1 29 #[.int .u32 7, .int .u64 1, .slice none 0 0, .int .u64 0, .int .u64 0, .int .i64 0, .bool false] #[.int .u32 7, .int .u64 1, .slice A2 1 c2, .int .u64 0, .int .u64 0, .int .i64 0, .bool false] (by rfl) (by rfl) (HS3.out.ca hT) rfl senderI (by simp [Value.oneCell'])).imp fun w7 hx => ⟨hx.1, SeqN.set_ [1, 2, 3] [] hSh hAt hDn (by kernel_rfl) (by decide) (by decide) ⟨(Chg.of_below hT).grown hx.2.2 (fun k e => .inl (by injection e with e; exact e.symm)), A2, c2, hv, own_past ho hx.2.2 (fun k hk e => by omega) (by omega), hx.2.1⟩⟩
 try simp only [Act.put]
 refine Pz 8 (some 5) _ rfl rfl (StepS.pure (SeqN.pass (by decide)) rfl fun w9 => by go_simp; try rfl) ?_
 try simp only [Act.put, sA, sZ, sS]
 refine Ps.done (by kernel_rfl) (fun wq hS => ?_) _
 obtain ⟨hch, A3, c3, hv, ho, hN⟩ := SeqN.fin (by rfl) hS
 clear hS
 obtain ⟨rfl, rfl⟩ : A2 = A3 ∧ c2 = c3 := by have h9 : Value.tuple #[.agg #[.int .u32 7, .int .u64 1, .slice A2 1 c2, .int .u64 0, .int .u64 0, .int .i64 0, .bool false], .int .i64 0] = .tuple #[.agg #[.int .u32 7, .int .u64 1, .slice A3 1 c3, .int .u64 0, .int .u64 0, .int .i64 0, .bool false], .int .i64 0] := hv; simpa using h9
 obtain ⟨w4, rfl⟩ : ∃ x, x = wq := ⟨_, rfl⟩
 have hbel := Chg.bel b2.out hch (fun b _ e => by omega) b2.out.size
 have HR4 := HR3.out.chg hch (by omega)
 have hs4 := hch.size
 have HN4 := Lib.hid hN
 have HO4 := Lib.hid ho
 have HB4 := Lib.hid hbel
 have hcap := Lay.own_caps ho
 have z0 : w4.cell? ⟨g3, 0, none⟩ = some (.int .u32 7) := HR4.cell 0
 have z1 : w4.cell? ⟨g3, 1, none⟩ = some (.int .u64 1) := HR4.cell 1
 have z2 : w4.cell? ⟨g3, 2, none⟩ = some (.slice none 0 0) := HR4.cell 2
 have z3 : w4.cell? ⟨g3, 3, none⟩ = some (.slice none 0 0) := HR4.cell 3
 have z4 : w4.cell? ⟨g3, 4, none⟩ = some (.int .i64 2) := HR4.cell 4
 have z5 : w4.cell? ⟨g3, 5, none⟩ = some (.bool false) := HR4.cell 5
 clear hch ho hN hbel HS3 HR3 HR4 b2
 go_wp2_with fail
 refine (wkack_any _).mono ?_
 rintro e w5 ⟨rfl, q5⟩
 have q6 := bl_al (Below.refl _ w5) (.cells #[.int .i64 2, .int .u32 7, .int .u64 1, .int .u64 2, .slice none 0 0, .bool false, .int .u64 0] 47)
 have HN5 := Lib.hid ((HN4.out.ca q5).ca q6)
 have HO5 := Lib.hid (Lay.own_below (Lay.own_below HO4.out q5) q6)
 have HB5 := Lib.hid (bl_al (bl_ca HB4.out q5) (.cells #[.int .i64 2, .int .u32 7, .int .u64 1, .int .u64 2, .slice none 0 0, .bool false, .int .u64 0] 47))
 have hp5 := Blk.new w5 47 #[.int .i64 2, .int .u32 7, .int .u64 1, .int .u64 2, .slice none 0 0, .bool false, .int .u64 0]
 have hs5 := q5.size
 have hs6 := q6.size
 have hg6 := hp5.lt
 clear z0 z1 z2 z3 z4 z5 q5 q6 HN4 HO4 HB4
 have x0 : (w5.alloc (.cells #[.int .i64 2, .int .u32 7, .int .u64 1, .int .u64 2, .slice none 0 0, .bool false, .int .u64 0] 47)).cell? ⟨g1, 0, none⟩ = some (.int .u32 7) := HN5.out.cell 0
 have x1 : (w5.alloc (.cells #[.int .i64 2, .int .u32 7, .int .u64 1, .int .u64 2, .slice none 0 0, .bool false, .int .u64 0] 47)).cell? ⟨g1, 1, none⟩ = some (.int .u64 1) := HN5.out.cell 1
 have x2 : (w5.alloc (.cells #[.int .i64 2, .int .u32 7, .int .u64 1, .int .u64 2, .slice none 0 0, .bool false, .int .u64 0] 47)).cell? ⟨g1, 2, none⟩ = some (.slice A2 1 c2) := HN5.out.cell 2
 have x3 : (w5.alloc (.cells #[.int .i64 2, .int .u32 7, .int .u64 1, .int .u64 2, .slice none 0 0, .bool false, .int .u64 0] 47)).cell? ⟨g1, 3, none⟩ = some (.int .u64 0) := HN5.out.cell 3
 have x4 : (w5.alloc (.cells #[.int .i64 2, .int .u32 7, .int .u64 1, .int .u64 2, .slice none 0 0, .bool false, .int .u64 0] 47)).cell? ⟨g1, 4, none⟩ = some (.int .u64 0) := HN5.out.cell 4
 have x5 : (w5.alloc (.cells #[.int .i64 2, .int .u32 7, .int .u64 1, .int .u64 2, .slice none 0 0, .bool false, .int .u64 0] 47)).cell? ⟨g1, 5, none⟩ = some (.int .i64 0) := HN5.out.cell 5
 have x6 : (w5.alloc (.cells #[.int .i64 2, .int .u32 7, .int .u64 1, .int .u64 2, .slice none 0 0, .bool false, .int .u64 0] 47)).cell? ⟨g1, 6, none⟩ = some (.bool false) := HN5.out.cell 6
 have y0 : (w5.alloc (.cells #[.int .i64 2, .int .u32 7, .int .u64 1, .int .u64 2, .slice none 0 0, .bool false, .int .u64 0] 47)).cell? ⟨w5.heap.size, 0, none⟩ = some (.int .i64 2) := hp5.cell 0
 have y1 : (w5.alloc (.cells #[.int .i64 2, .int .u32 7, .int .u64 1, .int .u64 2, .slice none 0 0, .bool false, .int .u64 0] 47)).cell? ⟨w5.heap.size, 1, none⟩ = some (.int .u32 7) := hp5.cell 1
 have y2 : (w5.alloc (.cells #[.int .i64 2, .int .u32 7, .int .u64 1, .int .u64 2, .slice none 0 0, .bool false, .int .u64 0] 47)).cell? ⟨w5.heap.size, 2, none⟩ = some (.int .u64 1) := hp5.cell 2
 have y3 : (w5.alloc (.cells #[.int .i64 2, .int .u32 7, .int .u64 1, .int .u64 2, .slice none 0 0, .bool false, .int .u64 0] 47)).cell? ⟨w5.heap.size, 3, none⟩ = some (.int .u64 2) := hp5.cell 3
 have y4 : (w5.alloc (.cells #[.int .i64 2, .int .u32 7, .int .u64 1, .int .u64 2, .slice none 0 0, .bool false, .int .u64 0] 47)).cell? ⟨w5.heap.size, 4, none⟩ = some (.slice none 0 0) := hp5.cell 4
 have y5 : (w5.alloc (.cells #[.int .i64 2, .int .u32 7, .int .u64 1, .int .u64 2, .slice none 0 0, .bool false, .int .u64 0] 47)).cell? ⟨w5.heap.size, 5, none⟩ = some (.bool false) := hp5.cell 5
 have y6 : (w5.alloc (.cells #[.int .i64 2, .int .u32 7, .int .u64 1, .int .u64 2, .slice none 0 0, .bool false, .int .u64 0] 47)).cell? ⟨w5.heap.size, 6, none⟩ = some (.int .u64 0) := hp5.cell 6
 have HP5 := Lib.hid hp5
 clear hp5
 go_wp2_with fail
 clear x0 x1 x2 x3 x4 x5 x6 y0 y1 y2 y3 y4 y5 y6
 generalize w5.alloc (.cells #[.int .i64 2, .int .u32 7, .int .u64 1, .int .u64 2, .slice none 0 0, .bool false, .int .u64 0] 47) = w6 at *
 refine (wkacked_any A2 c2 w6 w3.heap.size (by omega) (Lay.own_rd HO5.out (fun _ h _ => h) (fun _ h _ => h))).mono ?_
 rintro e w7 ⟨A3, c3, rfl, ho, q7⟩
 have HN7 := Lib.hid (HN5.out.ca q7)
 have HP7 := Lib.hid (HP5.out.ca q7)
 have HO7 := Lib.hid ho
 have HB7 := Lib.hid (bl_ca HB5.out q7)
 have hs7 := q7.size
 clear q7 ho HN5 HP5 HO5 HB5
 go_wp2_with (refine wpList_store_blk rfl 29 (.tmp 1) (.tmp 36) rfl g1 29 _ #[.int .u32 7, .int .u64 1, .slice A3 1 c3, .int .u64 0, .int .u64 2, .int .i64 0, .bool false] rfl rfl HN7.out rfl senderI (by simp [Value.oneCell']) ?_; intro wz hZ gz; have x0 : wz.cell? ⟨g1, 0, none⟩ = some (.int .u32 7) := hZ.cell 0; have x1 : wz.cell? ⟨g1, 1, none⟩ = some (.int .u64 1) := hZ.cell 1; have x2 : wz.cell? ⟨g1, 2, none⟩ = some (.slice A3 1 c3) := hZ.cell 2; have x3 : wz.cell? ⟨g1, 3, none⟩ = some (.int .u64 0) := hZ.cell 3; have x4 : wz.cell? ⟨g1, 4, none⟩ = some (.int .u64 2) := hZ.cell 4; have x5 : wz.cell? ⟨g1, 5, none⟩ = some (.int .i64 0) := hZ.cell 5; have x6 : wz.cell? ⟨g1, 6, none⟩ = some (.bool false) := hZ.cell 6)
 have HB8 := Lib.hid (bl_gr HB7.out gz (by omega))
 have HP8 := Lib.hid (HP7.out.apart gz (by omega))
 have hr8 := Lay.own_rd (F := fun _ => True) (own_past HO7.out gz (fun k hk e => by omega) (by omega)) (fun _ _ _ => trivial) (fun _ _ _ => trivial)
 refine (wktick_any A3 c3 wz (Lay.rd_weak (fun _ _ hl => hl) hr8)).mono ?_
 rintro e w9 ⟨t, A4, n4, c4, gp, pc, rfl, hgp, hseq, q9⟩
 obtain ⟨t1, t2, tq, t4, t5, t6, t7⟩ := t
 have q10 := bl_al (Below.refl _ w9) (.cells (SC.cells ⟨t1, t2, tq, t4, t5, t6, t7⟩ A4 n4 c4) 29)
 have k2 : (w9.alloc (.cells (SC.cells ⟨t1, t2, tq, t4, t5, t6, t7⟩ A4 n4 c4) 29)).cell? ⟨gp, 2, none⟩ = some (.int .u64 1) := (q10.cell (p := ⟨gp, 2, none⟩) hgp).trans hseq
 have k3 : (w9.alloc (.cells (SC.cells ⟨t1, t2, tq, t4, t5, t6, t7⟩ A4 n4 c4) 29)).cell? ⟨w5.heap.size, 3, none⟩ = some (.int .u64 2) := ((HP8.out.ca q9).ca q10).cell 3
 have HBL := Lib.hid (bl_ca (bl_ca HB8.out q9) q10)
 clear HO7 HN7 HP7 HB7 HB8 HP8 q9 q10 hseq hgp hr8 x0 x1 x2 x3 x4 x5 x6 hZ gz
 go_wp2
 go_ret
 exact ⟨rfl, HBL.out⟩
end Go.Proofs.Ytojghgbaiiajfaa
/- LinkSafe's walk: the beginning that LinkSafe and LinkEnds have in common, and LinkSafe's loop. Conditions: the deeds read so. -/
namespace Go.Proofs.Ytojghgbaiiajfaa
open Go.RowKit
/-- a pair that is sound, behind i deeds -/
def SafeR (B0 g : Nat) (σ room : Int) (N P : Nat) (w0 wr : World) : Prop :=
 Below B0 w0 wr ∧ ∃ s r way put taken A n c A2 n2 c2 A3 n3 c3 A4 n4 c4 A5 n5 c5 A6 n6 c6, PM B0 g wr s r way put taken A n c A2 n2 c2 A3 n3 c3 A4 n4 c4 A5 n5 c5 A6 n6 c6 ∧ SInv σ room s r way put taken ∧ EX s r way ∧ n4 ≤ N ∧ n5 ≤ P
theorem PM.less {B0 B1 g : Nat} {w : World} {s : SC} {r : RC} {way : List PK} {put taken : List BC} {A : Option Addr} {n c : Nat} {A2 : Option Addr} {n2 c2 : Nat} {A3 : Option Addr} {n3 c3 : Nat} {A4 : Option Addr} {n4 c4 : Nat} {A5 : Option Addr} {n5 c5 : Nat} {A6 : Option Addr} {n6 c6 : Nat}
 (h : PM B0 g w s r way put taken A n c A2 n2 c2 A3 n3 c3 A4 n4 c4 A5 n5 c5 A6 n6 c6) (hB : B1 ≤ B0) : PM B1 g w s r way put taken A n c A2 n2 c2 A3 n3 c3 A4 n4 c4 A5 n5 c5 A6 n6 c6 :=
 { h with g0 := Nat.le_trans hB h.g0, wy := Lay.ownO_less h.wy hB, pt := Lay.ownO_less h.pt hB, tk := Lay.ownO_less h.tk hB }
theorem sound_at {B0 g : Nat} {σ room : Int} {w : World} {s : SC} {r : RC} {way : List PK} {put taken : List BC} {A : Option Addr} {n c : Nat} {A2 : Option Addr} {n2 c2 : Nat} {A3 : Option Addr} {n3 c3 : Nat} {A4 : Option Addr} {n4 c4 : Nat} {A5 : Option Addr} {n5 c5 : Nat} {A6 : Option Addr} {n6 c6 : Nat}
 (h : PM B0 g w s r way put taken A n c A2 n2 c2 A3 n3 c3 A4 n4 c4 A5 n5 c5 A6 n6 c6) (hi : SInv σ room s r way put taken) (h5 : n5 ≤ 100000) :
 Calls Try.prog 41 #[.pointer (some ⟨g, 0, none⟩)] w fun e w' => e = .returned (.bool true) ∧ Below w.heap.size w w' := by
 obtain ⟨a1, a2, a3, a4, a5, a6, a7⟩ := hi.sound
 have l5 := Lay.ownO_len h.pt
 have l6 := Lay.ownO_len h.tk
 have l3 := Lay.rd_len h.bf
 have e : (taken ++ r.buf).length = n6 + n3 := by rw [List.length_append, l6, l3]
 rw [e] at a1 a2 a7
 exact sound_any B0 g w s r way put taken A n c A2 n2 c2 A3 n3 c3 A4 n4 c4 A5 n5 c5 A6 n6 c6 h (by omega) a2 a3 a4 a5 (by rw [← l6]; exact a6) a7 h5
end Go.Proofs.Ytojghgbaiiajfaa
