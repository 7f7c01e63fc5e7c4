/- bowspritref22.Acked. Conditions: the slices read so; the sender's numbers are in their range. -/
import Derived.Test.YtojghgbaiiajfaaPkS15
namespace Go.Proofs.Ytojghgbaiiajfaa
open Go.RowKit
def AckW (w0 : World) (Fr : Nat → Prop) (s2 : SC) (e : Ending) (w' : World) : Prop :=
  ∃ A2 n2 c2, e = .returned (.agg (s2.cells A2 n2 c2)) ∧ Below w0.heap.size w0 w' ∧ LB3.rd w' (fun k => Fr k ∨ w0.heap.size ≤ k) A2 n2 s2.q ∧ n2 ≤ c2 ∧ c2 ≤ 9223372036854775807
theorem SeqN.zero4 {ks : List Nat} {B : Nat → (Nat → Value) → World → Prop} {L : Array Bool} {m : Nat → Value} {w : World} (h : ∀ x ∈ ks, Dn L x = false) (hS : SeqN ks B L m w) : B 0 m w := by
  unfold SeqN at hS
  rwa [cntD_none h] at hS
set_option maxRecDepth 100000 in
set_option maxHeartbeats 32000000 in
theorem racked_any (Fr : Nat → Prop) (s : SC) (A : Option Addr) (n c : Nat) (p : PK) (pA : Option Addr) (pn pc : Nat) (w : World) (h : LB3.rd w Fr A n s.q) (hr : LR.rd w Fr pA pn p.b.rows) (hn : n ≤ 100) (hnc : n ≤ c) (hc : c ≤ 9223372036854775807) (hpn : pn ≤ 9223372036854775807) (h1 : 1 ≤ s.base) (h2 : s.base ≤ 2000000000000) (h3 : s.base - 1 ≤ s.sent) (h4 : s.sent ≤ s.base - 1 + (n : Int)) :
    Calls Try.prog 57 #[.agg (s.cells A n c), .agg (p.cells pA pn pc)] w (AckW w Fr (ackedR s p)) := by
  obtain ⟨s2, hs2⟩ : ∃ s2, s2 = ackedR s p := ⟨_, rfl⟩
  rw [← hs2]
  obtain ⟨ses, base, q, sent, lim, timer, ended⟩ := s
  obtain ⟨kind, pses, seq, plim, rows, pfin, pcnt⟩ := p
  dsimp only at h hr h1 h2 h3 h4
  unfold ackedR at hs2
  dsimp only at hs2
  have HS := Lib.hid hs2
  have HRD := Lib.hid h
  have HRB := Lib.hid hr
  have q1 := bl_al (Below.refl w.heap.size w) (.cells #[.int .u32 ses, .int .u64 base, .slice A n c, .int .u64 sent, .int .u64 lim, .int .i64 timer, .bool ended] 29)
  have q2 := bl_al q1 (.cells #[.int .i64 kind, .int .u32 pses, .int .u64 seq, .int .u64 plim, .slice pA pn pc, .bool pfin, .int .u64 pcnt] 47)
  have q3 := bl_al q2 (.cells #[.int .u32 0, .int .u64 0, .slice none 0 0, .int .u64 0, .int .u64 0, .int .i64 0, .bool false] 29)
  have HK1 := Lib.hid (((Blk.new w 29 #[.int .u32 ses, .int .u64 base, .slice A n c, .int .u64 sent, .int .u64 lim, .int .i64 timer, .bool ended]).alloc (.cells #[.int .i64 kind, .int .u32 pses, .int .u64 seq, .int .u64 plim, .slice pA pn pc, .bool pfin, .int .u64 pcnt] 47)).alloc (.cells #[.int .u32 0, .int .u64 0, .slice none 0 0, .int .u64 0, .int .u64 0, .int .i64 0, .bool false] 29))
  have HK2 := Lib.hid (show Blk (((w.alloc (.cells #[.int .u32 ses, .int .u64 base, .slice A n c, .int .u64 sent, .int .u64 lim, .int .i64 timer, .bool ended] 29)).alloc (.cells #[.int .i64 kind, .int .u32 pses, .int .u64 seq, .int .u64 plim, .slice pA pn pc, .bool pfin, .int .u64 pcnt] 47)).alloc (.cells #[.int .u32 0, .int .u64 0, .slice none 0 0, .int .u64 0, .int .u64 0, .int .i64 0, .bool false] 29)) (w.heap.size + 1) 47 #[.int .i64 kind, .int .u32 pses, .int .u64 seq, .int .u64 plim, .slice pA pn pc, .bool pfin, .int .u64 pcnt] from by have := (Blk.new (w.alloc (.cells #[.int .u32 ses, .int .u64 base, .slice A n c, .int .u64 sent, .int .u64 lim, .int .i64 timer, .bool ended] 29)) 47 #[.int .i64 kind, .int .u32 pses, .int .u64 seq, .int .u64 plim, .slice pA pn pc, .bool pfin, .int .u64 pcnt]).alloc (.cells #[.int .u32 0, .int .u64 0, .slice none 0 0, .int .u64 0, .int .u64 0, .int .i64 0, .bool false] 29); simp only [World.size_alloc] at this; exact this)
  have HK3 := Lib.hid (show Blk (((w.alloc (.cells #[.int .u32 ses, .int .u64 base, .slice A n c, .int .u64 sent, .int .u64 lim, .int .i64 timer, .bool ended] 29)).alloc (.cells #[.int .i64 kind, .int .u32 pses, .int .u64 seq, .int .u64 plim, .slice pA pn pc, .bool pfin, .int .u64 pcnt] 47)).alloc (.cells #[.int .u32 0, .int .u64 0, .slice none 0 0, .int .u64 0, .int .u64 0, .int .i64 0, .bool false] 29)) (w.heap.size + 2) 29 #[.int .u32 0, .int .u64 0, .slice none 0 0, .int .u64 0, .int .u64 0, .int .i64 0, .bool false] from by have := Blk.new ((w.alloc (.cells #[.int .u32 ses, .int .u64 base, .slice A n c, .int .u64 sent, .int .u64 lim, .int .i64 timer, .bool ended] 29)).alloc (.cells #[.int .i64 kind, .int .u32 pses, .int .u64 seq, .int .u64 plim, .slice pA pn pc, .bool pfin, .int .u64 pcnt] 47)) 29 #[.int .u32 0, .int .u64 0, .slice none 0 0, .int .u64 0, .int .u64 0, .int .i64 0, .bool false]; simp only [World.size_alloc] at this; exact this)
  have HQ3 := Lib.hid q3
  have hs3 : (((w.alloc (.cells #[.int .u32 ses, .int .u64 base, .slice A n c, .int .u64 sent, .int .u64 lim, .int .i64 timer, .bool ended] 29)).alloc (.cells #[.int .i64 kind, .int .u32 pses, .int .u64 seq, .int .u64 plim, .slice pA pn pc, .bool pfin, .int .u64 pcnt] 47)).alloc (.cells #[.int .u32 0, .int .u64 0, .slice none 0 0, .int .u64 0, .int .u64 0, .int .i64 0, .bool false] 29)).heap.size = w.heap.size + 3 := by simp only [World.size_alloc]
  have HCP := Lib.hid (rpacket_any Fr ⟨kind, pses, seq, plim, ⟨rows, pfin, pcnt⟩⟩ pA pn pc)
  have HWS := Lib.hid (show IntKind.u64.wrap (sent + 1) = sent + 1 from u64_in (by omega) (by omega))
  clear h hr hs2 q1 q2 q3
  go_enter Try.func57, Try.ntmps57
  go_upto_region 1 with fail
  generalize (((w.alloc (.cells #[.int .u32 ses, .int .u64 base, .slice A n c, .int .u64 sent, .int .u64 lim, .int .i64 timer, .bool ended] 29)).alloc (.cells #[.int .i64 kind, .int .u32 pses, .int .u64 seq, .int .u64 plim, .slice pA pn pc, .bool pfin, .int .u64 pcnt] 47)).alloc (.cells #[.int .u32 0, .int .u64 0, .slice none 0 0, .int .u64 0, .int .u64 0, .int .i64 0, .bool false] 29)) = w3 at *
  refine wp_region_ps0 .text (S := fun _ _ w' => Below w3.heap.size w3 w') (by kernel_rfl) ?spswg1 ?ppswg1
  case spswg1 =>
    exact (Below.refl w3.heap.size w3)
  refine Ps.st (i := 0) (d := some 6) (u := (.agg #[.int .i64 (kind), .int .u32 (pses), .int .u64 (seq), .int .u64 (plim), .slice pA pn pc, .bool (pfin), .int .u64 (pcnt)])) rfl rfl ?ywg1_2 ?rwg1_2
  case ywg1_2 =>
    refine StepS.read [] (by kernel_rfl) nP (by rfl) (fun L9 m9 w9 hSh hAt hDn hS => ?_)
    have hT : Below _ _ w9 := hS
    have x0 : w9.cell? ⟨w.heap.size + 1, 0, none⟩ = some (.int .i64 (kind)) := (HK2.out.ca hT).cell 0
    have x1 : w9.cell? ⟨w.heap.size + 1, 1, none⟩ = some (.int .u32 (pses)) := (HK2.out.ca hT).cell 1
    have x2 : w9.cell? ⟨w.heap.size + 1, 2, none⟩ = some (.int .u64 (seq)) := (HK2.out.ca hT).cell 2
    have x3 : w9.cell? ⟨w.heap.size + 1, 3, none⟩ = some (.int .u64 (plim)) := (HK2.out.ca hT).cell 3
    have x4 : w9.cell? ⟨w.heap.size + 1, 4, none⟩ = some (.slice pA pn pc) := (HK2.out.ca hT).cell 4
    have x5 : w9.cell? ⟨w.heap.size + 1, 5, none⟩ = some (.bool (pfin)) := (HK2.out.ca hT).cell 5
    have x6 : w9.cell? ⟨w.heap.size + 1, 6, none⟩ = some (.int .u64 (pcnt)) := (HK2.out.ca hT).cell 6
    clear hT hS
    go_simp
    try rfl
  try simp only [Act.put, sA, sZ, sS]
  refine Ps.st (i := 1) (d := some 7) (u := (.bool (checkP ⟨kind, pses, seq, plim, ⟨rows, pfin, pcnt⟩⟩))) rfl rfl ?ywg1_3 ?rwg1_3
  case ywg1_3 =>
    refine StepS.call ?fwg1_3 ?awg1_3 [] (by kernel_rfl) (by rfl) (fun w9 => ?hwg1_3) (fun L9 m9 w9 hSh hAt hDn hS => ?cwg1_3)
    case hwg1_3 => go_simp; refine ⟨?_, ?_⟩ <;> rfl
    case cwg1_3 =>
      have hT : Below _ _ w9 := hS
      refine (HCP.out w9 (Lay.rd_below HRB.out (bl_ca HQ3.out hT)) hpn).mono ?_
      rintro e w8 ⟨rfl, q8⟩
      exact ⟨rfl, bl_ca hT q8⟩
  try simp only [Act.put, sA, sZ, sS]
  refine Ps.st (i := 2) (d := some 8) (u := (.bool (!(checkP ⟨kind, pses, seq, plim, ⟨rows, pfin, pcnt⟩⟩)))) rfl rfl (by exact StepS.pure nP rfl fun _ => rfl) ?_
  try simp only [Act.put, sA, sZ, sS]
  obtain ⟨b1_3, hb9⟩ : ∃ zb : Bool, zb = (!(checkP ⟨kind, pses, seq, plim, ⟨rows, pfin, pcnt⟩⟩)) := ⟨_, rfl⟩
  have HEb1_3 := Lib.hid hb9
  clear hb9
  refine Ps.st (i := 3) (d := some 9) (u := (.bool (b1_3))) rfl rfl ?ywg1_5 ?rwg1_5
  case ywg1_5 =>
    refine StepS.pure nP (by rfl) (fun w9 => ?_)
    have e9 : (!(checkP ⟨kind, pses, seq, plim, ⟨rows, pfin, pcnt⟩⟩)) = b1_3 := by rw [HEb1_3.out]
    rw [← e9]
    clear e9
    first | rfl | (go_simp; done) | (go_simp; rfl)
  try simp only [Act.put, sA, sZ, sS]
  refine Ps.st (i := 4) (d := some 10) (u := (cond b1_3 (undef) (.pointer (some ⟨w.heap.size + 1, 0, none⟩)))) rfl rfl (by cases b1_3; (exact StepS.pure nP rfl fun _ => rfl); exact StepS.skip nP rfl) ?_
  try simp only [Act.put, sA, sZ, sS]
  refine Ps.st (i := 5) (d := some 11) (u := (cond b1_3 (undef) (.int .i64 (kind)))) rfl rfl ?ywg1_7 ?rwg1_7
  case ywg1_7 =>
    cases b1_3
    · skip
      refine StepS.read [] (by kernel_rfl) nP (by rfl) (fun L9 m9 w9 hSh hAt hDn hS => ?_)
      have hT : Below _ _ w9 := hS
      have x0 : w9.cell? ⟨w.heap.size + 1, 0, none⟩ = some (.int .i64 (kind)) := (HK2.out.ca hT).cell 0
      clear hT hS
      go_simp
      try rfl
    · exact StepS.skip nP (by rfl)
  try simp only [Act.put, sA, sZ, sS]
  refine Ps.st (i := 6) (d := some 12) (u := (cond b1_3 (undef) (.bool (!decide (kind = 2))))) rfl rfl (by cases b1_3; (exact StepS.pure nP rfl fun _ => rfl); exact StepS.skip nP rfl) ?_
  try simp only [Act.put, sA, sZ, sS]
  refine Ps.st (i := 7) (d := some 13) (u := (.bool (b1_3 || (!decide (kind = 2))))) rfl rfl ?ywg1_9 ?rwg1_9
  case ywg1_9 =>
    refine StepS.pure nP (by rfl) (fun w9 => ?_)
    cases b1_3 <;> (first | rfl | (go_simp; done) | (go_simp; rfl))
  try simp only [Act.put, sA, sZ, sS]
  obtain ⟨b1_8, hb9⟩ : ∃ zb : Bool, zb = ((!(checkP ⟨kind, pses, seq, plim, ⟨rows, pfin, pcnt⟩⟩)) || (!decide (kind = 2))) := ⟨_, rfl⟩
  have HEb1_8 := Lib.hid hb9
  clear hb9
  refine Ps.st (i := 8) (d := some 14) (u := (.bool (b1_8))) rfl rfl ?ywg1_10 ?rwg1_10
  case ywg1_10 =>
    refine StepS.pure nP (by rfl) (fun w9 => ?_)
    have e9 : (b1_3 || (!decide (kind = 2))) = b1_8 := by rw [HEb1_8.out, HEb1_3.out]
    rw [← e9]
    clear e9
    first | rfl | (go_simp; done) | (go_simp; rfl)
  try simp only [Act.put, sA, sZ, sS]
  refine Ps.st (i := 9) (d := some 15) (u := (cond b1_8 (undef) (.pointer (some ⟨w.heap.size + 1, 1, none⟩)))) rfl rfl (by cases b1_8; (exact StepS.pure nP rfl fun _ => rfl); exact StepS.skip nP rfl) ?_
  try simp only [Act.put, sA, sZ, sS]
  refine Ps.st (i := 10) (d := some 16) (u := (cond b1_8 (undef) (.int .u32 (pses)))) rfl rfl ?ywg1_12 ?rwg1_12
  case ywg1_12 =>
    cases b1_8
    · skip
      refine StepS.read [] (by kernel_rfl) nP (by rfl) (fun L9 m9 w9 hSh hAt hDn hS => ?_)
      have hT : Below _ _ w9 := hS
      have x0 : w9.cell? ⟨w.heap.size + 1, 1, none⟩ = some (.int .u32 (pses)) := (HK2.out.ca hT).cell 1
      clear hT hS
      go_simp
      try rfl
    · exact StepS.skip nP (by rfl)
  try simp only [Act.put, sA, sZ, sS]
  refine Ps.st (i := 11) (d := some 17) (u := (cond b1_8 (undef) (.pointer (some ⟨w.heap.size, 0, none⟩)))) rfl rfl (by cases b1_8; (exact StepS.pure nP rfl fun _ => rfl); exact StepS.skip nP rfl) ?_
  try simp only [Act.put, sA, sZ, sS]
  refine Ps.st (i := 12) (d := some 18) (u := (cond b1_8 (undef) (.int .u32 (ses)))) rfl rfl ?ywg1_14 ?rwg1_14
  case ywg1_14 =>
    cases b1_8
    · skip
      refine StepS.read [] (by kernel_rfl) nP (by rfl) (fun L9 m9 w9 hSh hAt hDn hS => ?_)
      have hT : Below _ _ w9 := hS
      have x0 : w9.cell? ⟨w.heap.size, 0, none⟩ = some (.int .u32 (ses)) := (HK1.out.ca hT).cell 0
      clear hT hS
      go_simp
      try rfl
    · exact StepS.skip nP (by rfl)
  try simp only [Act.put, sA, sZ, sS]
  refine Ps.st (i := 13) (d := some 19) (u := (cond b1_8 (undef) (.bool (!decide (pses = ses))))) rfl rfl (by cases b1_8; (exact StepS.pure nP rfl fun _ => rfl); exact StepS.skip nP rfl) ?_
  try simp only [Act.put, sA, sZ, sS]
  refine Ps.st (i := 14) (d := some 20) (u := (.bool (b1_8 || (!decide (pses = ses))))) rfl rfl ?ywg1_16 ?rwg1_16
  case ywg1_16 =>
    refine StepS.pure nP (by rfl) (fun w9 => ?_)
    cases b1_8 <;> (first | rfl | (go_simp; done) | (go_simp; rfl))
  try simp only [Act.put, sA, sZ, sS]
  obtain ⟨b1_15, hb9⟩ : ∃ zb : Bool, zb = (((!(checkP ⟨kind, pses, seq, plim, ⟨rows, pfin, pcnt⟩⟩)) || (!decide (kind = 2))) || (!decide (pses = ses))) := ⟨_, rfl⟩
  have HEb1_15 := Lib.hid hb9
  clear hb9
  refine Ps.st (i := 15) (d := some 21) (u := (.bool (b1_15))) rfl rfl ?ywg1_17 ?rwg1_17
  case ywg1_17 =>
    refine StepS.pure nP (by rfl) (fun w9 => ?_)
    have e9 : (b1_8 || (!decide (pses = ses))) = b1_15 := by rw [HEb1_15.out, HEb1_8.out]
    rw [← e9]
    clear e9
    first | rfl | (go_simp; done) | (go_simp; rfl)
  try simp only [Act.put, sA, sZ, sS]
  refine Ps.st (i := 16) (d := some 22) (u := (cond b1_15 (undef) (.pointer (some ⟨w.heap.size + 1, 2, none⟩)))) rfl rfl (by cases b1_15; (exact StepS.pure nP rfl fun _ => rfl); exact StepS.skip nP rfl) ?_
  try simp only [Act.put, sA, sZ, sS]
  refine Ps.st (i := 17) (d := some 23) (u := (cond b1_15 (undef) (.int .u64 (seq)))) rfl rfl ?ywg1_19 ?rwg1_19
  case ywg1_19 =>
    cases b1_15
    · skip
      refine StepS.read [] (by kernel_rfl) nP (by rfl) (fun L9 m9 w9 hSh hAt hDn hS => ?_)
      have hT : Below _ _ w9 := hS
      have x0 : w9.cell? ⟨w.heap.size + 1, 2, none⟩ = some (.int .u64 (seq)) := (HK2.out.ca hT).cell 2
      clear hT hS
      go_simp
      try rfl
    · exact StepS.skip nP (by rfl)
  try simp only [Act.put, sA, sZ, sS]
  refine Ps.st (i := 18) (d := some 24) (u := (cond b1_15 (undef) (.pointer (some ⟨w.heap.size, 1, none⟩)))) rfl rfl (by cases b1_15; (exact StepS.pure nP rfl fun _ => rfl); exact StepS.skip nP rfl) ?_
  try simp only [Act.put, sA, sZ, sS]
  refine Ps.st (i := 19) (d := some 25) (u := (cond b1_15 (undef) (.int .u64 (base)))) rfl rfl ?ywg1_21 ?rwg1_21
  case ywg1_21 =>
    cases b1_15
    · skip
      refine StepS.read [] (by kernel_rfl) nP (by rfl) (fun L9 m9 w9 hSh hAt hDn hS => ?_)
      have hT : Below _ _ w9 := hS
      have x0 : w9.cell? ⟨w.heap.size, 1, none⟩ = some (.int .u64 (base)) := (HK1.out.ca hT).cell 1
      clear hT hS
      go_simp
      try rfl
    · exact StepS.skip nP (by rfl)
  try simp only [Act.put, sA, sZ, sS]
  refine Ps.st (i := 20) (d := some 26) (u := (cond b1_15 (undef) (.bool (decide (seq < base))))) rfl rfl (by cases b1_15; (exact StepS.pure nP rfl fun _ => rfl); exact StepS.skip nP rfl) ?_
  try simp only [Act.put, sA, sZ, sS]
  refine Ps.st (i := 21) (d := some 27) (u := (.bool (b1_15 || (decide (seq < base))))) rfl rfl ?ywg1_23 ?rwg1_23
  case ywg1_23 =>
    refine StepS.pure nP (by rfl) (fun w9 => ?_)
    cases b1_15 <;> (first | rfl | (go_simp; done) | (go_simp; rfl))
  try simp only [Act.put, sA, sZ, sS]
  obtain ⟨b1_22, hb9⟩ : ∃ zb : Bool, zb = ((((!(checkP ⟨kind, pses, seq, plim, ⟨rows, pfin, pcnt⟩⟩)) || (!decide (kind = 2))) || (!decide (pses = ses))) || (decide (seq < base))) := ⟨_, rfl⟩
  have HEb1_22 := Lib.hid hb9
  clear hb9
  refine Ps.st (i := 22) (d := some 28) (u := (.bool (b1_22))) rfl rfl ?ywg1_24 ?rwg1_24
  case ywg1_24 =>
    refine StepS.pure nP (by rfl) (fun w9 => ?_)
    have e9 : (b1_15 || (decide (seq < base))) = b1_22 := by rw [HEb1_22.out, HEb1_15.out]
    rw [← e9]
    clear e9
    first | rfl | (go_simp; done) | (go_simp; rfl)
  try simp only [Act.put, sA, sZ, sS]
  refine Ps.st (i := 23) (d := some 29) (u := (cond b1_22 (undef) (.pointer (some ⟨w.heap.size + 1, 2, none⟩)))) rfl rfl (by cases b1_22; (exact StepS.pure nP rfl fun _ => rfl); exact StepS.skip nP rfl) ?_
  try simp only [Act.put, sA, sZ, sS]
  refine Ps.st (i := 24) (d := some 30) (u := (cond b1_22 (undef) (.int .u64 (seq)))) rfl rfl ?ywg1_26 ?rwg1_26
  case ywg1_26 =>
    cases b1_22
    · skip
      refine StepS.read [] (by kernel_rfl) nP (by rfl) (fun L9 m9 w9 hSh hAt hDn hS => ?_)
      have hT : Below _ _ w9 := hS
      have x0 : w9.cell? ⟨w.heap.size + 1, 2, none⟩ = some (.int .u64 (seq)) := (HK2.out.ca hT).cell 2
      clear hT hS
      go_simp
      try rfl
    · exact StepS.skip nP (by rfl)
  try simp only [Act.put, sA, sZ, sS]
  refine Ps.st (i := 25) (d := some 31) (u := (cond b1_22 (undef) (.pointer (some ⟨w.heap.size, 3, none⟩)))) rfl rfl (by cases b1_22; (exact StepS.pure nP rfl fun _ => rfl); exact StepS.skip nP rfl) ?_
  try simp only [Act.put, sA, sZ, sS]
  refine Ps.st (i := 26) (d := some 32) (u := (cond b1_22 (undef) (.int .u64 (sent)))) rfl rfl ?ywg1_28 ?rwg1_28
  case ywg1_28 =>
    cases b1_22
    · skip
      refine StepS.read [] (by kernel_rfl) nP (by rfl) (fun L9 m9 w9 hSh hAt hDn hS => ?_)
      have hT : Below _ _ w9 := hS
      have x0 : w9.cell? ⟨w.heap.size, 3, none⟩ = some (.int .u64 (sent)) := (HK1.out.ca hT).cell 3
      clear hT hS
      go_simp
      try rfl
    · exact StepS.skip nP (by rfl)
  try simp only [Act.put, sA, sZ, sS]
  refine Ps.st (i := 27) (d := some 33) (u := (cond b1_22 (undef) (.int .u64 (sent + 1)))) rfl rfl ?ywg1_29 ?rwg1_29
  case ywg1_29 =>
    cases b1_22
    · skip
      refine StepS.pure nP (by rfl) (fun w9 => ?_)
      rw [← HWS.out]
      first | rfl | (go_simp; done) | (go_simp; rfl)
    · exact StepS.skip nP (by rfl)
  try simp only [Act.put, sA, sZ, sS]
  refine Ps.st (i := 28) (d := some 34) (u := (cond b1_22 (undef) (.bool (decide ((sent + 1) < seq))))) rfl rfl (by cases b1_22; (exact StepS.pure nP rfl fun _ => rfl); exact StepS.skip nP rfl) ?_
  try simp only [Act.put, sA, sZ, sS]
  refine Ps.st (i := 29) (d := some 35) (u := (.bool (b1_22 || (decide ((sent + 1) < seq))))) rfl rfl ?ywg1_31 ?rwg1_31
  case ywg1_31 =>
    refine StepS.pure nP (by rfl) (fun w9 => ?_)
    cases b1_22 <;> (first | rfl | (go_simp; done) | (go_simp; rfl))
  try simp only [Act.put, sA, sZ, sS]
  obtain ⟨b1_30, hb9⟩ : ∃ zb : Bool, zb = (((((!(checkP ⟨kind, pses, seq, plim, ⟨rows, pfin, pcnt⟩⟩)) || (!decide (kind = 2))) || (!decide (pses = ses))) || (decide (seq < base))) || (decide ((sent + 1) < seq))) := ⟨_, rfl⟩
  have HEb1_30 := Lib.hid hb9
  clear hb9
  refine Ps.st (i := 30) (d := some 36) (u := (.bool (b1_30))) rfl rfl ?ywg1_32 ?rwg1_32
  case ywg1_32 =>
    refine StepS.pure nP (by rfl) (fun w9 => ?_)
    have e9 : (b1_22 || (decide ((sent + 1) < seq))) = b1_30 := by rw [HEb1_30.out, HEb1_22.out]
    rw [← e9]
    clear e9
    first | rfl | (go_simp; done) | (go_simp; rfl)
  try simp only [Act.put, sA, sZ, sS]
  refine Ps.st (i := 31) (d := some 37) (u := (cond b1_30 (undef) (.pointer (some ⟨w.heap.size + 1, 2, none⟩)))) rfl rfl (by cases b1_30; (exact StepS.pure nP rfl fun _ => rfl); exact StepS.skip nP rfl) ?_
  try simp only [Act.put, sA, sZ, sS]
  refine Ps.st (i := 32) (d := some 38) (u := (cond b1_30 (undef) (.int .u64 (seq)))) rfl rfl ?ywg1_34 ?rwg1_34
  case ywg1_34 =>
    cases b1_30
    · skip
      refine StepS.read [] (by kernel_rfl) nP (by rfl) (fun L9 m9 w9 hSh hAt hDn hS => ?_)
      have hT : Below _ _ w9 := hS
      have x0 : w9.cell? ⟨w.heap.size + 1, 2, none⟩ = some (.int .u64 (seq)) := (HK2.out.ca hT).cell 2
      clear hT hS
      go_simp
      try rfl
    · exact StepS.skip nP (by rfl)
  try simp only [Act.put, sA, sZ, sS]
  refine Ps.st (i := 33) (d := some 39) (u := (cond b1_30 (undef) (.bool (decide ((1099511627776 : Int) < seq))))) rfl rfl (by cases b1_30; (exact StepS.pure nP rfl fun _ => rfl); exact StepS.skip nP rfl) ?_
  try simp only [Act.put, sA, sZ, sS]
  obtain ⟨f1, hb9⟩ : ∃ zb : Bool, zb = ((((((!(checkP ⟨kind, pses, seq, plim, ⟨rows, pfin, pcnt⟩⟩)) || (!decide (kind = 2))) || (!decide (pses = ses))) || (decide (seq < base))) || (decide ((sent + 1) < seq))) || (decide ((1099511627776 : Int) < seq))) := ⟨_, rfl⟩
  have HEf1 := Lib.hid hb9
  clear hb9
  refine Ps.st (i := 34) (d := some 40) (u := (.bool (f1))) rfl rfl ?ywg1_36 ?rwg1_36
  case ywg1_36 =>
    refine StepS.pure nP (by rfl) (fun w9 => ?_)
    have e9 : (b1_30 || (decide ((1099511627776 : Int) < seq))) = f1 := by rw [HEf1.out, HEb1_30.out]
    rw [← e9]
    clear e9
    cases b1_30 <;> (first | rfl | (go_simp; done) | (go_simp; rfl))
  try simp only [Act.put, sA, sZ, sS]
  refine Ps.done (by kernel_rfl) (fun wg1 hS => ?_) _
  try generalize (cond b1_30 (undef) (.bool (decide ((1099511627776 : Int) < seq))) : Value) = zz37
  try generalize (cond b1_30 (undef) (.pointer (some ⟨w.heap.size + 1, 2, none⟩)) : Value) = zz38
  try generalize (cond b1_22 (undef) (.pointer (some ⟨w.heap.size + 1, 2, none⟩)) : Value) = zz39
  try generalize (cond b1_15 (undef) (.pointer (some ⟨w.heap.size + 1, 2, none⟩)) : Value) = zz40
  try generalize (cond b1_3 (undef) (.pointer (some ⟨w.heap.size + 1, 0, none⟩)) : Value) = zz41
  try generalize (cond b1_8 (undef) (.pointer (some ⟨w.heap.size + 1, 1, none⟩)) : Value) = zz42
  try generalize (cond b1_15 (undef) (.pointer (some ⟨w.heap.size, 1, none⟩)) : Value) = zz43
  try generalize (cond b1_22 (undef) (.pointer (some ⟨w.heap.size, 3, none⟩)) : Value) = zz44
  try generalize (cond b1_8 (undef) (.pointer (some ⟨w.heap.size, 0, none⟩)) : Value) = zz45
  try generalize (cond b1_22 (undef) (.bool (decide ((sent + 1) < seq))) : Value) = zz46
  try generalize (cond b1_8 (undef) (.bool (!decide (pses = ses))) : Value) = zz47
  try generalize (cond b1_15 (undef) (.bool (decide (seq < base))) : Value) = zz48
  try generalize (cond b1_3 (undef) (.bool (!decide (kind = 2))) : Value) = zz49
  try generalize (.bool (b1_22 || (decide ((sent + 1) < seq))) : Value) = zz50
  try generalize (cond b1_22 (undef) (.int .u64 (sent + 1)) : Value) = zz51
  try generalize (.bool (b1_8 || (!decide (pses = ses))) : Value) = zz52
  try generalize (.bool (b1_15 || (decide (seq < base))) : Value) = zz53
  try generalize (cond b1_15 (undef) (.int .u64 (base)) : Value) = zz54
  try generalize (cond b1_22 (undef) (.int .u64 (sent)) : Value) = zz55
  try generalize (cond b1_22 (undef) (.int .u64 (seq)) : Value) = zz56
  try generalize (cond b1_3 (undef) (.int .i64 (kind)) : Value) = zz57
  try generalize (cond b1_15 (undef) (.int .u64 (seq)) : Value) = zz58
  try generalize (.bool (b1_3 || (!decide (kind = 2))) : Value) = zz59
  try generalize (cond b1_8 (undef) (.int .u32 (pses)) : Value) = zz60
  try generalize (cond b1_30 (undef) (.int .u64 (seq)) : Value) = zz61
  try generalize (cond b1_8 (undef) (.int .u32 (ses)) : Value) = zz62
  have HW63 := Lib.hid (show Below w3.heap.size w3 wg1 from hS)
  clear hS
  obtain ⟨w164, rfl⟩ : ∃ x, x = wg1 := ⟨_, rfl⟩
  have HF := Lib.hid (show ackedB ⟨ses, base, q, sent, lim, timer, ended⟩ ⟨kind, pses, seq, plim, ⟨rows, pfin, pcnt⟩⟩ = !f1 from by rw [HEf1.out]; unfold ackedB; dsimp only; rw [Bool.eq_iff_iff]; simp; grind)
  have HB1 := Lib.hid (HK1.out.ca HW63.out)
  have HB2 := Lib.hid (HK2.out.ca HW63.out)
  have HB3 := Lib.hid (HK3.out.ca HW63.out)
  have HBQ := Lib.hid (bl_ca HQ3.out HW63.out)
  have HSZ := Lib.hid (HW63.out.size)
  cases f1
  · have hb := HF.out
    rw [Bool.not_false] at hb
    replace HS := Lib.hid (HS.out.trans (if_pos hb))
    have hcond : base ≤ seq ∧ seq ≤ sent + 1 ∧ seq ≤ 1099511627776 := by have h := HEf1.out; simp at h; omega
    obtain ⟨kk, hkk⟩ : ∃ kk : Nat, seq - base = (kk : Int) := ⟨(seq - base).toNat, by omega⟩
    have hkn : kk ≤ n := by omega
    have hkn2 : (kk : Int) ≤ (n : Int) := by omega
    have hwk : IntKind.u64.wrap (kk : Int) = (kk : Int) := u64_in (by omega) (by omega)
    have hsb : IntKind.u64.wrap (seq - base) = (kk : Int) := (u64_in (by omega) (by omega)).trans hkk
    have HKK := Lib.hid hkk
    obtain ⟨mx, hmx⟩ : ∃ mx, mx = (if lim ≤ plim then plim else lim) := ⟨_, rfl⟩
    have HMX := Lib.hid hmx
    have hmax : max lim plim = mx := by rw [hmx]; split <;> omega
    have hszz := HSZ.out
    clear hmx hb hkk HEf1 HF
    have y2 := HB2.out.cell 2
    have y1 := HB1.out.cell 1
    go_upto_region 4 with fail
    clear y1 y2
    refine wp_region_ps (S := SeqN [8, 17, 19, 21] (fun z m w' => match z with | 0 => (Below w.heap.size w w' ∧ Blk w' (w.heap.size + 1) 47 #[.int .i64 kind, .int .u32 pses, .int .u64 seq, .int .u64 plim, .slice pA pn pc, .bool pfin, .int .u64 pcnt] ∧ Blk w' (w.heap.size + 2) 29 #[.int .u32 0, .int .u64 0, .slice none 0 0, .int .u64 0, .int .u64 0, .int .i64 0, .bool false]) ∧ Blk w' w.heap.size 29 #[.int .u32 ses, .int .u64 base, .slice A n c, .int .u64 sent, .int .u64 lim, .int .i64 timer, .bool ended] | 1 => (Below w.heap.size w w' ∧ Blk w' (w.heap.size + 1) 47 #[.int .i64 kind, .int .u32 pses, .int .u64 seq, .int .u64 plim, .slice pA pn pc, .bool pfin, .int .u64 pcnt] ∧ Blk w' (w.heap.size + 2) 29 #[.int .u32 0, .int .u64 0, .slice none 0 0, .int .u64 0, .int .u64 0, .int .i64 0, .bool false]) ∧ ∃ A2 c2, m 8 = .slice A2 (n - kk) c2 ∧ LB3.own 45 w' (w.heap.size + 3) (fun k => Fr k ∧ k < w.heap.size) A2 (n - kk) c2 (q.drop kk) ∧ Blk w' w.heap.size 29 #[.int .u32 ses, .int .u64 base, .slice A n c, .int .u64 sent, .int .u64 lim, .int .i64 timer, .bool ended] | 2 => (Below w.heap.size w w' ∧ Blk w' (w.heap.size + 1) 47 #[.int .i64 kind, .int .u32 pses, .int .u64 seq, .int .u64 plim, .slice pA pn pc, .bool pfin, .int .u64 pcnt] ∧ Blk w' (w.heap.size + 2) 29 #[.int .u32 0, .int .u64 0, .slice none 0 0, .int .u64 0, .int .u64 0, .int .i64 0, .bool false]) ∧ ∃ A2 c2, m 8 = .slice A2 (n - kk) c2 ∧ LB3.own 45 w' (w.heap.size + 3) (fun k => Fr k ∧ k < w.heap.size) A2 (n - kk) c2 (q.drop kk) ∧ Blk w' w.heap.size 29 #[.int .u32 ses, .int .u64 base, .slice A2 (n - kk) c2, .int .u64 sent, .int .u64 lim, .int .i64 timer, .bool ended] | 3 => (Below w.heap.size w w' ∧ Blk w' (w.heap.size + 1) 47 #[.int .i64 kind, .int .u32 pses, .int .u64 seq, .int .u64 plim, .slice pA pn pc, .bool pfin, .int .u64 pcnt] ∧ Blk w' (w.heap.size + 2) 29 #[.int .u32 0, .int .u64 0, .slice none 0 0, .int .u64 0, .int .u64 0, .int .i64 0, .bool false]) ∧ ∃ A2 c2, m 8 = .slice A2 (n - kk) c2 ∧ LB3.own 45 w' (w.heap.size + 3) (fun k => Fr k ∧ k < w.heap.size) A2 (n - kk) c2 (q.drop kk) ∧ Blk w' w.heap.size 29 #[.int .u32 ses, .int .u64 seq, .slice A2 (n - kk) c2, .int .u64 sent, .int .u64 lim, .int .i64 timer, .bool ended] | _ => (Below w.heap.size w w' ∧ Blk w' (w.heap.size + 1) 47 #[.int .i64 kind, .int .u32 pses, .int .u64 seq, .int .u64 plim, .slice pA pn pc, .bool pfin, .int .u64 pcnt] ∧ Blk w' (w.heap.size + 2) 29 #[.int .u32 0, .int .u64 0, .slice none 0 0, .int .u64 0, .int .u64 0, .int .i64 0, .bool false]) ∧ ∃ A2 c2, m 8 = .slice A2 (n - kk) c2 ∧ LB3.own 45 w' (w.heap.size + 3) (fun k => Fr k ∧ k < w.heap.size) A2 (n - kk) c2 (q.drop kk) ∧ Blk w' w.heap.size 29 #[.int .u32 ses, .int .u64 seq, .slice A2 (n - kk) c2, .int .u64 sent, .int .u64 mx, .int .i64 timer, .bool ended])) (by kernel_rfl) ?spswra ?ppswra
    case spswra =>
      exact SeqN.start (by decide) ⟨⟨HBQ.out.drew, HB2.out.drew, HB3.out.drew⟩, HB1.out.drew⟩
    refine Ps.st (i := 0) (d := some 47) (u := _) rfl rfl (StepS.pure (SeqN.pass (by decide)) rfl fun w9 => by go_simp; try rfl) ?_
    try simp only [Act.put, sA, sZ, sS]
    refine Ps.st (i := 1) (d := some 48) (u := ?uwra_2) rfl rfl ?ywra_2 ?rwra_2
    case ywra_2 =>
      refine StepS.read [] (by kernel_rfl) (SeqN.pass (by decide)) (by rfl) (fun L9 m9 w9 hSh hAt hDn hS => ?_)
      have h0 := SeqN.zero4 (post_no (post := [8, 17, 19, 21]) hSh hDn (by kernel_rfl)) hS
      have x2 := h0.2.cell 2
      clear h0 hS
      go_simp
      try rfl
    try simp only [Act.put, sA, sZ, sS]
    refine Ps.st (i := 2) (d := some 49) (u := _) rfl rfl (StepS.pure (SeqN.pass (by decide)) rfl fun w9 => by go_simp; try rfl) ?_
    try simp only [Act.put, sA, sZ, sS]
    refine Ps.st (i := 3) (d := some 50) (u := ?uwra_4) rfl rfl ?ywra_4 ?rwra_4
    case ywra_4 =>
      refine StepS.read [] (by kernel_rfl) (SeqN.pass (by decide)) (by rfl) (fun L9 m9 w9 hSh hAt hDn hS => ?_)
      have hC : Below w.heap.size w w9 ∧ Blk w9 (w.heap.size + 1) 47 #[.int .i64 kind, .int .u32 pses, .int .u64 seq, .int .u64 plim, .slice pA pn pc, .bool pfin, .int .u64 pcnt] ∧ Blk w9 (w.heap.size + 2) 29 #[.int .u32 0, .int .u64 0, .slice none 0 0, .int .u64 0, .int .u64 0, .int .i64 0, .bool false] := SeqN.any (T := fun w' => Below w.heap.size w w' ∧ Blk w' (w.heap.size + 1) 47 #[.int .i64 kind, .int .u32 pses, .int .u64 seq, .int .u64 plim, .slice pA pn pc, .bool pfin, .int .u64 pcnt] ∧ Blk w' (w.heap.size + 2) 29 #[.int .u32 0, .int .u64 0, .slice none 0 0, .int .u64 0, .int .u64 0, .int .i64 0, .bool false]) (fun z _ _ h => by match z, h with | 0, h => exact h.1 | 1, h => exact h.1 | 2, h => exact h.1 | 3, h => exact h.1 | _ + 4, h => exact h.1) hS
      have x2 := hC.2.1.cell 2
      clear hC hS
      go_simp
      try rfl
    try simp only [Act.put, sA, sZ, sS]
    refine Ps.st (i := 4) (d := some 51) (u := _) rfl rfl (StepS.pure (SeqN.pass (by decide)) rfl fun w9 => by go_simp; try rfl) ?_
    try simp only [Act.put, sA, sZ, sS]
    refine Ps.st (i := 5) (d := some 52) (u := ?uwra_6) rfl rfl ?ywra_6 ?rwra_6
    case ywra_6 =>
      refine StepS.read [] (by kernel_rfl) (SeqN.pass (by decide)) (by rfl) (fun L9 m9 w9 hSh hAt hDn hS => ?_)
      have h0 := SeqN.zero4 (post_no (post := [8, 17, 19, 21]) hSh hDn (by kernel_rfl)) hS
      have x1 := h0.2.cell 1
      clear h0 hS
      go_simp
      try rfl
    try simp only [Act.put, sA, sZ, sS]
    refine Ps.st (i := 6) (d := some 53) (u := _) rfl rfl (StepS.pure (SeqN.pass (by decide)) rfl fun w9 => by go_simp; try rfl) ?_
    try simp only [Act.put, sA, sZ, sS]
    refine Ps.st (i := 7) (d := some 54) (u := _) rfl rfl (StepS.pure (SeqN.pass (by decide)) rfl fun w9 => by go_simp; try rfl) ?_
    try simp only [Act.put, sA, sZ, sS]
    refine Ps.st (i := 9) (d := some 56) (u := _) rfl rfl (StepS.pure (SeqN.pass (by decide)) rfl fun w9 => by go_simp; try rfl) ?_
    try simp only [Act.put, sA, sZ, sS]
    refine Ps.st (i := 10) (d := some 57) (u := ?uwra_10) rfl rfl ?ywra_10 ?rwra_10
    case ywra_10 =>
      refine StepS.read [] (by kernel_rfl) (SeqN.pass (by decide)) (by rfl) (fun L9 m9 w9 hSh hAt hDn hS => ?_)
      have hC : Below w.heap.size w w9 ∧ Blk w9 (w.heap.size + 1) 47 #[.int .i64 kind, .int .u32 pses, .int .u64 seq, .int .u64 plim, .slice pA pn pc, .bool pfin, .int .u64 pcnt] ∧ Blk w9 (w.heap.size + 2) 29 #[.int .u32 0, .int .u64 0, .slice none 0 0, .int .u64 0, .int .u64 0, .int .i64 0, .bool false] := SeqN.any (T := fun w' => Below w.heap.size w w' ∧ Blk w' (w.heap.size + 1) 47 #[.int .i64 kind, .int .u32 pses, .int .u64 seq, .int .u64 plim, .slice pA pn pc, .bool pfin, .int .u64 pcnt] ∧ Blk w' (w.heap.size + 2) 29 #[.int .u32 0, .int .u64 0, .slice none 0 0, .int .u64 0, .int .u64 0, .int .i64 0, .bool false]) (fun z _ _ h => by match z, h with | 0, h => exact h.1 | 1, h => exact h.1 | 2, h => exact h.1 | 3, h => exact h.1 | _ + 4, h => exact h.1) hS
      have x2 := hC.2.1.cell 2
      clear hC hS
      go_simp
      try rfl
    try simp only [Act.put, sA, sZ, sS]
    refine Ps.st (i := 11) (d := some 58) (u := _) rfl rfl (StepS.pure (SeqN.pass (by decide)) rfl fun w9 => by go_simp; try rfl) ?_
    try simp only [Act.put, sA, sZ, sS]
    refine Ps.st (i := 12) (d := some 59) (u := ?uwra_12) rfl rfl ?ywra_12 ?rwra_12
    case ywra_12 =>
      refine StepS.read [] (by kernel_rfl) (SeqN.pass (by decide)) (by rfl) (fun L9 m9 w9 hSh hAt hDn hS => ?_)
      have hL : w9.cell? ⟨w.heap.size, 4, none⟩ = some (.int .u64 lim) := SeqN.lt (T := fun w9 => w9.cell? ⟨w.heap.size, 4, none⟩ = some (.int .u64 lim)) (k := 21) (by decide) (reach_no hSh (f := 24) (j := 21) (by kernel_rfl) hDn) (fun z _ _ hz h => by match z, hz, h with | 0, _, h => exact h.2.cell 4 | 1, _, ⟨_, _, _, _, _, hb⟩ => exact hb.cell 4 | 2, _, ⟨_, _, _, _, _, hb⟩ => exact hb.cell 4 | 3, _, ⟨_, _, _, _, _, hb⟩ => exact hb.cell 4 | _ + 4, hz, _ => exact absurd hz (by simp)) hS
      clear hS
      go_simp
      try rfl
    try simp only [Act.put, sA, sZ, sS]
    refine Ps.st (i := 13) (d := some 60) (u := _) rfl rfl (StepS.pure (SeqN.pass (by decide)) rfl fun w9 => by go_simp; try rfl) ?_
    try simp only [Act.put, sA, sZ, sS]
    refine Ps.st (i := 14) (d := some 61) (u := ?uwra_14) rfl rfl ?ywra_14 ?rwra_14
    case ywra_14 =>
      refine StepS.read [] (by kernel_rfl) (SeqN.pass (by decide)) (by rfl) (fun L9 m9 w9 hSh hAt hDn hS => ?_)
      have hC : Below w.heap.size w w9 ∧ Blk w9 (w.heap.size + 1) 47 #[.int .i64 kind, .int .u32 pses, .int .u64 seq, .int .u64 plim, .slice pA pn pc, .bool pfin, .int .u64 pcnt] ∧ Blk w9 (w.heap.size + 2) 29 #[.int .u32 0, .int .u64 0, .slice none 0 0, .int .u64 0, .int .u64 0, .int .i64 0, .bool false] := SeqN.any (T := fun w' => Below w.heap.size w w' ∧ Blk w' (w.heap.size + 1) 47 #[.int .i64 kind, .int .u32 pses, .int .u64 seq, .int .u64 plim, .slice pA pn pc, .bool pfin, .int .u64 pcnt] ∧ Blk w' (w.heap.size + 2) 29 #[.int .u32 0, .int .u64 0, .slice none 0 0, .int .u64 0, .int .u64 0, .int .i64 0, .bool false]) (fun z _ _ h => by match z, h with | 0, h => exact h.1 | 1, h => exact h.1 | 2, h => exact h.1 | 3, h => exact h.1 | _ + 4, h => exact h.1) hS
      have x3 := hC.2.1.cell 3
      clear hC hS
      go_simp
      try rfl
    try simp only [Act.put, sA, sZ, sS]
    refine Ps.st (i := 15) (d := some 62) (u := .int .u64 mx) rfl rfl (StepS.pure (SeqN.pass (by decide)) rfl fun w9 => by skip; go_simp; try rfl) ?_
    try simp only [Act.put, sA, sZ, sS]
    refine Ps.one (k := 8) (d := some 55) rfl rfl (by kernel_rfl) (TurnS.call (V := fun v => ∃ A2 c2, v = .slice A2 (n - kk) c2) ?fwra_16 ?awra_16 [] (by kernel_rfl) (by rfl) (fun w9 => ?hwra_16) (fun L9 m9 w9 hSh hAt hDn hS => ?cwra_16)) (fun v8 hVv8 => ?rwra_16)
    case hwra_16 => go_simp; refine ⟨?_, ?_⟩ <;> rfl
    case cwra_16 =>
      have h0 := SeqN.at_ (m0 := m9) (m1 := m9) [] [17, 19, 21] hSh (fun d hd => by cases hd) hDn (by kernel_rfl) hS
      have hlt := h0.1.2.2.lt
      refine (rbatches_any (fun k => Fr k ∧ k < w.heap.size) _ _ _ (q.drop kk) w9 (Lay.rd_cut (Lay.rd_below (Lay.rd_weak (fun b h1 h2 => ⟨h1, h2⟩) HRD.out) h0.1.1) hkn hnc) (by omega)).mono ?_
      rintro e w6 ⟨A2, c2, rfl, ho, q6⟩
      exact ⟨_, rfl, ⟨A2, c2, rfl⟩, SeqN.set_ (m0 := m9) (m1 := m9) [] [17, 19, 21] hSh (fun d hd => by cases hd) hDn (by kernel_rfl) (by decide) (by decide) ⟨⟨bl_ca h0.1.1 q6, h0.1.2.1.ca q6, h0.1.2.2.ca q6⟩, A2, c2, upd_same _ _ _, Lay.own_lessB (Lay.own_weak (fun k hk _ => hk.1) ho) (by omega), h0.2.ca q6⟩⟩
    try simp only [Act.put, sA, sZ, sS]
    obtain ⟨A2, c2, rfl⟩ := hVv8
    refine Ps.st (i := 16) (d := some 63) (u := _) rfl rfl (StepS.pure (SeqN.pass (by decide)) rfl fun w9 => by go_simp; try rfl) ?_
    try simp only [Act.put, sA, sZ, sS]
    refine Ps.st (i := 17) (d := none) (u := undef) rfl rfl ?ywra_18 ?rwra_18
    case ywra_18 =>
      refine StepS.store [8] (by kernel_rfl) (by rfl) (fun L9 m9 w9 hSh hAt hDn hS => ?_)
      obtain ⟨hC, A3, c3, hv, ho, hN⟩ := SeqN.at_ [8] [19, 21] hSh hAt hDn (by kernel_rfl) hS
      obtain ⟨rfl, rfl⟩ : A2 = A3 ∧ c2 = c3 := by have h9 : Value.slice A2 (n - kk) c2 = .slice A3 (n - kk) c3 := (hAt 8 (by simp)).2.symm.trans hv; simpa using h9
      have hN2 : Blk (w9.setCell ⟨w.heap.size, 2, none⟩ (.slice A2 (n - kk) c2)) w.heap.size 29 #[.int .u32 ses, .int .u64 base, .slice A2 (n - kk) c2, .int .u64 sent, .int .u64 lim, .int .i64 timer, .bool ended] := by simpa using hN.set_ 2 (.slice A2 (n - kk) c2)
      have x2 := hN.cell 2
      have fx := hN.frozen 2
      have ho2 : LB3.own 45 (w9.setCell ⟨w.heap.size, 2, none⟩ (.slice A2 (n - kk) c2)) (w.heap.size + 3) (fun k => Fr k ∧ k < w.heap.size) A2 (n - kk) c2 (q.drop kk) := Lay.own_same ho (fun k e => Below.heap_setCell w9 ⟨w.heap.size, 2, none⟩ _ k (by have := (Lay.own_base ho k e).1; show k ≠ w.heap.size; omega)) (fun b hb _ _ => Below.heap_setCell w9 ⟨w.heap.size, 2, none⟩ _ b (by have := hb.2; show b ≠ w.heap.size; omega))
      have hC2 : Below w.heap.size w (w9.setCell ⟨w.heap.size, 2, none⟩ (.slice A2 (n - kk) c2)) ∧ Blk (w9.setCell ⟨w.heap.size, 2, none⟩ (.slice A2 (n - kk) c2)) (w.heap.size + 1) 47 #[.int .i64 kind, .int .u32 pses, .int .u64 seq, .int .u64 plim, .slice pA pn pc, .bool pfin, .int .u64 pcnt] ∧ Blk (w9.setCell ⟨w.heap.size, 2, none⟩ (.slice A2 (n - kk) c2)) (w.heap.size + 2) 29 #[.int .u32 0, .int .u64 0, .slice none 0 0, .int .u64 0, .int .u64 0, .int .i64 0, .bool false] := ⟨hC.1.setCell (p := ⟨w.heap.size, 2, none⟩) (Nat.le_refl _) _, hC.2.1.far (p := ⟨w.heap.size, 2, none⟩) (by show w.heap.size + 1 ≠ w.heap.size; omega) _, hC.2.2.far (p := ⟨w.heap.size, 2, none⟩) (by show w.heap.size + 2 ≠ w.heap.size; omega) _⟩
      refine ⟨w9.setCell ⟨w.heap.size, 2, none⟩ (.slice A2 (n - kk) c2), ?_, SeqN.set_ [8] [19, 21] hSh hAt hDn (by kernel_rfl) (by decide) (by decide) ⟨hC2, A2, c2, hv, ho2, hN2⟩⟩
      clear hv ho hN hN2 hC hC2 ho2 hS
      go_simp
    try simp only [Act.put]
    refine Ps.st (i := 18) (d := some 64) (u := _) rfl rfl (StepS.pure (SeqN.pass (by decide)) rfl fun w9 => by go_simp; try rfl) ?_
    try simp only [Act.put, sA, sZ, sS]
    refine Ps.st (i := 19) (d := none) (u := undef) rfl rfl ?ywra_20 ?rwra_20
    case ywra_20 =>
      refine StepS.store [8, 17] (by kernel_rfl) (by rfl) (fun L9 m9 w9 hSh hAt hDn hS => ?_)
      obtain ⟨hC, A3, c3, hv, ho, hN⟩ := SeqN.at_ [8, 17] [21] hSh hAt hDn (by kernel_rfl) hS
      obtain ⟨rfl, rfl⟩ : A2 = A3 ∧ c2 = c3 := by have h9 : Value.slice A2 (n - kk) c2 = .slice A3 (n - kk) c3 := (hAt 8 (by simp)).2.symm.trans hv; simpa using h9
      have hN2 : Blk (w9.setCell ⟨w.heap.size, 1, none⟩ (.int .u64 seq)) w.heap.size 29 #[.int .u32 ses, .int .u64 seq, .slice A2 (n - kk) c2, .int .u64 sent, .int .u64 lim, .int .i64 timer, .bool ended] := by simpa using hN.set_ 1 (.int .u64 seq)
      have x2 := hN.cell 1
      have fx := hN.frozen 1
      have ho2 : LB3.own 45 (w9.setCell ⟨w.heap.size, 1, none⟩ (.int .u64 seq)) (w.heap.size + 3) (fun k => Fr k ∧ k < w.heap.size) A2 (n - kk) c2 (q.drop kk) := Lay.own_same ho (fun k e => Below.heap_setCell w9 ⟨w.heap.size, 1, none⟩ _ k (by have := (Lay.own_base ho k e).1; show k ≠ w.heap.size; omega)) (fun b hb _ _ => Below.heap_setCell w9 ⟨w.heap.size, 1, none⟩ _ b (by have := hb.2; show b ≠ w.heap.size; omega))
      have hC2 : Below w.heap.size w (w9.setCell ⟨w.heap.size, 1, none⟩ (.int .u64 seq)) ∧ Blk (w9.setCell ⟨w.heap.size, 1, none⟩ (.int .u64 seq)) (w.heap.size + 1) 47 #[.int .i64 kind, .int .u32 pses, .int .u64 seq, .int .u64 plim, .slice pA pn pc, .bool pfin, .int .u64 pcnt] ∧ Blk (w9.setCell ⟨w.heap.size, 1, none⟩ (.int .u64 seq)) (w.heap.size + 2) 29 #[.int .u32 0, .int .u64 0, .slice none 0 0, .int .u64 0, .int .u64 0, .int .i64 0, .bool false] := ⟨hC.1.setCell (p := ⟨w.heap.size, 1, none⟩) (Nat.le_refl _) _, hC.2.1.far (p := ⟨w.heap.size, 1, none⟩) (by show w.heap.size + 1 ≠ w.heap.size; omega) _, hC.2.2.far (p := ⟨w.heap.size, 1, none⟩) (by show w.heap.size + 2 ≠ w.heap.size; omega) _⟩
      refine ⟨w9.setCell ⟨w.heap.size, 1, none⟩ (.int .u64 seq), ?_, SeqN.set_ [8, 17] [21] hSh hAt hDn (by kernel_rfl) (by decide) (by decide) ⟨hC2, A2, c2, hv, ho2, hN2⟩⟩
      clear hv ho hN hN2 hC hC2 ho2 hS
      go_simp
    try simp only [Act.put]
    refine Ps.st (i := 20) (d := some 65) (u := _) rfl rfl (StepS.pure (SeqN.pass (by decide)) rfl fun w9 => by go_simp; try rfl) ?_
    try simp only [Act.put, sA, sZ, sS]
    refine Ps.st (i := 21) (d := none) (u := undef) rfl rfl ?ywra_22 ?rwra_22
    case ywra_22 =>
      refine StepS.store [8, 17, 19] (by kernel_rfl) (by rfl) (fun L9 m9 w9 hSh hAt hDn hS => ?_)
      obtain ⟨hC, A3, c3, hv, ho, hN⟩ := SeqN.at_ [8, 17, 19] [] hSh hAt hDn (by kernel_rfl) hS
      obtain ⟨rfl, rfl⟩ : A2 = A3 ∧ c2 = c3 := by have h9 : Value.slice A2 (n - kk) c2 = .slice A3 (n - kk) c3 := (hAt 8 (by simp)).2.symm.trans hv; simpa using h9
      have hN2 : Blk (w9.setCell ⟨w.heap.size, 4, none⟩ (.int .u64 mx)) w.heap.size 29 #[.int .u32 ses, .int .u64 seq, .slice A2 (n - kk) c2, .int .u64 sent, .int .u64 mx, .int .i64 timer, .bool ended] := by simpa using hN.set_ 4 (.int .u64 mx)
      have x2 := hN.cell 4
      have fx := hN.frozen 4
      have ho2 : LB3.own 45 (w9.setCell ⟨w.heap.size, 4, none⟩ (.int .u64 mx)) (w.heap.size + 3) (fun k => Fr k ∧ k < w.heap.size) A2 (n - kk) c2 (q.drop kk) := Lay.own_same ho (fun k e => Below.heap_setCell w9 ⟨w.heap.size, 4, none⟩ _ k (by have := (Lay.own_base ho k e).1; show k ≠ w.heap.size; omega)) (fun b hb _ _ => Below.heap_setCell w9 ⟨w.heap.size, 4, none⟩ _ b (by have := hb.2; show b ≠ w.heap.size; omega))
      have hC2 : Below w.heap.size w (w9.setCell ⟨w.heap.size, 4, none⟩ (.int .u64 mx)) ∧ Blk (w9.setCell ⟨w.heap.size, 4, none⟩ (.int .u64 mx)) (w.heap.size + 1) 47 #[.int .i64 kind, .int .u32 pses, .int .u64 seq, .int .u64 plim, .slice pA pn pc, .bool pfin, .int .u64 pcnt] ∧ Blk (w9.setCell ⟨w.heap.size, 4, none⟩ (.int .u64 mx)) (w.heap.size + 2) 29 #[.int .u32 0, .int .u64 0, .slice none 0 0, .int .u64 0, .int .u64 0, .int .i64 0, .bool false] := ⟨hC.1.setCell (p := ⟨w.heap.size, 4, none⟩) (Nat.le_refl _) _, hC.2.1.far (p := ⟨w.heap.size, 4, none⟩) (by show w.heap.size + 1 ≠ w.heap.size; omega) _, hC.2.2.far (p := ⟨w.heap.size, 4, none⟩) (by show w.heap.size + 2 ≠ w.heap.size; omega) _⟩
      refine ⟨w9.setCell ⟨w.heap.size, 4, none⟩ (.int .u64 mx), ?_, SeqN.set_ [8, 17, 19] [] hSh hAt hDn (by kernel_rfl) (by decide) (by decide) ⟨hC2, A2, c2, hv, ho2, hN2⟩⟩
      clear hv ho hN hN2 hC hC2 ho2 hS
      go_simp
    try simp only [Act.put]
    refine Ps.done (by kernel_rfl) (fun wra hS => ?_) _
    obtain ⟨hC, A3, c3, hv, ho, hN⟩ := SeqN.fin (by rfl) hS
    clear hS
    obtain ⟨rfl, rfl⟩ : A2 = A3 ∧ c2 = c3 := by have h9 : Value.slice A2 (n - kk) c2 = .slice A3 (n - kk) c3 := hv; simpa using h9
    have HG1 := Lib.hid hN
    have HG3 := Lib.hid hC.2.2
    have HGQ := Lib.hid hC.1
    have HGO := Lib.hid ho
    have hcp := Lay.own_caps ho
    have HCC := Lib.hid hcp
    clear hcp hC hv ho hN HB1 HB2 HB3 HBQ HSZ
    obtain ⟨w4, rfl⟩ : ∃ x, x = wra := ⟨_, rfl⟩
    generalize (if c = kk then A else Option.map (fun x => x.add (kk * 3)) A) = AQ
    have hgt : decide (base < seq) = decide (0 < kk) := by have h := HKK.out; rw [Bool.eq_iff_iff]; simp; omega
    by_cases hk0 : 0 < kk
    · have d4 : decide (base < seq) = true := by rw [hgt]; simpa using hk0
      clear hgt
      have y3 := HG1.out.cell 3
      have y1 := HG1.out.cell 1
      have y5 := HG1.out.cell 5
      have z5 := HG1.out.frozen 5
      have HN := Lib.hid (show Blk (w4.setCell ⟨w.heap.size, 5, none⟩ (.int .i64 0)) w.heap.size 29 #[.int .u32 ses, .int .u64 seq, .slice A2 (n - kk) c2, .int .u64 sent, .int .u64 mx, .int .i64 0, .bool ended] from by simpa using HG1.out.set_ 5 (.int .i64 0))
      have HZ := Lib.hid (HG3.out.far (p := ⟨w.heap.size, 5, none⟩) (by show w.heap.size + 2 ≠ w.heap.size; omega) (.int .i64 0))
      have HQ := Lib.hid (HGQ.out.setCell (p := ⟨w.heap.size, 5, none⟩) (Nat.le_refl _) (.int .i64 0))
      have HO := Lib.hid (Lay.own_same HGO.out (fun k e => Below.heap_setCell w4 ⟨w.heap.size, 5, none⟩ (.int .i64 0) k (by have := (Lay.own_base HGO.out k e).1; show k ≠ w.heap.size; omega)) (fun b hb _ _ => Below.heap_setCell w4 ⟨w.heap.size, 5, none⟩ (.int .i64 0) b (by have := hb.2; show b ≠ w.heap.size; omega)))
      go_upto_region 7 with fail
      clear y1 y3 y5 z5
      generalize w4.setCell ⟨w.heap.size, 5, none⟩ (.int .i64 0) = w5 at *
      go_wp2_with (first | (refine wpList_load_blk rfl 29 (.tmp 2) rfl w.heap.size rfl 29 _ _ HN.out Try.underlying29 rfl senderI ?_) | (refine wpList_store_blk rfl 29 (.tmp 4) (.tmp 75) rfl (w.heap.size + 2) 29 _ #[.int .u32 ses, .int .u64 seq, .slice A2 (n - kk) c2, .int .u64 sent, .int .u64 mx, .int .i64 0, .bool ended] rfl rfl HZ.out rfl senderI (by simp [Value.oneCell']) ?_; intro wz hZ gz))
      have hrd := Lay.own_rd (F := fun k => Fr k ∨ w.heap.size ≤ k) (Lay.own_same HO.out (fun k hk => gz.block k (Lay.own_base HO.out k hk).2 (fun e => by injection e with e; have := (Lay.own_base HO.out k hk).1; omega)) (fun k hk _ hl => gz.block k hl (fun e => by injection e with e; have := hk.2; omega))) (fun k h1 _ => .inr (by omega)) (fun k hk _ => .inl hk.1)
      have hs2 : s2 = ⟨ses, seq, q.drop kk, sent, mx, 0, ended⟩ := by rw [HS.out, HKK.out, ← HMX.out, if_pos (by omega)]; rfl
      rw [hs2]
      exact bodyPost_ret (res1 Try.results57 rfl hZ Try.underlying29 rfl senderI) rfl ⟨A2, n - kk, c2, rfl, bl_gr HQ.out gz (by omega), hrd, HCC.out.1, HCC.out.2⟩
    · have d4 : decide (base < seq) = false := by rw [hgt]; simpa using hk0
      clear hgt
      by_cases hss : sent < seq
      · have d5 : decide (sent < seq) = true := by simp; omega
        have y3 := HG1.out.cell 3
        have y1 := HG1.out.cell 1
        have y5 := HG1.out.cell 5
        have z5 := HG1.out.frozen 5
        have HN := Lib.hid (show Blk (w4.setCell ⟨w.heap.size, 5, none⟩ (.int .i64 0)) w.heap.size 29 #[.int .u32 ses, .int .u64 seq, .slice A2 (n - kk) c2, .int .u64 sent, .int .u64 mx, .int .i64 0, .bool ended] from by simpa using HG1.out.set_ 5 (.int .i64 0))
        have HZ := Lib.hid (HG3.out.far (p := ⟨w.heap.size, 5, none⟩) (by show w.heap.size + 2 ≠ w.heap.size; omega) (.int .i64 0))
        have HQ := Lib.hid (HGQ.out.setCell (p := ⟨w.heap.size, 5, none⟩) (Nat.le_refl _) (.int .i64 0))
        have HO := Lib.hid (Lay.own_same HGO.out (fun k e => Below.heap_setCell w4 ⟨w.heap.size, 5, none⟩ (.int .i64 0) k (by have := (Lay.own_base HGO.out k e).1; show k ≠ w.heap.size; omega)) (fun b hb _ _ => Below.heap_setCell w4 ⟨w.heap.size, 5, none⟩ (.int .i64 0) b (by have := hb.2; show b ≠ w.heap.size; omega)))
        go_upto_region 7 with fail
        clear y1 y3 y5 z5
        generalize w4.setCell ⟨w.heap.size, 5, none⟩ (.int .i64 0) = w5 at *
        go_wp2_with (first | (refine wpList_load_blk rfl 29 (.tmp 2) rfl w.heap.size rfl 29 _ _ HN.out Try.underlying29 rfl senderI ?_) | (refine wpList_store_blk rfl 29 (.tmp 4) (.tmp 75) rfl (w.heap.size + 2) 29 _ #[.int .u32 ses, .int .u64 seq, .slice A2 (n - kk) c2, .int .u64 sent, .int .u64 mx, .int .i64 0, .bool ended] rfl rfl HZ.out rfl senderI (by simp [Value.oneCell']) ?_; intro wz hZ gz))
        have hrd := Lay.own_rd (F := fun k => Fr k ∨ w.heap.size ≤ k) (Lay.own_same HO.out (fun k hk => gz.block k (Lay.own_base HO.out k hk).2 (fun e => by injection e with e; have := (Lay.own_base HO.out k hk).1; omega)) (fun k hk _ hl => gz.block k hl (fun e => by injection e with e; have := hk.2; omega))) (fun k h1 _ => .inr (by omega)) (fun k hk _ => .inl hk.1)
        have hs2 : s2 = ⟨ses, seq, q.drop kk, sent, mx, 0, ended⟩ := by rw [HS.out, HKK.out, ← HMX.out, if_pos (by omega)]; rfl
        rw [hs2]
        exact bodyPost_ret (res1 Try.results57 rfl hZ Try.underlying29 rfl senderI) rfl ⟨A2, n - kk, c2, rfl, bl_gr HQ.out gz (by omega), hrd, HCC.out.1, HCC.out.2⟩
      · have d5 : decide (sent < seq) = false := by simp; omega
        have y3 := HG1.out.cell 3
        have y1 := HG1.out.cell 1
        have y5 := HG1.out.cell 5
        have z5 := HG1.out.frozen 5
        have HN := Lib.hid HG1.out
        have HZ := Lib.hid HG3.out
        have HQ := Lib.hid HGQ.out
        have HO := Lib.hid HGO.out
        go_upto_region 7 with fail
        clear y1 y3 y5 z5
        go_wp2_with (first | (refine wpList_load_blk rfl 29 (.tmp 2) rfl w.heap.size rfl 29 _ _ HN.out Try.underlying29 rfl senderI ?_) | (refine wpList_store_blk rfl 29 (.tmp 4) (.tmp 75) rfl (w.heap.size + 2) 29 _ #[.int .u32 ses, .int .u64 seq, .slice A2 (n - kk) c2, .int .u64 sent, .int .u64 mx, .int .i64 timer, .bool ended] rfl rfl HZ.out rfl senderI (by simp [Value.oneCell']) ?_; intro wz hZ gz))
        have hrd := Lay.own_rd (F := fun k => Fr k ∨ w.heap.size ≤ k) (Lay.own_same HO.out (fun k hk => gz.block k (Lay.own_base HO.out k hk).2 (fun e => by injection e with e; have := (Lay.own_base HO.out k hk).1; omega)) (fun k hk _ hl => gz.block k hl (fun e => by injection e with e; have := hk.2; omega))) (fun k h1 _ => .inr (by omega)) (fun k hk _ => .inl hk.1)
        have hs2 : s2 = ⟨ses, seq, q.drop kk, sent, mx, timer, ended⟩ := by rw [HS.out, HKK.out, ← HMX.out, if_neg (by omega)]; rfl
        rw [hs2]
        exact bodyPost_ret (res1 Try.results57 rfl hZ Try.underlying29 rfl senderI) rfl ⟨A2, n - kk, c2, rfl, bl_gr HQ.out gz (by omega), hrd, HCC.out.1, HCC.out.2⟩
  · replace HS := Lib.hid (HS.out.trans (if_neg (by rw [HF.out]; simp)))
    go_wp2_with (first | (refine wpList_load_blk rfl 29 (.tmp 2) rfl w.heap.size rfl 29 _ _ HB1.out Try.underlying29 rfl senderI ?_) | (refine wpList_store_blk rfl 29 (.tmp 4) (.tmp 41) rfl (w.heap.size + 2) 29 _ #[.int .u32 ses, .int .u64 base, .slice A n c, .int .u64 sent, .int .u64 lim, .int .i64 timer, .bool ended] rfl rfl HB3.out rfl senderI (by simp [Value.oneCell']) ?_; intro wz hZ gz))
    rw [HS.out]
    exact bodyPost_ret (res1 Try.results57 rfl hZ Try.underlying29 rfl senderI) rfl ⟨A, n, c, rfl, bl_gr HBQ.out gz (by omega), Lay.rd_weak (fun k hk _ => hk.elim (fun h => .inl h.1) (fun h => .inr (by omega))) (rd_grown (F := fun k => (Fr k ∧ k < w.heap.size) ∨ w.heap.size + 3 ≤ k) (Lay.rd_below (Lay.rd_weak (fun b h1 h2 => .inl ⟨h1, h2⟩) HRD.out) HBQ.out) gz (fun b hb => by rcases hb with h | h; have := h.2; omega; omega)), hnc, hc⟩
end Go.Proofs.Ytojghgbaiiajfaa
