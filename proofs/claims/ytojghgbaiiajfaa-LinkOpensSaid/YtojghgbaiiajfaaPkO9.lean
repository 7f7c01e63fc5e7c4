/- link.Tick. Conditions: the queue reads as these batches. -/
import Derived.Test.YtojghgbaiiajfaaPkO8
namespace Go.Proofs.Ytojghgbaiiajfaa
open Go.RowKit
theorem res3 {P : Program} {fn : Func} {p q r : Tmp} {ty : TypeId} (h : fn.results = #[.cell p ty, .tmp q, .tmp r]) {tmps : Array Value} {w : World} {g : Nat} {t : TypeId} {cs : Array Value} {d : TypeDesc} {v u : Value}
    (hp : tmps.getD p undef = .pointer (some ⟨g, 0, none⟩)) (hq : tmps.getD q undef = v) (hr : tmps.getD r undef = u) (hg : Blk w g t cs) (hu : P.underlying ty = some d) (hd : (match d with | .struct _ | .array _ _ => true | _ => false) = true) (hi : (P.info? ty).map (·.size) = some cs.size) :
    (results fn tmps).run P w = .ok (.tuple #[.agg cs, v, u]) w := by
  have hp' : tmps[p]?.getD undef = .pointer (some ⟨g, 0, none⟩) := by simpa using hp
  have hq' : tmps[q]?.getD undef = v := by simpa using hq
  have hr' : tmps[r]?.getD undef = u := by simpa using hr
  simp [results, h, hp', hq', hr', asAddr, run_loadVar_row w g t ty cs (0, 0) d hg hu hd hi]
theorem grow_after {w w1 w2 : World} {k : Nat} (q : Below w.heap.size w w1) (g : w1.grownBy w2 (some k)) : w.grownBy w2 (some k) :=
  ⟨g.os.trans q.os, g.tape.trans q.tape, g.output.trans q.output, Nat.le_trans q.size g.size, fun b hb hk => (g.block b (Nat.lt_of_lt_of_le hb q.size) hk).trans (q.block b hb)⟩
theorem SendsO.noY {Fr : Nat → Prop} {s : SC} {E : Int} {s2 : SC} {X : Nat → Prop} {Y : World → Prop} {w w' : World} {C : Array Value} {N : Int} (h : SendsO Fr s E s2 X Y w C N w') : SendsO Fr s E s2 X noY w C N w' := by
  unfold SendsO at *
  cases hs : sendB s
  · rw [hs] at h; exact h
  · rw [hs] at h; exact ⟨h.1, trivial, h.2.2⟩
/-- the packets that it tells -/
def TickO (Fr : Nat → Prop) (s : SC) (B : Nat) (PA : Option Addr) (pn pc : Nat) (w' : World) : Prop := if sendB s then LP7.own 47 w' B Fr PA pn pc (outP s) else PA = none ∧ pn = 0 ∧ pc = 0
theorem tick_told {Fr : Nat → Prop} {s : SC} {p : Nat} {w1 w4 : World} {C : Array Value} {N : Int} (h : SendsO Fr s 0 (tickR s) (fun k => k = p) (TickY p w1 Fr (outP s)) w1 C N w4) (hp : Blk w1 p 50 #[.slice none 0 0]) : ∃ PA pn pc, Blk w4 p 50 #[.slice PA pn pc] ∧ TickO Fr s (w1.heap.size + 2) PA pn pc w4 := by
  unfold SendsO at h
  unfold TickO
  cases hs : sendB s
  · rw [hs] at h
    exact ⟨none, 0, 0, hp.ca h.2.2, rfl, rfl, rfl⟩
  · rw [hs] at h
    obtain ⟨_, ⟨A, n, c, h1, h2⟩, _⟩ := h
    exact ⟨A, n, c, h1, h2⟩
theorem tickO_gr {Fr : Nat → Prop} {s : SC} {B B' b0 k : Nat} {PA : Option Addr} {pn pc : Nat} {w w' : World} (h : TickO Fr s B PA pn pc w) (g : w.grownBy w' (some k)) (hF : ∀ k, Fr k → k < b0) (h1 : b0 ≤ k) (h2 : k < B) (h3 : B' ≤ B) : TickO Fr s B' PA pn pc w' := by
  unfold TickO at *
  cases hs : sendB s
  · rw [hs] at h; exact h
  · rw [hs, if_pos rfl] at h
    rw [if_pos rfl]
    exact Lay.own_lessB (Lay.own_same h (fun j e => g.block j (Lay.own_base h j e).2 (fun e2 => by injection e2 with e2; have := (Lay.own_base h j e).1; omega)) (fun b hb _ hl => g.block b hl (fun e2 => by injection e2 with e2; have := hF b hb; omega))) h3
set_option maxRecDepth 100000 in
set_option maxHeartbeats 16000000 in
theorem tick_any (Fr : Nat → Prop) (s : SC) (A : Option Addr) (n c : Nat) (w : World) (hFr : ∀ k, Fr k → k < w.heap.size) (h : LB3.rd w Fr A n s.q) (hn : n ≤ 9223372036854775807) (h0 : 0 ≤ s.base) :
    Calls Try.prog 43 #[.agg (s.cells A n c)] w fun e w' => ∃ (t : SC) (A' : Option Addr) (n' c' : Nat) (N : Int) (PA : Option Addr) (pn pc : Nat), e = .returned (.tuple #[.agg (t.cells A' n' c'), .slice PA pn pc, .int .i64 N]) ∧ SendsO Fr s 0 (tickR s) noX noY w (t.cells A' n' c') N w' ∧ TickO Fr s w.heap.size PA pn pc w' := by
  have q1 := bl_al (Below.refl w.heap.size w) (.cells (s.cells A n c) 29)
  have q2 := bl_al (Below.refl (w.alloc (.cells (s.cells A n c) 29)).heap.size (w.alloc (.cells (s.cells A n c) 29))) (.cells (zeroS.cells none 0 0) 29)
  have q12 := bl_ca q1 q2
  have hsz2 : ((w.alloc (.cells (s.cells A n c) 29)).alloc (.cells (zeroS.cells none 0 0) 29)).heap.size = w.heap.size + 2 := by simp only [World.size_alloc]
  have HS2 := (Blk.new w 29 (s.cells A n c)).ca q2
  have HZ2 : Blk ((w.alloc (.cells (s.cells A n c) 29)).alloc (.cells (zeroS.cells none 0 0) 29)) (w.heap.size + 1) 29 (zeroS.cells none 0 0) := Blk.mk' (by simp only [World.size_alloc])
  generalize hw2 : (w.alloc (.cells (s.cells A n c) 29)).alloc (.cells (zeroS.cells none 0 0) 29) = w2 at *
  have q3 := bl_al (Below.refl w2.heap.size w2) (.cells #[.slice none 0 0] 50)
  have hp3 : Blk (w2.alloc (.cells #[.slice none 0 0] 50)) (w.heap.size + 2) 50 #[.slice none 0 0] := by rw [← hsz2]; exact Blk.new _ _ _
  have HB := Lib.hid (bl_ca q12 q3)
  have hsz : (w2.alloc (.cells #[.slice none 0 0] 50)).heap.size = w.heap.size + 3 := by simp only [World.size_alloc]; omega
  have HSE := Lib.hid (sends_any Fr s A n c 93 #[.pointer (some ⟨w.heap.size + 2, 0, none⟩)] 0 (tickR s) (fun k => k = w.heap.size + 2) (TickY (w.heap.size + 2) (w2.alloc (.cells #[.slice none 0 0] 50)) Fr (outP s)) _ (Lay.rd_below (Lay.rd_below h q12) q3) (fun k h => by have := hFr k h; omega) hn h0 (Go.Proofs.enters_of Try.func93 (by kernel_rfl) rfl)
    (tick1_do s (w.heap.size + 2) _ Fr (fun k h => by have := hFr k h; omega) (fun h => by have := hFr _ h; omega) hp3) (fun k h => by omega)
    (fun _ _ ⟨A, n, c, h1, h2⟩ g => ⟨A, n, c, h1.apart g (by omega), Lay.own_same h2 (fun j e => g.block j (Lay.own_base h2 j e).2 (fun e2 => by injection e2 with e2; have := (Lay.own_base h2 j e).1; omega)) (fun b hb _ hl => g.block b hl (fun e2 => by injection e2 with e2; have := hFr b hb; omega))⟩))
  have HS := Lib.hid (HS2.ca q3)
  have HZ := Lib.hid (HZ2.ca q3)
  have HP := Lib.hid hp3
  have HFR := Lib.hid hFr
  subst hw2
  clear h q1 q2 q12 q3 HS2 HZ2 hsz2 hp3 hFr
  go_enter Try.func43, Try.ntmps43
  go_wp2_with (refine wpList_load_blk rfl 29 (.tmp 1) rfl w.heap.size rfl 29 _ (s.cells A n c) HS.out rfl rfl senderI ?_)
  refine HSE.out.mono ?_
  clear HSE
  rintro e w4 h4
  obtain ⟨t, A1, n1, c1, N, rfl, ho⟩ := sends_o h4
  obtain ⟨PA, pn, pc, hp4, hpo⟩ := tick_told ho HP.out
  have HZ4 := Lib.hid (ho.blk HZ.out (fun h => by omega))
  have HO := Lib.hid ho
  have HPO := Lib.hid hpo
  have HP4 := Lib.hid hp4
  have hs4 : w.heap.size + 3 ≤ w4.heap.size := by
    have := hp4.lt
    have h := ho
    unfold SendsO at h
    split at h
    · have := h.1.size; omega
    · have := h.2.2.size; omega
  rw [hsz] at HPO
  clear h4 ho HS HZ HP hp4 hpo
  obtain ⟨t1, t2, tq, t4, t5, t6, t7⟩ := t
  go_wp2_with fail
  have q5 := bl_al (Below.refl w4.heap.size w4) (.cells #[.int .u32 t1, .int .u64 t2, .slice A1 n1 c1, .int .u64 t4, .int .u64 t5, .int .i64 t6, .bool t7] 29)
  have ht5 := Blk.new w4 29 #[.int .u32 t1, .int .u64 t2, .slice A1 n1 c1, .int .u64 t4, .int .u64 t5, .int .i64 t6, .bool t7]
  have HZ5 := Lib.hid (HZ4.out.ca q5)
  have HP5 := Lib.hid (HP4.out.ca q5)
  have hz5 := HZ5.out.lt
  have hp5 := HP5.out.lt
  obtain ⟨g6, hg6⟩ : ∃ g, g = w4.heap.size := ⟨_, rfl⟩
  rw [← hg6] at ht5 hs4 ⊢
  have HT5 := Lib.hid ht5
  generalize w4.alloc (.cells #[.int .u32 t1, .int .u64 t2, .slice A1 n1 c1, .int .u64 t4, .int .u64 t5, .int .i64 t6, .bool t7] 29) = w5 at *
  clear hg6 ht5 HZ4 HP4
  refine wp_region_ps (S := Seq1 3 (fun _ w' => Below w5.heap.size w5 w') (fun _ w' => ∃ w6, Below w5.heap.size w5 w6 ∧ Blk w' (w.heap.size + 1) 29 #[.int .u32 t1, .int .u64 t2, .slice A1 n1 c1, .int .u64 t4, .int .u64 t5, .int .i64 t6, .bool t7] ∧ w6.grownBy w' (some (w.heap.size + 1)))) (by kernel_rfl) ?spswq ?ppswq
  case spswq =>
    exact Seq1.start (by decide) (Below.refl _ _).drew
  refine Ps.step (i := 0) (d := some 14) (u := (.agg #[.int .u32 t1, .int .u64 t2, .slice A1 n1 c1, .int .u64 t4, .int .u64 t5, .int .i64 t6, .bool t7])) rfl rfl (by kernel_rfl) (by kernel_rfl) (by kernel_rfl) (by kernel_rfl) ?ywq_1 ?rwq_1
  case ywq_1 =>
    refine StepS.read [] (by kernel_rfl) (Seq1.pass (by decide)) (by rfl) (fun L9 m9 w9 hSh hAt hDn hS => ?_)
    have hT : Blk w9 g6 29 #[.int .u32 t1, .int .u64 t2, .slice A1 n1 c1, .int .u64 t4, .int .u64 t5, .int .i64 t6, .bool t7] := Seq1.any (T := fun w9 => Blk w9 g6 29 #[.int .u32 t1, .int .u64 t2, .slice A1 n1 c1, .int .u64 t4, .int .u64 t5, .int .i64 t6, .bool t7]) (fun _ _ h => HT5.out.ca h) (fun _ _ ⟨_, h1, _, h3⟩ => (HT5.out.ca h1).apart h3 (by omega)) hS
    have x0 : w9.cell? ⟨g6, 0, none⟩ = some (.int .u32 t1) := hT.cell 0
    have x1 : w9.cell? ⟨g6, 1, none⟩ = some (.int .u64 t2) := hT.cell 1
    have x2 : w9.cell? ⟨g6, 2, none⟩ = some (.slice A1 n1 c1) := hT.cell 2
    have x3 : w9.cell? ⟨g6, 3, none⟩ = some (.int .u64 t4) := hT.cell 3
    have x4 : w9.cell? ⟨g6, 4, none⟩ = some (.int .u64 t5) := hT.cell 4
    have x5 : w9.cell? ⟨g6, 5, none⟩ = some (.int .i64 t6) := hT.cell 5
    have x6 : w9.cell? ⟨g6, 6, none⟩ = some (.bool t7) := hT.cell 6
    clear hT hS
    go_simp
    try rfl
  try simp only [Act.put, List.setIfInBounds_toArray, List.set_cons_zero, List.set_cons_succ]
  refine Ps.step (i := 1) (d := some 15) (u := ?uwq_2) rfl rfl (by kernel_rfl) (by kernel_rfl) (by kernel_rfl) (by kernel_rfl) ?ywq_2 ?rwq_2
  case ywq_2 =>
    refine StepS.read [] (by kernel_rfl) (Seq1.pass (by decide)) (by rfl) (fun L9 m9 w9 hSh hAt hDn hS => ?_)
    have hT : Blk w9 (w.heap.size + 1 + 1) 50 #[.slice PA pn pc] := Seq1.any (T := fun w9 => Blk w9 (w.heap.size + 1 + 1) 50 #[.slice PA pn pc]) (fun _ _ h => HP5.out.ca h) (fun _ _ ⟨_, h1, _, h3⟩ => (HP5.out.ca h1).apart h3 (by omega)) hS
    have x0 : w9.cell? ⟨w.heap.size + 1 + 1, 0, none⟩ = some (.slice PA pn pc) := hT.cell 0
    clear hT hS
    go_simp
    try rfl
  try simp only [Act.put, List.setIfInBounds_toArray, List.set_cons_zero, List.set_cons_succ]
  refine Ps.step (i := 2) (d := some 16) (u := ?uwq_3) rfl rfl (by kernel_rfl) (by kernel_rfl) (by kernel_rfl) (by kernel_rfl) ?ywq_3 ?rwq_3
  case ywq_3 =>
    refine StepS.pure (Seq1.pass (by decide)) (by rfl) (fun w9 => ?_)
    go_simp
    try rfl
  try simp only [Act.put, List.setIfInBounds_toArray, List.set_cons_zero, List.set_cons_succ]
  refine Ps.step (i := 3) (d := none) (u := undef) rfl rfl (by kernel_rfl) (by kernel_rfl) (by kernel_rfl) (by kernel_rfl) ?ywq_4 ?rwq_4
  case ywq_4 =>
    refine StepS.store [] (by kernel_rfl) (by rfl) (fun L9 m9 w9 hSh hAt hDn hS => ?_)
    have hT := Seq1.at1 hDn hS
    refine (exec_store_blk (w := w9) 29 (.tmp 2) (.tmp 14) (by rfl) (w.heap.size + 1) 29 (zeroS.cells none 0 0) #[.int .u32 t1, .int .u64 t2, .slice A1 n1 c1, .int .u64 t4, .int .u64 t5, .int .i64 t6, .bool t7] (by rfl) (by rfl) (HZ5.out.ca hT) rfl senderI (by simp [Value.oneCell'])).imp fun w7 hx => ⟨hx.1, Seq1.set1 ⟨w9, hT, hx.2.1, hx.2.2⟩⟩
  try simp only [Act.put]
  refine Ps.step (i := 4) (d := some 3) (u := ?uwq_5) rfl rfl (by kernel_rfl) (by kernel_rfl) (by kernel_rfl) (by kernel_rfl) ?ywq_5 ?rwq_5
  case ywq_5 =>
    refine StepS.pure (Seq1.pass (by decide)) (by rfl) (fun w9 => ?_)
    go_simp
    try rfl
  try simp only [Act.put, List.setIfInBounds_toArray, List.set_cons_zero, List.set_cons_succ]
  refine Ps.step (i := 5) (d := some 4) (u := ?uwq_6) rfl rfl (by kernel_rfl) (by kernel_rfl) (by kernel_rfl) (by kernel_rfl) ?ywq_6 ?rwq_6
  case ywq_6 =>
    refine StepS.pure (Seq1.pass (by decide)) (by rfl) (fun w9 => ?_)
    go_simp
    try rfl
  try simp only [Act.put, List.setIfInBounds_toArray, List.set_cons_zero, List.set_cons_succ]
  refine Ps.done (by kernel_rfl) (fun wq hS => ?_) _
  obtain ⟨w6, hT, hZ, gz⟩ := Seq1.fin (by rfl) hS
  clear hS
  go_wp2
  refine bodyPost_ret (res3 Try.results43 rfl rfl rfl hZ Try.underlying29 rfl senderI) rfl ?_
  have gg := grow_after (bl_ca q5 hT) gz
  have hso := (HO.out.noY).out (X' := noX) HB.out gg (fun k h => by have := HFR.out k h; omega) (by omega) (by omega) (by omega) (fun b h hb => by exact absurd h (by omega)) (fun _ _ h _ => h)
  exact ⟨⟨t1, t2, tq, t4, t5, t6, t7⟩, A1, n1, c1, N, PA, pn, pc, rfl, hso, tickO_gr HPO.out gg HFR.out (by omega) (by omega) (by omega)⟩
end Go.Proofs.Ytojghgbaiiajfaa
/- link.CheckPacket. Conditions: the batch's rows read so. -/
namespace Go.Proofs.Ytojghgbaiiajfaa
open Go.RowKit
def checkP (p : PK) : Bool := sesB p.ses && ((decide (p.kind = 1) && (decide (p.lim = 0) && batchB p.b p.seq)) || (decide (p.kind = 2) && (eqBC p.b ⟨[], false, 0⟩ && (decide (1 ≤ p.seq) && (decide (p.seq ≤ 1099511627777) && (decide (p.seq - 1 ≤ p.lim) && decide (p.lim ≤ 1099511627776)))))))
set_option maxRecDepth 100000 in
set_option maxHeartbeats 16000000 in
theorem checkp_any (Fr : Nat → Prop) (p : PK) (A : Option Addr) (n c : Nat) (w : World) (h : LR.rd w Fr A n p.b.rows) (hn : n ≤ 9223372036854775807) :
    Calls Try.prog 27 #[.agg (p.cells A n c)] w fun e w' => e = .returned (.int .i64 (if checkP p then 0 else 321)) ∧ Below w.heap.size w w' := by
  obtain ⟨kind, ses, seq, lim, rows, fin, cnt⟩ := p
  dsimp only at h
  obtain ⟨r, hr⟩ : ∃ r : Int, r = if checkP ⟨kind, ses, seq, lim, ⟨rows, fin, cnt⟩⟩ then 0 else 321 := ⟨_, rfl⟩
  rw [← hr]
  have HRR := Lib.hid hr
  have HR := Lib.hid h
  obtain ⟨zB, hzB⟩ : ∃ zB, zB = sesB ses := ⟨_, rfl⟩
  have HZ := Lib.hid hzB
  have HSS := Lib.hid (fun W => session_any ses W)
  rw [← hzB] at HSS
  clear h hr hzB
  by_cases k1 : kind = 1
  · subst k1
    cases zB
    · skip
      have HF := Lib.hid (show checkP ⟨1, ses, seq, lim, ⟨rows, fin, cnt⟩⟩ = false from by unfold checkP; simp [← HZ.out])
      have HB := Lib.hid (Blk.new w 47 #[.int .i64 1, .int .u32 ses, .int .u64 seq, .int .u64 lim, .slice A n c, .bool fin, .int .u64 cnt])
      have b1 := bl_al (Below.refl w.heap.size w) (.cells #[.int .i64 1, .int .u32 ses, .int .u64 seq, .int .u64 lim, .slice A n c, .bool fin, .int .u64 cnt] 47)
      have HBB := Lib.hid b1
      clear b1
      have x0 : (w.alloc (.cells #[.int .i64 1, .int .u32 ses, .int .u64 seq, .int .u64 lim, .slice A n c, .bool fin, .int .u64 cnt] 47)).cell? ⟨w.heap.size, 0, none⟩ = some (.int .i64 1) := HB.out.cell 0
      have x1 : (w.alloc (.cells #[.int .i64 1, .int .u32 ses, .int .u64 seq, .int .u64 lim, .slice A n c, .bool fin, .int .u64 cnt] 47)).cell? ⟨w.heap.size, 1, none⟩ = some (.int .u32 ses) := HB.out.cell 1
      have x2 : (w.alloc (.cells #[.int .i64 1, .int .u32 ses, .int .u64 seq, .int .u64 lim, .slice A n c, .bool fin, .int .u64 cnt] 47)).cell? ⟨w.heap.size, 2, none⟩ = some (.int .u64 seq) := HB.out.cell 2
      have x3 : (w.alloc (.cells #[.int .i64 1, .int .u32 ses, .int .u64 seq, .int .u64 lim, .slice A n c, .bool fin, .int .u64 cnt] 47)).cell? ⟨w.heap.size, 3, none⟩ = some (.int .u64 lim) := HB.out.cell 3
      have x4 : (w.alloc (.cells #[.int .i64 1, .int .u32 ses, .int .u64 seq, .int .u64 lim, .slice A n c, .bool fin, .int .u64 cnt] 47)).cell? ⟨w.heap.size, 4, none⟩ = some (.slice A n c) := HB.out.cell 4
      have x5 : (w.alloc (.cells #[.int .i64 1, .int .u32 ses, .int .u64 seq, .int .u64 lim, .slice A n c, .bool fin, .int .u64 cnt] 47)).cell? ⟨w.heap.size, 5, none⟩ = some (.bool fin) := HB.out.cell 5
      have x6 : (w.alloc (.cells #[.int .i64 1, .int .u32 ses, .int .u64 seq, .int .u64 lim, .slice A n c, .bool fin, .int .u64 cnt] 47)).cell? ⟨w.heap.size, 6, none⟩ = some (.int .u64 cnt) := HB.out.cell 6
      go_enter Try.func27, Try.ntmps27
      go_wp2_with fail
      generalize w.alloc (.cells #[.int .i64 1, .int .u32 ses, .int .u64 seq, .int .u64 lim, .slice A n c, .bool fin, .int .u64 cnt] 47) = w1 at *
      refine (HSS.out _).mono ?_
      rintro e w2 ⟨rfl, rfl⟩
      go_wp2
      go_ret
      exact ⟨ret_int (by rw [HRR.out, HF.out]; rfl), HBB.out⟩
    · by_cases hl : lim = 0
      · subst hl
        cases hb : batchB ⟨rows, fin, cnt⟩ seq
        · skip
          have HF := Lib.hid (show checkP ⟨1, ses, seq, 0, ⟨rows, fin, cnt⟩⟩ = false from by unfold checkP; simp [← HZ.out, hb])
          have HB := Lib.hid (Blk.new w 47 #[.int .i64 1, .int .u32 ses, .int .u64 seq, .int .u64 0, .slice A n c, .bool fin, .int .u64 cnt])
          have b1 := bl_al (Below.refl w.heap.size w) (.cells #[.int .i64 1, .int .u32 ses, .int .u64 seq, .int .u64 0, .slice A n c, .bool fin, .int .u64 cnt] 47)
          have HC := Lib.hid (batch_any Fr ⟨rows, fin, cnt⟩ A n c seq _ (Lay.rd_below HR.out b1) hn)
          rw [hb] at HC
          have HBB := Lib.hid b1
          clear b1
          have x0 : (w.alloc (.cells #[.int .i64 1, .int .u32 ses, .int .u64 seq, .int .u64 0, .slice A n c, .bool fin, .int .u64 cnt] 47)).cell? ⟨w.heap.size, 0, none⟩ = some (.int .i64 1) := HB.out.cell 0
          have x1 : (w.alloc (.cells #[.int .i64 1, .int .u32 ses, .int .u64 seq, .int .u64 0, .slice A n c, .bool fin, .int .u64 cnt] 47)).cell? ⟨w.heap.size, 1, none⟩ = some (.int .u32 ses) := HB.out.cell 1
          have x2 : (w.alloc (.cells #[.int .i64 1, .int .u32 ses, .int .u64 seq, .int .u64 0, .slice A n c, .bool fin, .int .u64 cnt] 47)).cell? ⟨w.heap.size, 2, none⟩ = some (.int .u64 seq) := HB.out.cell 2
          have x3 : (w.alloc (.cells #[.int .i64 1, .int .u32 ses, .int .u64 seq, .int .u64 0, .slice A n c, .bool fin, .int .u64 cnt] 47)).cell? ⟨w.heap.size, 3, none⟩ = some (.int .u64 0) := HB.out.cell 3
          have x4 : (w.alloc (.cells #[.int .i64 1, .int .u32 ses, .int .u64 seq, .int .u64 0, .slice A n c, .bool fin, .int .u64 cnt] 47)).cell? ⟨w.heap.size, 4, none⟩ = some (.slice A n c) := HB.out.cell 4
          have x5 : (w.alloc (.cells #[.int .i64 1, .int .u32 ses, .int .u64 seq, .int .u64 0, .slice A n c, .bool fin, .int .u64 cnt] 47)).cell? ⟨w.heap.size, 5, none⟩ = some (.bool fin) := HB.out.cell 5
          have x6 : (w.alloc (.cells #[.int .i64 1, .int .u32 ses, .int .u64 seq, .int .u64 0, .slice A n c, .bool fin, .int .u64 cnt] 47)).cell? ⟨w.heap.size, 6, none⟩ = some (.int .u64 cnt) := HB.out.cell 6
          go_enter Try.func27, Try.ntmps27
          go_wp2_with fail
          generalize w.alloc (.cells #[.int .i64 1, .int .u32 ses, .int .u64 seq, .int .u64 0, .slice A n c, .bool fin, .int .u64 cnt] 47) = w1 at *
          refine (HSS.out _).mono ?_
          rintro e w2 ⟨rfl, rfl⟩
          go_wp2_with fail
          refine HC.out.mono ?_
          rintro e w3 ⟨rfl, q3⟩
          have HB3 := Lib.hid (HB.out.ca q3)
          have HQ := Lib.hid (bl_ca HBB.out q3)
          clear x0 x1 x2 x3 x4 x5 x6 q3 HC
          have x2 : w3.cell? ⟨w.heap.size, 2, none⟩ = some (.int .u64 seq) := HB3.out.cell 2
          have x3 : w3.cell? ⟨w.heap.size, 3, none⟩ = some (.int .u64 0) := HB3.out.cell 3
          go_wp2
          go_ret
          exact ⟨ret_int (by rw [HRR.out, HF.out]; rfl), HQ.out⟩
        · skip
          have HF := Lib.hid (show checkP ⟨1, ses, seq, 0, ⟨rows, fin, cnt⟩⟩ = true from by unfold checkP; simp [← HZ.out, hb])
          have HB := Lib.hid (Blk.new w 47 #[.int .i64 1, .int .u32 ses, .int .u64 seq, .int .u64 0, .slice A n c, .bool fin, .int .u64 cnt])
          have b1 := bl_al (Below.refl w.heap.size w) (.cells #[.int .i64 1, .int .u32 ses, .int .u64 seq, .int .u64 0, .slice A n c, .bool fin, .int .u64 cnt] 47)
          have HC := Lib.hid (batch_any Fr ⟨rows, fin, cnt⟩ A n c seq _ (Lay.rd_below HR.out b1) hn)
          rw [hb] at HC
          have HBB := Lib.hid b1
          clear b1
          have x0 : (w.alloc (.cells #[.int .i64 1, .int .u32 ses, .int .u64 seq, .int .u64 0, .slice A n c, .bool fin, .int .u64 cnt] 47)).cell? ⟨w.heap.size, 0, none⟩ = some (.int .i64 1) := HB.out.cell 0
          have x1 : (w.alloc (.cells #[.int .i64 1, .int .u32 ses, .int .u64 seq, .int .u64 0, .slice A n c, .bool fin, .int .u64 cnt] 47)).cell? ⟨w.heap.size, 1, none⟩ = some (.int .u32 ses) := HB.out.cell 1
          have x2 : (w.alloc (.cells #[.int .i64 1, .int .u32 ses, .int .u64 seq, .int .u64 0, .slice A n c, .bool fin, .int .u64 cnt] 47)).cell? ⟨w.heap.size, 2, none⟩ = some (.int .u64 seq) := HB.out.cell 2
          have x3 : (w.alloc (.cells #[.int .i64 1, .int .u32 ses, .int .u64 seq, .int .u64 0, .slice A n c, .bool fin, .int .u64 cnt] 47)).cell? ⟨w.heap.size, 3, none⟩ = some (.int .u64 0) := HB.out.cell 3
          have x4 : (w.alloc (.cells #[.int .i64 1, .int .u32 ses, .int .u64 seq, .int .u64 0, .slice A n c, .bool fin, .int .u64 cnt] 47)).cell? ⟨w.heap.size, 4, none⟩ = some (.slice A n c) := HB.out.cell 4
          have x5 : (w.alloc (.cells #[.int .i64 1, .int .u32 ses, .int .u64 seq, .int .u64 0, .slice A n c, .bool fin, .int .u64 cnt] 47)).cell? ⟨w.heap.size, 5, none⟩ = some (.bool fin) := HB.out.cell 5
          have x6 : (w.alloc (.cells #[.int .i64 1, .int .u32 ses, .int .u64 seq, .int .u64 0, .slice A n c, .bool fin, .int .u64 cnt] 47)).cell? ⟨w.heap.size, 6, none⟩ = some (.int .u64 cnt) := HB.out.cell 6
          go_enter Try.func27, Try.ntmps27
          go_wp2_with fail
          generalize w.alloc (.cells #[.int .i64 1, .int .u32 ses, .int .u64 seq, .int .u64 0, .slice A n c, .bool fin, .int .u64 cnt] 47) = w1 at *
          refine (HSS.out _).mono ?_
          rintro e w2 ⟨rfl, rfl⟩
          go_wp2_with fail
          refine HC.out.mono ?_
          rintro e w3 ⟨rfl, q3⟩
          have HB3 := Lib.hid (HB.out.ca q3)
          have HQ := Lib.hid (bl_ca HBB.out q3)
          clear x0 x1 x2 x3 x4 x5 x6 q3 HC
          have x2 : w3.cell? ⟨w.heap.size, 2, none⟩ = some (.int .u64 seq) := HB3.out.cell 2
          have x3 : w3.cell? ⟨w.heap.size, 3, none⟩ = some (.int .u64 0) := HB3.out.cell 3
          go_wp2
          go_ret
          exact ⟨ret_int (by rw [HRR.out, HF.out]; rfl), HQ.out⟩
      · have d3 : (lim == 0) = false := by simpa using hl
        have HF := Lib.hid (show checkP ⟨1, ses, seq, lim, ⟨rows, fin, cnt⟩⟩ = false from by unfold checkP; simp [← HZ.out, hl])
        have HB := Lib.hid (Blk.new w 47 #[.int .i64 1, .int .u32 ses, .int .u64 seq, .int .u64 lim, .slice A n c, .bool fin, .int .u64 cnt])
        have b1 := bl_al (Below.refl w.heap.size w) (.cells #[.int .i64 1, .int .u32 ses, .int .u64 seq, .int .u64 lim, .slice A n c, .bool fin, .int .u64 cnt] 47)
        have HBB := Lib.hid b1
        clear b1
        have x0 : (w.alloc (.cells #[.int .i64 1, .int .u32 ses, .int .u64 seq, .int .u64 lim, .slice A n c, .bool fin, .int .u64 cnt] 47)).cell? ⟨w.heap.size, 0, none⟩ = some (.int .i64 1) := HB.out.cell 0
        have x1 : (w.alloc (.cells #[.int .i64 1, .int .u32 ses, .int .u64 seq, .int .u64 lim, .slice A n c, .bool fin, .int .u64 cnt] 47)).cell? ⟨w.heap.size, 1, none⟩ = some (.int .u32 ses) := HB.out.cell 1
        have x2 : (w.alloc (.cells #[.int .i64 1, .int .u32 ses, .int .u64 seq, .int .u64 lim, .slice A n c, .bool fin, .int .u64 cnt] 47)).cell? ⟨w.heap.size, 2, none⟩ = some (.int .u64 seq) := HB.out.cell 2
        have x3 : (w.alloc (.cells #[.int .i64 1, .int .u32 ses, .int .u64 seq, .int .u64 lim, .slice A n c, .bool fin, .int .u64 cnt] 47)).cell? ⟨w.heap.size, 3, none⟩ = some (.int .u64 lim) := HB.out.cell 3
        have x4 : (w.alloc (.cells #[.int .i64 1, .int .u32 ses, .int .u64 seq, .int .u64 lim, .slice A n c, .bool fin, .int .u64 cnt] 47)).cell? ⟨w.heap.size, 4, none⟩ = some (.slice A n c) := HB.out.cell 4
        have x5 : (w.alloc (.cells #[.int .i64 1, .int .u32 ses, .int .u64 seq, .int .u64 lim, .slice A n c, .bool fin, .int .u64 cnt] 47)).cell? ⟨w.heap.size, 5, none⟩ = some (.bool fin) := HB.out.cell 5
        have x6 : (w.alloc (.cells #[.int .i64 1, .int .u32 ses, .int .u64 seq, .int .u64 lim, .slice A n c, .bool fin, .int .u64 cnt] 47)).cell? ⟨w.heap.size, 6, none⟩ = some (.int .u64 cnt) := HB.out.cell 6
        go_enter Try.func27, Try.ntmps27
        go_wp2_with fail
        generalize w.alloc (.cells #[.int .i64 1, .int .u32 ses, .int .u64 seq, .int .u64 lim, .slice A n c, .bool fin, .int .u64 cnt] 47) = w1 at *
        refine (HSS.out _).mono ?_
        rintro e w2 ⟨rfl, rfl⟩
        go_wp2
        go_ret
        exact ⟨ret_int (by rw [HRR.out, HF.out]; rfl), HBB.out⟩
  · by_cases k2 : kind = 2
    · subst k2
      clear k1
      cases zB
      · skip
        have HF := Lib.hid (show checkP ⟨2, ses, seq, lim, ⟨rows, fin, cnt⟩⟩ = false from by unfold checkP; simp [← HZ.out])
        have HB := Lib.hid (Blk.new w 47 #[.int .i64 2, .int .u32 ses, .int .u64 seq, .int .u64 lim, .slice A n c, .bool fin, .int .u64 cnt])
        have b1 := bl_al (Below.refl w.heap.size w) (.cells #[.int .i64 2, .int .u32 ses, .int .u64 seq, .int .u64 lim, .slice A n c, .bool fin, .int .u64 cnt] 47)
        have HBB := Lib.hid b1
        clear b1
        have x0 : (w.alloc (.cells #[.int .i64 2, .int .u32 ses, .int .u64 seq, .int .u64 lim, .slice A n c, .bool fin, .int .u64 cnt] 47)).cell? ⟨w.heap.size, 0, none⟩ = some (.int .i64 2) := HB.out.cell 0
        have x1 : (w.alloc (.cells #[.int .i64 2, .int .u32 ses, .int .u64 seq, .int .u64 lim, .slice A n c, .bool fin, .int .u64 cnt] 47)).cell? ⟨w.heap.size, 1, none⟩ = some (.int .u32 ses) := HB.out.cell 1
        have x2 : (w.alloc (.cells #[.int .i64 2, .int .u32 ses, .int .u64 seq, .int .u64 lim, .slice A n c, .bool fin, .int .u64 cnt] 47)).cell? ⟨w.heap.size, 2, none⟩ = some (.int .u64 seq) := HB.out.cell 2
        have x3 : (w.alloc (.cells #[.int .i64 2, .int .u32 ses, .int .u64 seq, .int .u64 lim, .slice A n c, .bool fin, .int .u64 cnt] 47)).cell? ⟨w.heap.size, 3, none⟩ = some (.int .u64 lim) := HB.out.cell 3
        have x4 : (w.alloc (.cells #[.int .i64 2, .int .u32 ses, .int .u64 seq, .int .u64 lim, .slice A n c, .bool fin, .int .u64 cnt] 47)).cell? ⟨w.heap.size, 4, none⟩ = some (.slice A n c) := HB.out.cell 4
        have x5 : (w.alloc (.cells #[.int .i64 2, .int .u32 ses, .int .u64 seq, .int .u64 lim, .slice A n c, .bool fin, .int .u64 cnt] 47)).cell? ⟨w.heap.size, 5, none⟩ = some (.bool fin) := HB.out.cell 5
        have x6 : (w.alloc (.cells #[.int .i64 2, .int .u32 ses, .int .u64 seq, .int .u64 lim, .slice A n c, .bool fin, .int .u64 cnt] 47)).cell? ⟨w.heap.size, 6, none⟩ = some (.int .u64 cnt) := HB.out.cell 6
        go_enter Try.func27, Try.ntmps27
        go_wp2_with fail
        generalize w.alloc (.cells #[.int .i64 2, .int .u32 ses, .int .u64 seq, .int .u64 lim, .slice A n c, .bool fin, .int .u64 cnt] 47) = w1 at *
        refine (HSS.out _).mono ?_
        rintro e w2 ⟨rfl, rfl⟩
        go_wp2
        go_ret
        exact ⟨ret_int (by rw [HRR.out, HF.out]; rfl), HBB.out⟩
      · cases hb : eqBC ⟨rows, fin, cnt⟩ ⟨[], false, 0⟩
        · skip
          have HF := Lib.hid (show checkP ⟨2, ses, seq, lim, ⟨rows, fin, cnt⟩⟩ = false from by unfold checkP; simp [← HZ.out, hb])
          have HB := Lib.hid (Blk.new w 47 #[.int .i64 2, .int .u32 ses, .int .u64 seq, .int .u64 lim, .slice A n c, .bool fin, .int .u64 cnt])
          have b1 := bl_al (Below.refl w.heap.size w) (.cells #[.int .i64 2, .int .u32 ses, .int .u64 seq, .int .u64 lim, .slice A n c, .bool fin, .int .u64 cnt] 47)
          have HC := Lib.hid (lsame_any Fr (fun _ => True) ⟨rows, fin, cnt⟩ ⟨[], false, 0⟩ A none n c 0 0 _ (Lay.rd_below HR.out b1) (Lay.rd_nil _) hn)
          rw [hb] at HC
          have HBB := Lib.hid b1
          clear b1
          have x0 : (w.alloc (.cells #[.int .i64 2, .int .u32 ses, .int .u64 seq, .int .u64 lim, .slice A n c, .bool fin, .int .u64 cnt] 47)).cell? ⟨w.heap.size, 0, none⟩ = some (.int .i64 2) := HB.out.cell 0
          have x1 : (w.alloc (.cells #[.int .i64 2, .int .u32 ses, .int .u64 seq, .int .u64 lim, .slice A n c, .bool fin, .int .u64 cnt] 47)).cell? ⟨w.heap.size, 1, none⟩ = some (.int .u32 ses) := HB.out.cell 1
          have x2 : (w.alloc (.cells #[.int .i64 2, .int .u32 ses, .int .u64 seq, .int .u64 lim, .slice A n c, .bool fin, .int .u64 cnt] 47)).cell? ⟨w.heap.size, 2, none⟩ = some (.int .u64 seq) := HB.out.cell 2
          have x3 : (w.alloc (.cells #[.int .i64 2, .int .u32 ses, .int .u64 seq, .int .u64 lim, .slice A n c, .bool fin, .int .u64 cnt] 47)).cell? ⟨w.heap.size, 3, none⟩ = some (.int .u64 lim) := HB.out.cell 3
          have x4 : (w.alloc (.cells #[.int .i64 2, .int .u32 ses, .int .u64 seq, .int .u64 lim, .slice A n c, .bool fin, .int .u64 cnt] 47)).cell? ⟨w.heap.size, 4, none⟩ = some (.slice A n c) := HB.out.cell 4
          have x5 : (w.alloc (.cells #[.int .i64 2, .int .u32 ses, .int .u64 seq, .int .u64 lim, .slice A n c, .bool fin, .int .u64 cnt] 47)).cell? ⟨w.heap.size, 5, none⟩ = some (.bool fin) := HB.out.cell 5
          have x6 : (w.alloc (.cells #[.int .i64 2, .int .u32 ses, .int .u64 seq, .int .u64 lim, .slice A n c, .bool fin, .int .u64 cnt] 47)).cell? ⟨w.heap.size, 6, none⟩ = some (.int .u64 cnt) := HB.out.cell 6
          go_enter Try.func27, Try.ntmps27
          go_wp2_with fail
          generalize w.alloc (.cells #[.int .i64 2, .int .u32 ses, .int .u64 seq, .int .u64 lim, .slice A n c, .bool fin, .int .u64 cnt] 47) = w1 at *
          refine (HSS.out _).mono ?_
          rintro e w2 ⟨rfl, rfl⟩
          go_wp2_with fail
          refine HC.out.mono ?_
          rintro e w3 ⟨rfl, q3⟩
          have HB3 := Lib.hid (HB.out.ca q3)
          have HQ := Lib.hid (bl_ca HBB.out q3)
          clear x0 x1 x2 x3 x4 x5 x6 q3 HC
          have x2 : w3.cell? ⟨w.heap.size, 2, none⟩ = some (.int .u64 seq) := HB3.out.cell 2
          have x3 : w3.cell? ⟨w.heap.size, 3, none⟩ = some (.int .u64 lim) := HB3.out.cell 3
          go_wp2
          go_ret
          exact ⟨ret_int (by rw [HRR.out, HF.out]; rfl), HQ.out⟩
        · skip
          by_cases d0 : 1 ≤ seq
          · have e0 : decide (1 ≤ seq) = true := by simpa using d0
            have hwr : seq ≤ 1099511627777 → IntKind.u64.wrap (seq - 1) = seq - 1 := fun h => u64_in (by omega) (by omega)
            by_cases d1 : seq ≤ 1099511627777
            · have e1 : decide (seq ≤ 1099511627777) = true := by simpa using d1
              replace hwr := hwr d1
              by_cases d2 : seq - 1 ≤ lim
              · have e2 : decide (seq - 1 ≤ lim) = true := by simpa using d2
                by_cases d3 : lim ≤ 1099511627776
                · have e3 : decide (lim ≤ 1099511627776) = true := by simpa using d3
                  have HF := Lib.hid (show checkP ⟨2, ses, seq, lim, ⟨rows, fin, cnt⟩⟩ = true from by unfold checkP; simp [← HZ.out, hb, d0, d1, d2, d3])
                  have HB := Lib.hid (Blk.new w 47 #[.int .i64 2, .int .u32 ses, .int .u64 seq, .int .u64 lim, .slice A n c, .bool fin, .int .u64 cnt])
                  have b1 := bl_al (Below.refl w.heap.size w) (.cells #[.int .i64 2, .int .u32 ses, .int .u64 seq, .int .u64 lim, .slice A n c, .bool fin, .int .u64 cnt] 47)
                  have HC := Lib.hid (lsame_any Fr (fun _ => True) ⟨rows, fin, cnt⟩ ⟨[], false, 0⟩ A none n c 0 0 _ (Lay.rd_below HR.out b1) (Lay.rd_nil _) hn)
                  rw [hb] at HC
                  have HBB := Lib.hid b1
                  clear b1
                  have x0 : (w.alloc (.cells #[.int .i64 2, .int .u32 ses, .int .u64 seq, .int .u64 lim, .slice A n c, .bool fin, .int .u64 cnt] 47)).cell? ⟨w.heap.size, 0, none⟩ = some (.int .i64 2) := HB.out.cell 0
                  have x1 : (w.alloc (.cells #[.int .i64 2, .int .u32 ses, .int .u64 seq, .int .u64 lim, .slice A n c, .bool fin, .int .u64 cnt] 47)).cell? ⟨w.heap.size, 1, none⟩ = some (.int .u32 ses) := HB.out.cell 1
                  have x2 : (w.alloc (.cells #[.int .i64 2, .int .u32 ses, .int .u64 seq, .int .u64 lim, .slice A n c, .bool fin, .int .u64 cnt] 47)).cell? ⟨w.heap.size, 2, none⟩ = some (.int .u64 seq) := HB.out.cell 2
                  have x3 : (w.alloc (.cells #[.int .i64 2, .int .u32 ses, .int .u64 seq, .int .u64 lim, .slice A n c, .bool fin, .int .u64 cnt] 47)).cell? ⟨w.heap.size, 3, none⟩ = some (.int .u64 lim) := HB.out.cell 3
                  have x4 : (w.alloc (.cells #[.int .i64 2, .int .u32 ses, .int .u64 seq, .int .u64 lim, .slice A n c, .bool fin, .int .u64 cnt] 47)).cell? ⟨w.heap.size, 4, none⟩ = some (.slice A n c) := HB.out.cell 4
                  have x5 : (w.alloc (.cells #[.int .i64 2, .int .u32 ses, .int .u64 seq, .int .u64 lim, .slice A n c, .bool fin, .int .u64 cnt] 47)).cell? ⟨w.heap.size, 5, none⟩ = some (.bool fin) := HB.out.cell 5
                  have x6 : (w.alloc (.cells #[.int .i64 2, .int .u32 ses, .int .u64 seq, .int .u64 lim, .slice A n c, .bool fin, .int .u64 cnt] 47)).cell? ⟨w.heap.size, 6, none⟩ = some (.int .u64 cnt) := HB.out.cell 6
                  go_enter Try.func27, Try.ntmps27
                  go_wp2_with fail
                  generalize w.alloc (.cells #[.int .i64 2, .int .u32 ses, .int .u64 seq, .int .u64 lim, .slice A n c, .bool fin, .int .u64 cnt] 47) = w1 at *
                  refine (HSS.out _).mono ?_
                  rintro e w2 ⟨rfl, rfl⟩
                  go_wp2_with fail
                  refine HC.out.mono ?_
                  rintro e w3 ⟨rfl, q3⟩
                  have HB3 := Lib.hid (HB.out.ca q3)
                  have HQ := Lib.hid (bl_ca HBB.out q3)
                  clear x0 x1 x2 x3 x4 x5 x6 q3 HC
                  have x2 : w3.cell? ⟨w.heap.size, 2, none⟩ = some (.int .u64 seq) := HB3.out.cell 2
                  have x3 : w3.cell? ⟨w.heap.size, 3, none⟩ = some (.int .u64 lim) := HB3.out.cell 3
                  go_wp2
                  go_ret
                  exact ⟨ret_int (by rw [HRR.out, HF.out]; rfl), HQ.out⟩
                · have e3 : decide (lim ≤ 1099511627776) = false := by simpa using d3
                  have HF := Lib.hid (show checkP ⟨2, ses, seq, lim, ⟨rows, fin, cnt⟩⟩ = false from by unfold checkP; simp [← HZ.out, d3])
                  have HB := Lib.hid (Blk.new w 47 #[.int .i64 2, .int .u32 ses, .int .u64 seq, .int .u64 lim, .slice A n c, .bool fin, .int .u64 cnt])
                  have b1 := bl_al (Below.refl w.heap.size w) (.cells #[.int .i64 2, .int .u32 ses, .int .u64 seq, .int .u64 lim, .slice A n c, .bool fin, .int .u64 cnt] 47)
                  have HC := Lib.hid (lsame_any Fr (fun _ => True) ⟨rows, fin, cnt⟩ ⟨[], false, 0⟩ A none n c 0 0 _ (Lay.rd_below HR.out b1) (Lay.rd_nil _) hn)
                  rw [hb] at HC
                  have HBB := Lib.hid b1
                  clear b1
                  have x0 : (w.alloc (.cells #[.int .i64 2, .int .u32 ses, .int .u64 seq, .int .u64 lim, .slice A n c, .bool fin, .int .u64 cnt] 47)).cell? ⟨w.heap.size, 0, none⟩ = some (.int .i64 2) := HB.out.cell 0
                  have x1 : (w.alloc (.cells #[.int .i64 2, .int .u32 ses, .int .u64 seq, .int .u64 lim, .slice A n c, .bool fin, .int .u64 cnt] 47)).cell? ⟨w.heap.size, 1, none⟩ = some (.int .u32 ses) := HB.out.cell 1
                  have x2 : (w.alloc (.cells #[.int .i64 2, .int .u32 ses, .int .u64 seq, .int .u64 lim, .slice A n c, .bool fin, .int .u64 cnt] 47)).cell? ⟨w.heap.size, 2, none⟩ = some (.int .u64 seq) := HB.out.cell 2
                  have x3 : (w.alloc (.cells #[.int .i64 2, .int .u32 ses, .int .u64 seq, .int .u64 lim, .slice A n c, .bool fin, .int .u64 cnt] 47)).cell? ⟨w.heap.size, 3, none⟩ = some (.int .u64 lim) := HB.out.cell 3
                  have x4 : (w.alloc (.cells #[.int .i64 2, .int .u32 ses, .int .u64 seq, .int .u64 lim, .slice A n c, .bool fin, .int .u64 cnt] 47)).cell? ⟨w.heap.size, 4, none⟩ = some (.slice A n c) := HB.out.cell 4
                  have x5 : (w.alloc (.cells #[.int .i64 2, .int .u32 ses, .int .u64 seq, .int .u64 lim, .slice A n c, .bool fin, .int .u64 cnt] 47)).cell? ⟨w.heap.size, 5, none⟩ = some (.bool fin) := HB.out.cell 5
                  have x6 : (w.alloc (.cells #[.int .i64 2, .int .u32 ses, .int .u64 seq, .int .u64 lim, .slice A n c, .bool fin, .int .u64 cnt] 47)).cell? ⟨w.heap.size, 6, none⟩ = some (.int .u64 cnt) := HB.out.cell 6
                  go_enter Try.func27, Try.ntmps27
                  go_wp2_with fail
                  generalize w.alloc (.cells #[.int .i64 2, .int .u32 ses, .int .u64 seq, .int .u64 lim, .slice A n c, .bool fin, .int .u64 cnt] 47) = w1 at *
                  refine (HSS.out _).mono ?_
                  rintro e w2 ⟨rfl, rfl⟩
                  go_wp2_with fail
                  refine HC.out.mono ?_
                  rintro e w3 ⟨rfl, q3⟩
                  have HB3 := Lib.hid (HB.out.ca q3)
                  have HQ := Lib.hid (bl_ca HBB.out q3)
                  clear x0 x1 x2 x3 x4 x5 x6 q3 HC
                  have x2 : w3.cell? ⟨w.heap.size, 2, none⟩ = some (.int .u64 seq) := HB3.out.cell 2
                  have x3 : w3.cell? ⟨w.heap.size, 3, none⟩ = some (.int .u64 lim) := HB3.out.cell 3
                  go_wp2
                  go_ret
                  exact ⟨ret_int (by rw [HRR.out, HF.out]; rfl), HQ.out⟩
              · have e2 : decide (seq - 1 ≤ lim) = false := by simpa using d2
                have HF := Lib.hid (show checkP ⟨2, ses, seq, lim, ⟨rows, fin, cnt⟩⟩ = false from by unfold checkP; simp [← HZ.out, d2])
                have HB := Lib.hid (Blk.new w 47 #[.int .i64 2, .int .u32 ses, .int .u64 seq, .int .u64 lim, .slice A n c, .bool fin, .int .u64 cnt])
                have b1 := bl_al (Below.refl w.heap.size w) (.cells #[.int .i64 2, .int .u32 ses, .int .u64 seq, .int .u64 lim, .slice A n c, .bool fin, .int .u64 cnt] 47)
                have HC := Lib.hid (lsame_any Fr (fun _ => True) ⟨rows, fin, cnt⟩ ⟨[], false, 0⟩ A none n c 0 0 _ (Lay.rd_below HR.out b1) (Lay.rd_nil _) hn)
                rw [hb] at HC
                have HBB := Lib.hid b1
                clear b1
                have x0 : (w.alloc (.cells #[.int .i64 2, .int .u32 ses, .int .u64 seq, .int .u64 lim, .slice A n c, .bool fin, .int .u64 cnt] 47)).cell? ⟨w.heap.size, 0, none⟩ = some (.int .i64 2) := HB.out.cell 0
                have x1 : (w.alloc (.cells #[.int .i64 2, .int .u32 ses, .int .u64 seq, .int .u64 lim, .slice A n c, .bool fin, .int .u64 cnt] 47)).cell? ⟨w.heap.size, 1, none⟩ = some (.int .u32 ses) := HB.out.cell 1
                have x2 : (w.alloc (.cells #[.int .i64 2, .int .u32 ses, .int .u64 seq, .int .u64 lim, .slice A n c, .bool fin, .int .u64 cnt] 47)).cell? ⟨w.heap.size, 2, none⟩ = some (.int .u64 seq) := HB.out.cell 2
                have x3 : (w.alloc (.cells #[.int .i64 2, .int .u32 ses, .int .u64 seq, .int .u64 lim, .slice A n c, .bool fin, .int .u64 cnt] 47)).cell? ⟨w.heap.size, 3, none⟩ = some (.int .u64 lim) := HB.out.cell 3
                have x4 : (w.alloc (.cells #[.int .i64 2, .int .u32 ses, .int .u64 seq, .int .u64 lim, .slice A n c, .bool fin, .int .u64 cnt] 47)).cell? ⟨w.heap.size, 4, none⟩ = some (.slice A n c) := HB.out.cell 4
                have x5 : (w.alloc (.cells #[.int .i64 2, .int .u32 ses, .int .u64 seq, .int .u64 lim, .slice A n c, .bool fin, .int .u64 cnt] 47)).cell? ⟨w.heap.size, 5, none⟩ = some (.bool fin) := HB.out.cell 5
                have x6 : (w.alloc (.cells #[.int .i64 2, .int .u32 ses, .int .u64 seq, .int .u64 lim, .slice A n c, .bool fin, .int .u64 cnt] 47)).cell? ⟨w.heap.size, 6, none⟩ = some (.int .u64 cnt) := HB.out.cell 6
                go_enter Try.func27, Try.ntmps27
                go_wp2_with fail
                generalize w.alloc (.cells #[.int .i64 2, .int .u32 ses, .int .u64 seq, .int .u64 lim, .slice A n c, .bool fin, .int .u64 cnt] 47) = w1 at *
                refine (HSS.out _).mono ?_
                rintro e w2 ⟨rfl, rfl⟩
                go_wp2_with fail
                refine HC.out.mono ?_
                rintro e w3 ⟨rfl, q3⟩
                have HB3 := Lib.hid (HB.out.ca q3)
                have HQ := Lib.hid (bl_ca HBB.out q3)
                clear x0 x1 x2 x3 x4 x5 x6 q3 HC
                have x2 : w3.cell? ⟨w.heap.size, 2, none⟩ = some (.int .u64 seq) := HB3.out.cell 2
                have x3 : w3.cell? ⟨w.heap.size, 3, none⟩ = some (.int .u64 lim) := HB3.out.cell 3
                go_wp2
                go_ret
                exact ⟨ret_int (by rw [HRR.out, HF.out]; rfl), HQ.out⟩
            · have e1 : decide (seq ≤ 1099511627777) = false := by simpa using d1
              clear hwr
              have HF := Lib.hid (show checkP ⟨2, ses, seq, lim, ⟨rows, fin, cnt⟩⟩ = false from by unfold checkP; simp [← HZ.out, d1])
              have HB := Lib.hid (Blk.new w 47 #[.int .i64 2, .int .u32 ses, .int .u64 seq, .int .u64 lim, .slice A n c, .bool fin, .int .u64 cnt])
              have b1 := bl_al (Below.refl w.heap.size w) (.cells #[.int .i64 2, .int .u32 ses, .int .u64 seq, .int .u64 lim, .slice A n c, .bool fin, .int .u64 cnt] 47)
              have HC := Lib.hid (lsame_any Fr (fun _ => True) ⟨rows, fin, cnt⟩ ⟨[], false, 0⟩ A none n c 0 0 _ (Lay.rd_below HR.out b1) (Lay.rd_nil _) hn)
              rw [hb] at HC
              have HBB := Lib.hid b1
              clear b1
              have x0 : (w.alloc (.cells #[.int .i64 2, .int .u32 ses, .int .u64 seq, .int .u64 lim, .slice A n c, .bool fin, .int .u64 cnt] 47)).cell? ⟨w.heap.size, 0, none⟩ = some (.int .i64 2) := HB.out.cell 0
              have x1 : (w.alloc (.cells #[.int .i64 2, .int .u32 ses, .int .u64 seq, .int .u64 lim, .slice A n c, .bool fin, .int .u64 cnt] 47)).cell? ⟨w.heap.size, 1, none⟩ = some (.int .u32 ses) := HB.out.cell 1
              have x2 : (w.alloc (.cells #[.int .i64 2, .int .u32 ses, .int .u64 seq, .int .u64 lim, .slice A n c, .bool fin, .int .u64 cnt] 47)).cell? ⟨w.heap.size, 2, none⟩ = some (.int .u64 seq) := HB.out.cell 2
              have x3 : (w.alloc (.cells #[.int .i64 2, .int .u32 ses, .int .u64 seq, .int .u64 lim, .slice A n c, .bool fin, .int .u64 cnt] 47)).cell? ⟨w.heap.size, 3, none⟩ = some (.int .u64 lim) := HB.out.cell 3
              have x4 : (w.alloc (.cells #[.int .i64 2, .int .u32 ses, .int .u64 seq, .int .u64 lim, .slice A n c, .bool fin, .int .u64 cnt] 47)).cell? ⟨w.heap.size, 4, none⟩ = some (.slice A n c) := HB.out.cell 4
              have x5 : (w.alloc (.cells #[.int .i64 2, .int .u32 ses, .int .u64 seq, .int .u64 lim, .slice A n c, .bool fin, .int .u64 cnt] 47)).cell? ⟨w.heap.size, 5, none⟩ = some (.bool fin) := HB.out.cell 5
              have x6 : (w.alloc (.cells #[.int .i64 2, .int .u32 ses, .int .u64 seq, .int .u64 lim, .slice A n c, .bool fin, .int .u64 cnt] 47)).cell? ⟨w.heap.size, 6, none⟩ = some (.int .u64 cnt) := HB.out.cell 6
              go_enter Try.func27, Try.ntmps27
              go_wp2_with fail
              generalize w.alloc (.cells #[.int .i64 2, .int .u32 ses, .int .u64 seq, .int .u64 lim, .slice A n c, .bool fin, .int .u64 cnt] 47) = w1 at *
              refine (HSS.out _).mono ?_
              rintro e w2 ⟨rfl, rfl⟩
              go_wp2_with fail
              refine HC.out.mono ?_
              rintro e w3 ⟨rfl, q3⟩
              have HB3 := Lib.hid (HB.out.ca q3)
              have HQ := Lib.hid (bl_ca HBB.out q3)
              clear x0 x1 x2 x3 x4 x5 x6 q3 HC
              have x2 : w3.cell? ⟨w.heap.size, 2, none⟩ = some (.int .u64 seq) := HB3.out.cell 2
              have x3 : w3.cell? ⟨w.heap.size, 3, none⟩ = some (.int .u64 lim) := HB3.out.cell 3
              go_wp2
              go_ret
              exact ⟨ret_int (by rw [HRR.out, HF.out]; rfl), HQ.out⟩
          · have e0 : decide (1 ≤ seq) = false := by simpa using d0
            have HF := Lib.hid (show checkP ⟨2, ses, seq, lim, ⟨rows, fin, cnt⟩⟩ = false from by unfold checkP; simp [← HZ.out, d0])
            have HB := Lib.hid (Blk.new w 47 #[.int .i64 2, .int .u32 ses, .int .u64 seq, .int .u64 lim, .slice A n c, .bool fin, .int .u64 cnt])
            have b1 := bl_al (Below.refl w.heap.size w) (.cells #[.int .i64 2, .int .u32 ses, .int .u64 seq, .int .u64 lim, .slice A n c, .bool fin, .int .u64 cnt] 47)
            have HC := Lib.hid (lsame_any Fr (fun _ => True) ⟨rows, fin, cnt⟩ ⟨[], false, 0⟩ A none n c 0 0 _ (Lay.rd_below HR.out b1) (Lay.rd_nil _) hn)
            rw [hb] at HC
            have HBB := Lib.hid b1
            clear b1
            have x0 : (w.alloc (.cells #[.int .i64 2, .int .u32 ses, .int .u64 seq, .int .u64 lim, .slice A n c, .bool fin, .int .u64 cnt] 47)).cell? ⟨w.heap.size, 0, none⟩ = some (.int .i64 2) := HB.out.cell 0
            have x1 : (w.alloc (.cells #[.int .i64 2, .int .u32 ses, .int .u64 seq, .int .u64 lim, .slice A n c, .bool fin, .int .u64 cnt] 47)).cell? ⟨w.heap.size, 1, none⟩ = some (.int .u32 ses) := HB.out.cell 1
            have x2 : (w.alloc (.cells #[.int .i64 2, .int .u32 ses, .int .u64 seq, .int .u64 lim, .slice A n c, .bool fin, .int .u64 cnt] 47)).cell? ⟨w.heap.size, 2, none⟩ = some (.int .u64 seq) := HB.out.cell 2
            have x3 : (w.alloc (.cells #[.int .i64 2, .int .u32 ses, .int .u64 seq, .int .u64 lim, .slice A n c, .bool fin, .int .u64 cnt] 47)).cell? ⟨w.heap.size, 3, none⟩ = some (.int .u64 lim) := HB.out.cell 3
            have x4 : (w.alloc (.cells #[.int .i64 2, .int .u32 ses, .int .u64 seq, .int .u64 lim, .slice A n c, .bool fin, .int .u64 cnt] 47)).cell? ⟨w.heap.size, 4, none⟩ = some (.slice A n c) := HB.out.cell 4
            have x5 : (w.alloc (.cells #[.int .i64 2, .int .u32 ses, .int .u64 seq, .int .u64 lim, .slice A n c, .bool fin, .int .u64 cnt] 47)).cell? ⟨w.heap.size, 5, none⟩ = some (.bool fin) := HB.out.cell 5
            have x6 : (w.alloc (.cells #[.int .i64 2, .int .u32 ses, .int .u64 seq, .int .u64 lim, .slice A n c, .bool fin, .int .u64 cnt] 47)).cell? ⟨w.heap.size, 6, none⟩ = some (.int .u64 cnt) := HB.out.cell 6
            go_enter Try.func27, Try.ntmps27
            go_wp2_with fail
            generalize w.alloc (.cells #[.int .i64 2, .int .u32 ses, .int .u64 seq, .int .u64 lim, .slice A n c, .bool fin, .int .u64 cnt] 47) = w1 at *
            refine (HSS.out _).mono ?_
            rintro e w2 ⟨rfl, rfl⟩
            go_wp2_with fail
            refine HC.out.mono ?_
            rintro e w3 ⟨rfl, q3⟩
            have HB3 := Lib.hid (HB.out.ca q3)
            have HQ := Lib.hid (bl_ca HBB.out q3)
            clear x0 x1 x2 x3 x4 x5 x6 q3 HC
            have x2 : w3.cell? ⟨w.heap.size, 2, none⟩ = some (.int .u64 seq) := HB3.out.cell 2
            have x3 : w3.cell? ⟨w.heap.size, 3, none⟩ = some (.int .u64 lim) := HB3.out.cell 3
            go_wp2
            go_ret
            exact ⟨ret_int (by rw [HRR.out, HF.out]; rfl), HQ.out⟩
    · have t1 : (kind == 1) = false := by simpa using k1
      have t2 : (kind == 2) = false := by simpa using k2
      cases zB
      · skip
        have HF := Lib.hid (show checkP ⟨kind, ses, seq, lim, ⟨rows, fin, cnt⟩⟩ = false from by unfold checkP; simp [← HZ.out])
        have HB := Lib.hid (Blk.new w 47 #[.int .i64 kind, .int .u32 ses, .int .u64 seq, .int .u64 lim, .slice A n c, .bool fin, .int .u64 cnt])
        have b1 := bl_al (Below.refl w.heap.size w) (.cells #[.int .i64 kind, .int .u32 ses, .int .u64 seq, .int .u64 lim, .slice A n c, .bool fin, .int .u64 cnt] 47)
        have HBB := Lib.hid b1
        clear b1
        have x0 : (w.alloc (.cells #[.int .i64 kind, .int .u32 ses, .int .u64 seq, .int .u64 lim, .slice A n c, .bool fin, .int .u64 cnt] 47)).cell? ⟨w.heap.size, 0, none⟩ = some (.int .i64 kind) := HB.out.cell 0
        have x1 : (w.alloc (.cells #[.int .i64 kind, .int .u32 ses, .int .u64 seq, .int .u64 lim, .slice A n c, .bool fin, .int .u64 cnt] 47)).cell? ⟨w.heap.size, 1, none⟩ = some (.int .u32 ses) := HB.out.cell 1
        have x2 : (w.alloc (.cells #[.int .i64 kind, .int .u32 ses, .int .u64 seq, .int .u64 lim, .slice A n c, .bool fin, .int .u64 cnt] 47)).cell? ⟨w.heap.size, 2, none⟩ = some (.int .u64 seq) := HB.out.cell 2
        have x3 : (w.alloc (.cells #[.int .i64 kind, .int .u32 ses, .int .u64 seq, .int .u64 lim, .slice A n c, .bool fin, .int .u64 cnt] 47)).cell? ⟨w.heap.size, 3, none⟩ = some (.int .u64 lim) := HB.out.cell 3
        have x4 : (w.alloc (.cells #[.int .i64 kind, .int .u32 ses, .int .u64 seq, .int .u64 lim, .slice A n c, .bool fin, .int .u64 cnt] 47)).cell? ⟨w.heap.size, 4, none⟩ = some (.slice A n c) := HB.out.cell 4
        have x5 : (w.alloc (.cells #[.int .i64 kind, .int .u32 ses, .int .u64 seq, .int .u64 lim, .slice A n c, .bool fin, .int .u64 cnt] 47)).cell? ⟨w.heap.size, 5, none⟩ = some (.bool fin) := HB.out.cell 5
        have x6 : (w.alloc (.cells #[.int .i64 kind, .int .u32 ses, .int .u64 seq, .int .u64 lim, .slice A n c, .bool fin, .int .u64 cnt] 47)).cell? ⟨w.heap.size, 6, none⟩ = some (.int .u64 cnt) := HB.out.cell 6
        go_enter Try.func27, Try.ntmps27
        go_wp2_with fail
        generalize w.alloc (.cells #[.int .i64 kind, .int .u32 ses, .int .u64 seq, .int .u64 lim, .slice A n c, .bool fin, .int .u64 cnt] 47) = w1 at *
        refine (HSS.out _).mono ?_
        rintro e w2 ⟨rfl, rfl⟩
        go_wp2
        go_ret
        exact ⟨ret_int (by rw [HRR.out, HF.out]; rfl), HBB.out⟩
      · skip
        have HF := Lib.hid (show checkP ⟨kind, ses, seq, lim, ⟨rows, fin, cnt⟩⟩ = false from by unfold checkP; simp [← HZ.out, k1, k2])
        have HB := Lib.hid (Blk.new w 47 #[.int .i64 kind, .int .u32 ses, .int .u64 seq, .int .u64 lim, .slice A n c, .bool fin, .int .u64 cnt])
        have b1 := bl_al (Below.refl w.heap.size w) (.cells #[.int .i64 kind, .int .u32 ses, .int .u64 seq, .int .u64 lim, .slice A n c, .bool fin, .int .u64 cnt] 47)
        have HBB := Lib.hid b1
        clear b1
        have x0 : (w.alloc (.cells #[.int .i64 kind, .int .u32 ses, .int .u64 seq, .int .u64 lim, .slice A n c, .bool fin, .int .u64 cnt] 47)).cell? ⟨w.heap.size, 0, none⟩ = some (.int .i64 kind) := HB.out.cell 0
        have x1 : (w.alloc (.cells #[.int .i64 kind, .int .u32 ses, .int .u64 seq, .int .u64 lim, .slice A n c, .bool fin, .int .u64 cnt] 47)).cell? ⟨w.heap.size, 1, none⟩ = some (.int .u32 ses) := HB.out.cell 1
        have x2 : (w.alloc (.cells #[.int .i64 kind, .int .u32 ses, .int .u64 seq, .int .u64 lim, .slice A n c, .bool fin, .int .u64 cnt] 47)).cell? ⟨w.heap.size, 2, none⟩ = some (.int .u64 seq) := HB.out.cell 2
        have x3 : (w.alloc (.cells #[.int .i64 kind, .int .u32 ses, .int .u64 seq, .int .u64 lim, .slice A n c, .bool fin, .int .u64 cnt] 47)).cell? ⟨w.heap.size, 3, none⟩ = some (.int .u64 lim) := HB.out.cell 3
        have x4 : (w.alloc (.cells #[.int .i64 kind, .int .u32 ses, .int .u64 seq, .int .u64 lim, .slice A n c, .bool fin, .int .u64 cnt] 47)).cell? ⟨w.heap.size, 4, none⟩ = some (.slice A n c) := HB.out.cell 4
        have x5 : (w.alloc (.cells #[.int .i64 kind, .int .u32 ses, .int .u64 seq, .int .u64 lim, .slice A n c, .bool fin, .int .u64 cnt] 47)).cell? ⟨w.heap.size, 5, none⟩ = some (.bool fin) := HB.out.cell 5
        have x6 : (w.alloc (.cells #[.int .i64 kind, .int .u32 ses, .int .u64 seq, .int .u64 lim, .slice A n c, .bool fin, .int .u64 cnt] 47)).cell? ⟨w.heap.size, 6, none⟩ = some (.int .u64 cnt) := HB.out.cell 6
        go_enter Try.func27, Try.ntmps27
        go_wp2_with fail
        generalize w.alloc (.cells #[.int .i64 kind, .int .u32 ses, .int .u64 seq, .int .u64 lim, .slice A n c, .bool fin, .int .u64 cnt] 47) = w1 at *
        refine (HSS.out _).mono ?_
        rintro e w2 ⟨rfl, rfl⟩
        go_wp2
        go_ret
        exact ⟨ret_int (by rw [HRR.out, HF.out]; rfl), HBB.out⟩
end Go.Proofs.Ytojghgbaiiajfaa
/- link.limit. Conditions: the receiver's numbers are in their range. -/
namespace Go.Proofs.Ytojghgbaiiajfaa
open Go.RowKit
def limR (r : RC) : Int := if r.next - 1 + (r.room - (r.buf.length : Int)) ≤ 1099511627776 then r.next - 1 + (r.room - (r.buf.length : Int)) else 1099511627776
set_option maxRecDepth 100000 in
set_option maxHeartbeats 4000000 in
theorem limit_any (r : RC) (A : Option Addr) (n c : Nat) (B : Option Addr) (m d : Nat) (w : World) (hm : r.buf.length = m) (h1 : 1 ≤ r.next) (h2 : r.next ≤ 2000000000000) (h3 : (m : Int) ≤ r.room) (h4 : r.room ≤ 8) :
    Calls Try.prog 70 #[.agg (r.cells A n c B m d)] w fun e w' => e = .returned (.int .u64 (limR r)) ∧ Below w.heap.size w w' := by
  obtain ⟨ses, next, ahead, buf, room, over⟩ := r
  dsimp only at *
  have b1 := bl_al (Below.refl w.heap.size w) (.cells (RC.cells ⟨ses, next, ahead, buf, room, over⟩ A n c B m d) 36)
  have HB := Lib.hid (Blk.new w 36 (RC.cells ⟨ses, next, ahead, buf, room, over⟩ A n c B m d))
  have HBB := Lib.hid b1
  have x1 : (w.alloc (.cells (RC.cells ⟨ses, next, ahead, buf, room, over⟩ A n c B m d) 36)).cell? ⟨w.heap.size, 1, none⟩ = some (.int .u64 next) := HB.out.cell 1
  have x3 : (w.alloc (.cells (RC.cells ⟨ses, next, ahead, buf, room, over⟩ A n c B m d) 36)).cell? ⟨w.heap.size, 3, none⟩ = some (.slice B m d) := HB.out.cell 3
  have x4 : (w.alloc (.cells (RC.cells ⟨ses, next, ahead, buf, room, over⟩ A n c B m d) 36)).cell? ⟨w.heap.size, 4, none⟩ = some (.int .i64 room) := HB.out.cell 4
  have HM := Lib.hid hm
  have e1 : IntKind.u64.wrap (next - 1) = next - 1 := u64_in (by omega) (by omega)
  have e2 : IntKind.i64.wrap (room - (m : Int)) = room - (m : Int) := by simp [IntKind.wrap, IntKind.signed, IntKind.bits]; omega
  have e3 : IntKind.u64.wrap (room - (m : Int)) = room - (m : Int) := u64_in (by omega) (by omega)
  have e4 : IntKind.u64.wrap (next - 1 + (room - (m : Int))) = next - 1 + (room - (m : Int)) := u64_in (by omega) (by omega)
  clear b1 hm
  go_enter Try.func70, Try.ntmps70
  go_wp2
  go_ret
  refine ⟨ret_int ?_, HBB.out⟩
  unfold limR
  rw [HM.out]
  simp only []
  split <;> omega
end Go.Proofs.Ytojghgbaiiajfaa
