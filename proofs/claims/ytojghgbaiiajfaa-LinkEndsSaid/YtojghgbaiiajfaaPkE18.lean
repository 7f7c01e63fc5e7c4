/- link.Tick. Conditions: the queue reads as these batches. -/
import Derived.Test.YtojghgbaiiajfaaPkE17
namespace Go.Proofs.Ytojghgbaiiajfaa
open Go.RowKit
theorem res3 {P : Program} {fn : Func} {p q r : Tmp} {ty : TypeId} (h : fn.results = #[.cell p ty, .tmp q, .tmp r]) {tmps : Array Value} {w : World} {g : Nat} {t : TypeId} {cs : Array Value} {d : TypeDesc} {v u : Value}
 (hp : tmps.getD p undef = .pointer (some ⟨g, 0, none⟩)) (hq : tmps.getD q undef = v) (hr : tmps.getD r undef = u) (hg : Blk w g t cs) (hu : P.underlying ty = some d) (hd : (match d with | .struct _ | .array _ _ => true | _ => false) = true) (hi : (P.info? ty).map (·.size) = some cs.size) :
 (results fn tmps).run P w = .ok (.tuple #[.agg cs, v, u]) w := by
 have hp' : tmps[p]?.getD undef = .pointer (some ⟨g, 0, none⟩) := by simpa using hp
 have hq' : tmps[q]?.getD undef = v := by simpa using hq
 have hr' : tmps[r]?.getD undef = u := by simpa using hr
 simp [results, h, hp', hq', hr', asAddr, run_loadVar_row w g t ty cs (0, 0) d hg hu hd hi]
theorem grow_after {w w1 w2 : World} {k : Nat} (q : Below w.heap.size w w1) (g : w1.grownBy w2 (some k)) : w.grownBy w2 (some k) :=
 ⟨g.os.trans q.os, g.tape.trans q.tape, g.output.trans q.output, Nat.le_trans q.size g.size, fun b hb hk => (g.block b (Nat.lt_of_lt_of_le hb q.size) hk).trans (q.block b hb)⟩
theorem SendsO.noY {Fr : Nat → Prop} {s : SC} {E : Int} {s2 : SC} {X : Nat → Prop} {Y : World → Prop} {w w' : World} {C : Array Value} {N : Int} (h : SendsO Fr s E s2 X Y w C N w') : SendsO Fr s E s2 X noY w C N w' := by
 unfold SendsO at *
 cases hs : sendB s
 · rw [hs] at h; exact h
 · rw [hs] at h; exact ⟨h.1, trivial, h.2.2⟩
/-- the packets that it tells -/
def TickO (Fr : Nat → Prop) (s : SC) (B : Nat) (PA : Option Addr) (pn pc : Nat) (w' : World) : Prop := if sendB s then LP7.own 47 w' B Fr PA pn pc (outP s) else PA = none ∧ pn = 0 ∧ pc = 0
theorem tick_told {Fr : Nat → Prop} {s : SC} {p : Nat} {w1 w4 : World} {C : Array Value} {N : Int} (h : SendsO Fr s 0 (tickR s) (fun k => k = p) (TickY p w1 Fr (outP s)) w1 C N w4) (hp : Blk w1 p 50 #[.slice none 0 0]) : ∃ PA pn pc, Blk w4 p 50 #[.slice PA pn pc] ∧ TickO Fr s (w1.heap.size + 2) PA pn pc w4 := by
 unfold SendsO at h
 unfold TickO
 cases hs : sendB s
 · rw [hs] at h
   exact ⟨none, 0, 0, hp.ca h.2.2, rfl, rfl, rfl⟩
 · rw [hs] at h
   obtain ⟨_, ⟨A, n, c, h1, h2⟩, _⟩ := h
   exact ⟨A, n, c, h1, h2⟩
theorem tickO_gr {Fr : Nat → Prop} {s : SC} {B B' b0 k : Nat} {PA : Option Addr} {pn pc : Nat} {w w' : World} (h : TickO Fr s B PA pn pc w) (g : w.grownBy w' (some k)) (hF : ∀ k, Fr k → k < b0) (h1 : b0 ≤ k) (h2 : k < B) (h3 : B' ≤ B) : TickO Fr s B' PA pn pc w' := by
 unfold TickO at *
 cases hs : sendB s
 · rw [hs] at h; exact h
 · rw [hs, if_pos rfl] at h
   rw [if_pos rfl]
   exact Lay.own_lessB (Lay.own_same h (fun j e => g.block j (Lay.own_base h j e).2 (fun e2 => by injection e2 with e2; have := (Lay.own_base h j e).1; omega)) (fun b hb _ hl => g.block b hl (fun e2 => by injection e2 with e2; have := hF b hb; omega))) h3
set_option maxRecDepth 100000 in
set_option maxHeartbeats 16000000 in
theorem tick_any (Fr : Nat → Prop) (s : SC) (A : Option Addr) (n c : Nat) (w : World) (hFr : ∀ k, Fr k → k < w.heap.size) (h : LB3.rd w Fr A n s.q) (hn : n ≤ 9223372036854775807) (h0 : 0 ≤ s.base) :
 Calls Try.prog 43 #[.agg (s.cells A n c)] w fun e w' => ∃ (t : SC) (A' : Option Addr) (n' c' : Nat) (N : Int) (PA : Option Addr) (pn pc : Nat), e = .returned (.tuple #[.agg (t.cells A' n' c'), .slice PA pn pc, .int .i64 N]) ∧ SendsO Fr s 0 (tickR s) noX noY w (t.cells A' n' c') N w' ∧ TickO Fr s w.heap.size PA pn pc w' := by
 have q1 := bl_al (Below.refl w.heap.size w) (.cells (s.cells A n c) 29)
 have q2 := bl_al (Below.refl (w.alloc (.cells (s.cells A n c) 29)).heap.size (w.alloc (.cells (s.cells A n c) 29))) (.cells (zeroS.cells none 0 0) 29)
 have q12 := bl_ca q1 q2
 have hsz2 : ((w.alloc (.cells (s.cells A n c) 29)).alloc (.cells (zeroS.cells none 0 0) 29)).heap.size = w.heap.size + 2 := by simp only [World.size_alloc]
 have HS2 := (Blk.new w 29 (s.cells A n c)).ca q2
 have HZ2 : Blk ((w.alloc (.cells (s.cells A n c) 29)).alloc (.cells (zeroS.cells none 0 0) 29)) (w.heap.size + 1) 29 (zeroS.cells none 0 0) := Blk.mk' (by simp only [World.size_alloc])
 generalize hw2 : (w.alloc (.cells (s.cells A n c) 29)).alloc (.cells (zeroS.cells none 0 0) 29) = w2 at *
 have q3 := bl_al (Below.refl w2.heap.size w2) (.cells #[.slice none 0 0] 50)
 have hp3 : Blk (w2.alloc (.cells #[.slice none 0 0] 50)) (w.heap.size + 2) 50 #[.slice none 0 0] := by rw [← hsz2]; exact Blk.new _ _ _
 have HB := Lib.hid (bl_ca q12 q3)
 have hsz : (w2.alloc (.cells #[.slice none 0 0] 50)).heap.size = w.heap.size + 3 := by simp only [World.size_alloc]; omega
 have HSE := Lib.hid (sends_any Fr s A n c 93 #[.pointer (some ⟨w.heap.size + 2, 0, none⟩)] 0 (tickR s) (fun k => k = w.heap.size + 2) (TickY (w.heap.size + 2) (w2.alloc (.cells #[.slice none 0 0] 50)) Fr (outP s)) _ (Lay.rd_below (Lay.rd_below h q12) q3) (fun k h => by have := hFr k h; omega) hn h0 (Go.Proofs.enters_of Try.func93 (by kernel_rfl) rfl)
  (tick1_do s (w.heap.size + 2) _ Fr (fun k h => by have := hFr k h; omega) (fun h => by have := hFr _ h; omega) hp3) (fun k h => by omega)
  (fun _ _ ⟨A, n, c, h1, h2⟩ g => ⟨A, n, c, h1.apart g (by omega), Lay.own_same h2 (fun j e => g.block j (Lay.own_base h2 j e).2 (fun e2 => by injection e2 with e2; have := (Lay.own_base h2 j e).1; omega)) (fun b hb _ hl => g.block b hl (fun e2 => by injection e2 with e2; have := hFr b hb; omega))⟩))
 have HS := Lib.hid (HS2.ca q3)
 have HZ := Lib.hid (HZ2.ca q3)
 have HP := Lib.hid hp3
 have HFR := Lib.hid hFr
 subst hw2
 clear h q1 q2 q12 q3 HS2 HZ2 hsz2 hp3 hFr
 go_enter Try.func43, Try.ntmps43
 go_wp2_with (refine wpList_load_blk rfl 29 (.tmp 1) rfl w.heap.size rfl 29 _ (s.cells A n c) HS.out rfl rfl senderI ?_)
 refine HSE.out.mono ?_
 clear HSE
 rintro e w4 h4
 obtain ⟨t, A1, n1, c1, N, rfl, ho⟩ := sends_o h4
 obtain ⟨PA, pn, pc, hp4, hpo⟩ := tick_told ho HP.out
 have HZ4 := Lib.hid (ho.blk HZ.out (fun h => by omega))
 have HO := Lib.hid ho
 have HPO := Lib.hid hpo
 have HP4 := Lib.hid hp4
 have hs4 : w.heap.size + 3 ≤ w4.heap.size := by
  have := hp4.lt
  have h := ho
  unfold SendsO at h
  split at h
  · have := h.1.size; omega
  · have := h.2.2.size; omega
 rw [hsz] at HPO
 clear h4 ho HS HZ HP hp4 hpo
 obtain ⟨t1, t2, tq, t4, t5, t6, t7⟩ := t
 go_wp2_with fail
 have q5 := bl_al (Below.refl w4.heap.size w4) (.cells #[.int .u32 t1, .int .u64 t2, .slice A1 n1 c1, .int .u64 t4, .int .u64 t5, .int .i64 t6, .bool t7] 29)
 have ht5 := Blk.new w4 29 #[.int .u32 t1, .int .u64 t2, .slice A1 n1 c1, .int .u64 t4, .int .u64 t5, .int .i64 t6, .bool t7]
 have HZ5 := Lib.hid (HZ4.out.ca q5)
 have HP5 := Lib.hid (HP4.out.ca q5)
 have hz5 := HZ5.out.lt
 have hp5 := HP5.out.lt
 obtain ⟨g6, hg6⟩ : ∃ g, g = w4.heap.size := ⟨_, rfl⟩
 rw [← hg6] at ht5 hs4 ⊢
 have HT5 := Lib.hid ht5
 generalize w4.alloc (.cells #[.int .u32 t1, .int .u64 t2, .slice A1 n1 c1, .int .u64 t4, .int .u64 t5, .int .i64 t6, .bool t7] 29) = w5 at *
 clear hg6 ht5 HZ4 HP4
 refine wp_region_ps (S := Seq1 3 (fun _ w' => Below w5.heap.size w5 w') (fun _ w' => ∃ w6, Below w5.heap.size w5 w6 ∧ Blk w' (w.heap.size + 1) 29 #[.int .u32 t1, .int .u64 t2, .slice A1 n1 c1, .int .u64 t4, .int .u64 t5, .int .i64 t6, .bool t7] ∧ w6.grownBy w' (some (w.heap.size + 1)))) (by kernel_rfl) ?spswq ?ppswq
 case spswq =>
  exact Seq1.start (by decide) (Below.refl _ _).drew
 refine Pz 0 (some 14) (.agg #[.int .u32 t1, .int .u64 t2, .slice A1 n1 c1, .int .u64 t4, .int .u64 t5, .int .i64 t6, .bool t7]) rfl rfl ?ywq_1 ?rwq_1
 case ywq_1 =>
  refine StepS.read [] (by kernel_rfl) (Seq1.pass (by decide)) (by rfl) (fun L9 m9 w9 hSh hAt hDn hS => ?_)
  have hT : Blk w9 g6 29 #[.int .u32 t1, .int .u64 t2, .slice A1 n1 c1, .int .u64 t4, .int .u64 t5, .int .i64 t6, .bool t7] := Seq1.any (T := fun w9 => Blk w9 g6 29 #[.int .u32 t1, .int .u64 t2, .slice A1 n1 c1, .int .u64 t4, .int .u64 t5, .int .i64 t6, .bool t7]) (fun _ _ h => HT5.out.ca h) (fun _ _ ⟨_, h1, _, h3⟩ => (HT5.out.ca h1).apart h3 (by omega)) hS
  have x0 : w9.cell? ⟨g6, 0, none⟩ = some (.int .u32 t1) := hT.cell 0
  have x1 : w9.cell? ⟨g6, 1, none⟩ = some (.int .u64 t2) := hT.cell 1
  have x2 : w9.cell? ⟨g6, 2, none⟩ = some (.slice A1 n1 c1) := hT.cell 2
  have x3 : w9.cell? ⟨g6, 3, none⟩ = some (.int .u64 t4) := hT.cell 3
  have x4 : w9.cell? ⟨g6, 4, none⟩ = some (.int .u64 t5) := hT.cell 4
  have x5 : w9.cell? ⟨g6, 5, none⟩ = some (.int .i64 t6) := hT.cell 5
  have x6 : w9.cell? ⟨g6, 6, none⟩ = some (.bool t7) := hT.cell 6
  clear hT hS
  go_simp
  try rfl
 try simp only [Act.put, sA, sZ, sS]
 refine Pz 1 (some 15) ?uwq_2 rfl rfl ?ywq_2 ?rwq_2
 case ywq_2 =>
  refine StepS.read [] (by kernel_rfl) (Seq1.pass (by decide)) (by rfl) (fun L9 m9 w9 hSh hAt hDn hS => ?_)
  have hT : Blk w9 (w.heap.size + 1 + 1) 50 #[.slice PA pn pc] := Seq1.any (T := fun w9 => Blk w9 (w.heap.size + 1 + 1) 50 #[.slice PA pn pc]) (fun _ _ h => HP5.out.ca h) (fun _ _ ⟨_, h1, _, h3⟩ => (HP5.out.ca h1).apart h3 (by omega)) hS
  have x0 : w9.cell? ⟨w.heap.size + 1 + 1, 0, none⟩ = some (.slice PA pn pc) := hT.cell 0
  clear hT hS
  go_simp
  try rfl
 try simp only [Act.put, sA, sZ, sS]
 refine Pz 2 (some 16) _ rfl rfl (StepS.pure (Seq1.pass (by decide)) rfl fun w9 => by go_simp; try rfl) ?_
 try simp only [Act.put, sA, sZ, sS]
 refine Pz 3 none undef rfl rfl ?ywq_4 ?rwq_4
 case ywq_4 =>
  refine StepS.store [] (by kernel_rfl) (by rfl) (fun L9 m9 w9 hSh hAt hDn hS => ?_)
  have hT := Seq1.at1 hDn hS
  refine (exec_store_blk (w := w9) 29 (.tmp 2) (.tmp 14) (by rfl) (w.heap.size + 1) 29 (zeroS.cells none 0 0) #[.int .u32 t1, .int .u64 t2, .slice A1 n1 c1, .int .u64 t4, .int .u64 t5, .int .i64 t6, .bool t7] (by rfl) (by rfl) (HZ5.out.ca hT) rfl senderI (by simp [Value.oneCell'])).imp fun w7 hx => ⟨hx.1, Seq1.set1 ⟨w9, hT, hx.2.1, hx.2.2⟩⟩
 try simp only [Act.put]
 refine Pz 4 (some 3) _ rfl rfl (StepS.pure (Seq1.pass (by decide)) rfl fun w9 => by go_simp; try rfl) ?_
 try simp only [Act.put, sA, sZ, sS]
 refine Pz 5 (some 4) _ rfl rfl (StepS.pure (Seq1.pass (by decide)) rfl fun w9 => by go_simp; try rfl) ?_
 try simp only [Act.put, sA, sZ, sS]
 refine Ps.done (by kernel_rfl) (fun wq hS => ?_) _
 obtain ⟨w6, hT, hZ, gz⟩ := Seq1.fin (by rfl) hS
 clear hS
 go_wp2
 refine bodyPost_ret (res3 Try.results43 rfl rfl rfl hZ Try.underlying29 rfl senderI) rfl ?_
 have gg := grow_after (bl_ca q5 hT) gz
 have hso := (HO.out.noY).out (X' := noX) HB.out gg (fun k h => by have := HFR.out k h; omega) (by omega) (by omega) (by omega) (fun b h hb => by exact absurd h (by omega)) (fun _ _ h _ => h)
 exact ⟨⟨t1, t2, tq, t4, t5, t6, t7⟩, A1, n1, c1, N, PA, pn, pc, rfl, hso, tickO_gr HPO.out gg HFR.out (by omega) (by omega) (by omega)⟩
end Go.Proofs.Ytojghgbaiiajfaa
/- link.Acked. Conditions: the queue and the packet's rows read so. -/
namespace Go.Proofs.Ytojghgbaiiajfaa
open Go.RowKit
set_option maxRecDepth 100000 in
set_option maxHeartbeats 16000000 in
theorem acked_any (Fr : Nat → Prop) (s : SC) (A : Option Addr) (n c : Nat) (pk : PK) (pA : Option Addr) (pn pc : Nat) (w : World) (hFr : ∀ k, Fr k → k < w.heap.size) (h : LB3.rd w Fr A n s.q) (hr : LR.rd w Fr pA pn pk.b.rows) (hn : n ≤ 9223372036854775807) (hpn : pn ≤ 9223372036854775807) (h0 : 0 ≤ s.base) :
 Calls Try.prog 30 #[.agg (s.cells A n c), .agg (pk.cells pA pn pc)] w fun e w' => ∃ (t : SC) (A' : Option Addr) (n' c' : Nat) (N : Int), e = .returned (.tuple #[.agg (t.cells A' n' c'), .int .i64 N]) ∧ SendsO Fr s 0 (ackedR s pk) noX noY w (t.cells A' n' c') N w' := by
 have q1 := bl_al (Below.refl w.heap.size w) (.cells (s.cells A n c) 29)
 have q2 := bl_al (Below.refl (w.alloc (.cells (s.cells A n c) 29)).heap.size (w.alloc (.cells (s.cells A n c) 29))) (.cells (pk.cells pA pn pc) 47)
 have q12 := bl_ca q1 q2
 have hsz2 : ((w.alloc (.cells (s.cells A n c) 29)).alloc (.cells (pk.cells pA pn pc) 47)).heap.size = w.heap.size + 2 := by simp only [World.size_alloc]
 have HS2 := (Blk.new w 29 (s.cells A n c)).ca q2
 have HP2 : Blk ((w.alloc (.cells (s.cells A n c) 29)).alloc (.cells (pk.cells pA pn pc) 47)) (w.heap.size + 1) 47 (pk.cells pA pn pc) := Blk.mk' (by simp only [World.size_alloc])
 generalize hw2 : (w.alloc (.cells (s.cells A n c) 29)).alloc (.cells (pk.cells pA pn pc) 47) = w2 at *
 have q3 := bl_al (Below.refl w2.heap.size w2) (.cells (zeroS.cells none 0 0) 29)
 have HZ := Lib.hid (show Blk (w2.alloc (.cells (zeroS.cells none 0 0) 29)) (w.heap.size + 2) 29 (zeroS.cells none 0 0) from by rw [← hsz2]; exact Blk.new _ _ _)
 have HB := Lib.hid (bl_ca q12 q3)
 have hsz : (w2.alloc (.cells (zeroS.cells none 0 0) 29)).heap.size = w.heap.size + 3 := by simp only [World.size_alloc]; omega
 have HSE := Lib.hid (sends_any Fr s A n c 82 #[.pointer (some ⟨w.heap.size + 1, 0, none⟩)] 0 (ackedR s pk) noX noY _ (Lay.rd_below (Lay.rd_below h q12) q3) (fun k h => by have := hFr k h; omega) hn h0 (Go.Proofs.enters_of Try.func82 (by kernel_rfl) rfl)
  (acked1_do s pk (w.heap.size + 1) pA pn pc _ Fr (fun k h => by have := hFr k h; omega) (HP2.ca q3) (Lay.rd_below (Lay.rd_below hr q12) q3) hpn) (fun k h => h.elim) (fun _ _ h _ => h))
 have HS := Lib.hid (HS2.ca q3)
 subst hw2
 clear h hr q1 q2 q12 q3 HS2 HP2 hsz2
 go_enter Try.func30, Try.ntmps30
 go_wp2_with (refine wpList_load_blk rfl 29 (.tmp 2) rfl w.heap.size rfl 29 _ (s.cells A n c) HS.out rfl rfl senderI ?_)
 refine HSE.out.mono ?_
 clear HSE
 rintro e w4 h4
 obtain ⟨t, A', n', c', N, rfl, ho⟩ := sends_o h4
 have HZ4 := Lib.hid (ho.blk HZ.out (fun h => h))
 have HO := Lib.hid ho
 clear h4 ho HS HZ
 go_wp2_with (refine wpList_store_blk rfl 29 (.tmp 4) (.tmp 9) rfl (w.heap.size + 2) 29 _ (t.cells A' n' c') rfl rfl HZ4.out rfl senderI (by obtain ⟨s1, s2, s3, s4, s5, s6, s7⟩ := t; simp [Value.oneCell', SC.cells]) ?_; intro wz hZ gz)
 exact bodyPost_ret (res2 Try.results30 rfl rfl hZ Try.underlying29 rfl senderI) rfl ⟨t, A', n', c', N, rfl, HO.out.out HB.out gz (fun k h => by have := hFr k h; omega) (by omega) (by omega) (by omega) (fun b h _ => h.elim) (fun _ _ h _ => h)⟩
end Go.Proofs.Ytojghgbaiiajfaa
/- link.Close$1, link.Close. Conditions: the queue reads as these batches. -/
namespace Go.Proofs.Ytojghgbaiiajfaa
open Go.RowKit
def lastB (s : SC) : BC := ⟨[], true, s.base - 1 + (s.q.length : Int)⟩
theorem LR_nil (w : World) (F : Nat → Prop) : LR.rd w F none 0 [] := Lay.rd_nil _
set_option maxRecDepth 100000 in
set_option maxHeartbeats 16000000 in
theorem close1_do (s : SC) (w0 : World) (Fr : Nat → Prop) (hFr : ∀ k, Fr k → k < w0.heap.size) : DoS 91 #[] w0 Fr s (putE s) (putR s (lastB s)) noX noY := by
 intro hok w g B A n c hB hg hgB hBs hN ho
 have hlen := sendB_len hok
 have HL := Lay.own_len ho
 have HO := Lib.hid ho
 have HN := Lib.hid hN
 obtain ⟨E, hE⟩ : ∃ E, E = putE s := ⟨_, rfl⟩
 have HLA := Lib.hid (last_any s A n c w hlen.2.1 (by omega) (by omega))
 have HPU := fun (w3 : World) (q3 : Below w.heap.size w w3) => puts_any s g A n c B (lastB s) none 0 0 (fun k => k < w3.heap.size ∧ (Fr k ∨ B ≤ k)) w3 (HN.out.ca q3)
  (Lay.own_weak (fun k hk hl => ⟨hl, .inl hk⟩) (Lay.own_below HO.out q3)) hgB (by have := q3.size; omega) (fun k h => h.1) (fun k h => by rintro rfl; exact h.2.elim (fun h => by have := hFr _ h; omega) (fun h => by omega))
  (LR_nil _ _) (Nat.le_refl _) (by omega) hlen.2.1 (by omega) (by omega)
 have HPU := Lib.hid HPU
 rw [← hE] at HPU ⊢
 have HLB := Lib.hid (show (lastB s).cells none 0 0 = #[.slice none 0 0, .bool true, .int .u64 (s.base - 1 + (n : Int))] from by unfold lastB; rw [HL])
 clear ho hN hE hok HL HO hFr
 show Calls Try.prog 91 #[.pointer (some ⟨g, 0, none⟩)] w _
 have x0 : w.cell? ⟨g, 0, none⟩ = some (.int .u32 s.ses) := HN.out.cell 0
 have x1 : w.cell? ⟨g, 1, none⟩ = some (.int .u64 s.base) := HN.out.cell 1
 have x2 : w.cell? ⟨g, 2, none⟩ = some (.slice A n c) := HN.out.cell 2
 have x3 : w.cell? ⟨g, 3, none⟩ = some (.int .u64 s.sent) := HN.out.cell 3
 have x4 : w.cell? ⟨g, 4, none⟩ = some (.int .u64 s.lim) := HN.out.cell 4
 have x5 : w.cell? ⟨g, 5, none⟩ = some (.int .i64 s.timer) := HN.out.cell 5
 have x6 : w.cell? ⟨g, 6, none⟩ = some (.bool s.ended) := HN.out.cell 6
 go_enter Try.func91, Try.ntmps91
 go_wp2_with fail
 refine HLA.out.mono ?_
 clear HLA
 rintro e w2 ⟨rfl, q2⟩
 have HP := Lib.hid (HPU.out w2 q2)
 rw [HLB.out] at HP
 have HQ := Lib.hid q2
 clear HPU q2 HN x0 x1 x2 x3 x4 x5 x6
 go_wp2_with fail
 refine HP.out.mono ?_
 clear HP
 rintro e w4 hpc
 rcases hpc with ⟨hE, rfl, q4⟩ | ⟨hE, rfl, A2, c2, hb4, ho4, hc4⟩
 · have HB4 := Lib.hid (bl_ca HQ.out q4)
   have HEN := Lib.hid hE
   clear hE q4
   go_wp2
   go_ret
   exact ⟨rfl, Chg.of_below HB4.out, trivial, fun h => absurd h HEN.out⟩
 · have HC4 := Lib.hid hc4
   have HB4 := Lib.hid hb4
   have HO4 := Lib.hid ho4
   have HEN := Lib.hid hE
   clear hE hc4 hb4 ho4
   go_wp2
   go_ret
   refine ⟨by rw [HEN.out]; rfl, (Chg.of_below HQ.out).trans (HC4.out.weak (fun b _ h => ?_)), trivial, fun _ => ⟨A2, n + 1, c2, HB4.out, Lay.own_weak (fun k hk _ => ⟨Nat.lt_of_lt_of_le hk.1 HC4.out.size, hk.2⟩) HO4.out⟩⟩
   rcases h with h | h
   · exact .inl h
   · exact .inr (.inl h)
set_option maxRecDepth 100000 in
set_option maxHeartbeats 16000000 in
theorem close_any (Fr : Nat → Prop) (s : SC) (A : Option Addr) (n c : Nat) (w : World) (hFr : ∀ k, Fr k → k < w.heap.size) (h : LB3.rd w Fr A n s.q) (hn : n ≤ 9223372036854775807) (h0 : 0 ≤ s.base) :
 Calls Try.prog 42 #[.agg (s.cells A n c)] w fun e w' => ∃ (t : SC) (A' : Option Addr) (n' c' : Nat) (N : Int), e = .returned (.tuple #[.agg (t.cells A' n' c'), .int .i64 N]) ∧ SendsO Fr s (putE s) (putR s (lastB s)) noX noY w (t.cells A' n' c') N w' := by
 have q1 := bl_al (Below.refl w.heap.size w) (.cells (s.cells A n c) 29)
 have q2 := bl_al (Below.refl (w.alloc (.cells (s.cells A n c) 29)).heap.size (w.alloc (.cells (s.cells A n c) 29))) (.cells (zeroS.cells none 0 0) 29)
 have HB := Lib.hid (bl_ca q1 q2)
 have HS := Lib.hid ((Blk.new w 29 (s.cells A n c)).ca q2)
 have HZ := Lib.hid (show Blk ((w.alloc (.cells (s.cells A n c) 29)).alloc (.cells (zeroS.cells none 0 0) 29)) (w.heap.size + 1) 29 (zeroS.cells none 0 0) from Blk.mk' (by simp only [World.size_alloc]))
 have hsz : ((w.alloc (.cells (s.cells A n c) 29)).alloc (.cells (zeroS.cells none 0 0) 29)).heap.size = w.heap.size + 2 := by simp only [World.size_alloc]
 have HSE := Lib.hid (sends_any Fr s A n c 91 #[] (putE s) (putR s (lastB s)) noX noY _ (Lay.rd_below (Lay.rd_below h q1) q2) (fun k h => by have := hFr k h; omega) hn h0 (Go.Proofs.enters_of Try.func91 (by kernel_rfl) rfl)
  (close1_do s _ Fr (fun k h => by have := hFr k h; omega)) (fun k h => h.elim) (fun _ _ h _ => h))
 clear h q1 q2
 go_enter Try.func42, Try.ntmps42
 go_wp2_with (refine wpList_load_blk rfl 29 (.tmp 1) rfl w.heap.size rfl 29 _ (s.cells A n c) HS.out rfl rfl senderI ?_)
 refine HSE.out.mono ?_
 clear HSE
 rintro e w4 h4
 obtain ⟨t, A', n', c', N, rfl, ho⟩ := sends_o h4
 have HZ4 := Lib.hid (ho.blk HZ.out (fun h => h))
 have HO := Lib.hid ho
 clear h4 ho HS HZ
 go_wp2_with (refine wpList_store_blk rfl 29 (.tmp 2) (.tmp 6) rfl (w.heap.size + 1) 29 _ (t.cells A' n' c') rfl rfl HZ4.out rfl senderI (by obtain ⟨s1, s2, s3, s4, s5, s6, s7⟩ := t; simp [Value.oneCell', SC.cells]) ?_; intro wz hZ gz)
 exact bodyPost_ret (res2 Try.results42 rfl rfl hZ Try.underlying29 rfl senderI) rfl ⟨t, A', n', c', N, rfl, HO.out.out HB.out gz (fun k h => by have := hFr k h; omega) (by omega) (by omega) (by omega) (fun b h _ => h.elim) (fun _ _ h _ => h)⟩
end Go.Proofs.Ytojghgbaiiajfaa
/- The safety of the link, in plain Lean: what is put, sent, heard and taken keeps one invariant (LinkSafe's mathematics). Conditions: none. -/
namespace Go.Proofs.Ytojghgbaiiajfaa
open Go.RowKit
/-! ### rows of batches -/
theorem inRow_iff : ∀ (l : List BC) (n : Int), inRowB l n = true ↔ ∀ (i : Nat) (b : BC), l[i]? = some b → batchB b (n + (i : Int)) = true ∧ (b.fin = true → i + 1 = l.length)
 | [], n => by simp [inRowB]
 | x :: l, n => by
  have ih := inRow_iff l (n + 1)
  unfold inRowB
  simp only [Bool.and_eq_true, Bool.or_eq_true, Bool.not_eq_true', List.isEmpty_iff, ih]
  constructor
  · rintro ⟨⟨h1, h2⟩, h3⟩ i b hb
    cases i with
    | zero =>
     simp only [List.getElem?_cons_zero, Option.some.injEq] at hb
     subst hb
     refine ⟨by simpa using h1, fun hf => ?_⟩
     rcases h2 with h2 | h2
     · rw [h2] at hf; cases hf
     · subst h2; rfl
    | succ i =>
     obtain ⟨h4, h5⟩ := h3 i b (by simpa using hb)
     refine ⟨by rw [show n + ((i + 1 : Nat) : Int) = n + 1 + (i : Int) by omega]; exact h4, fun hf => ?_⟩
     have := h5 hf
     simp only [List.length_cons]; omega
  · intro h
    refine ⟨⟨by simpa using (h 0 x rfl).1, ?_⟩, fun i b hb => ?_⟩
    · cases hf : x.fin with
      | false => exact .inl rfl
      | true =>
       have := (h 0 x rfl).2 hf
       simp only [List.length_cons] at this
       exact .inr (List.eq_nil_of_length_eq_zero (by omega))
    · obtain ⟨h4, h5⟩ := h (i + 1) b (by simpa using hb)
      refine ⟨by rw [show n + 1 + (i : Int) = n + ((i + 1 : Nat) : Int) by omega]; exact h4, fun hf => ?_⟩
      have := h5 hf
      simp only [List.length_cons] at this; omega
theorem ends_iff (l : List BC) : endsB l = true ↔ ∃ b, l[l.length - 1]? = some b ∧ b.fin = true := by
 unfold endsB
 cases h : l[l.length - 1]? with
 | none => simp
 | some b => simp
theorem ends_snoc (l : List BC) (b : BC) : endsB (l ++ [b]) = b.fin := by
 unfold endsB
 rw [List.length_append, List.length_singleton, Nat.add_sub_cancel, List.getElem?_append_right (Nat.le_refl _), Nat.sub_self]
 rfl
theorem ends_app (l m : List BC) (h : m ≠ []) : endsB (l ++ m) = endsB m := by
 have hm : 0 < m.length := List.length_pos_iff.2 h
 unfold endsB
 rw [List.length_append, List.getElem?_append_right (by omega), show l.length + m.length - 1 - l.length = m.length - 1 by omega]
/-- batches that were put -/
def PutP (put : List BC) : Prop := ∀ (i : Nat) (b : BC), put[i]? = some b → batchB b ((i : Int) + 1) = true ∧ (b.fin = true → i + 1 = put.length)
def AtP (put : List BC) (seq : Int) (b : BC) : Prop := ∃ k : Nat, seq = (k : Int) + 1 ∧ put[k]? = some b
theorem AtP.app {put : List BC} {seq : Int} {b : BC} (h : AtP put seq b) (m : List BC) : AtP (put ++ m) seq b := by
 obtain ⟨k, e, hk⟩ := h
 exact ⟨k, e, by rw [List.getElem?_append_left (List.getElem?_eq_some_iff.1 hk).1]; exact hk⟩
theorem AtP.le {put : List BC} {seq : Int} {b : BC} (h : AtP put seq b) : 1 ≤ seq ∧ seq ≤ (put.length : Int) := by
 obtain ⟨k, e, hk⟩ := h
 have := (List.getElem?_eq_some_iff.1 hk).1
 omega
/-- a stretch of what was put may stand in a row -/
theorem PutP.row {put : List BC} (h : PutP put) (B N : Nat) (hN : N ≤ put.length) (_hB : B ≤ N) : inRowB ((put.take N).drop B) ((B : Int) + 1) = true := by
 rw [inRow_iff]
 intro i b hb
 rw [List.getElem?_drop, List.getElem?_take] at hb
 split at hb
 · next hlt =>
   obtain ⟨h1, h2⟩ := h _ b hb
   refine ⟨by rw [show (B : Int) + 1 + (i : Int) = ((B + i : Nat) : Int) + 1 by omega]; exact h1, fun hf => ?_⟩
   have := h2 hf
   rw [List.length_drop, List.length_take]; omega
 · cases hb
theorem PutP.snoc {put : List BC} (h : PutP put) (he : endsB put = false) {b : BC} (hb : batchB b ((put.length : Int) + 1) = true) : PutP (put ++ [b]) := by
 intro i c hc
 rcases Nat.lt_trichotomy i put.length with h1 | h1 | h1
 · rw [List.getElem?_append_left h1] at hc
   obtain ⟨h2, h3⟩ := h i c hc
   refine ⟨h2, fun hf => ?_⟩
   have h4 := h3 hf
   have : endsB put = true := (ends_iff put).2 ⟨c, by rw [show put.length - 1 = i by omega]; exact hc, hf⟩
   rw [he] at this; cases this
 · subst h1
   rw [List.getElem?_append_right (Nat.le_refl _), Nat.sub_self] at hc
   simp only [List.getElem?_cons_zero, Option.some.injEq] at hc
   subst hc
   exact ⟨hb, fun _ => by simp⟩
 · rw [List.getElem?_eq_none (by simp; omega)] at hc; cases hc
/-- a batch with an end is the last one put -/
theorem PutP.fin {put : List BC} (h : PutP put) {seq : Int} {b : BC} (ha : AtP put seq b) (hf : b.fin = true) : seq = (put.length : Int) := by
 obtain ⟨k, e, hk⟩ := ha
 have := (h k b hk).2 hf
 omega
theorem PutP.ok {put : List BC} (h : PutP put) {seq : Int} {b : BC} (ha : AtP put seq b) : batchB b seq = true := by
 obtain ⟨k, e, hk⟩ := ha
 rw [e]; exact (h k b hk).1
theorem batch_le {b : BC} {seq : Int} (h : batchB b seq = true) : 1 ≤ seq ∧ seq ≤ 1099511627776 := by
 unfold batchB at h
 simp only [Bool.and_eq_true, decide_eq_true_eq] at h
 exact h.1
/-! ### a sender that may be -/
structure SP (s : SC) : Prop where
 ses : sesB s.ses = true
 b1 : 1 ≤ s.base
 b2 : s.base ≤ 1099511627776
 ln : (s.q.length : Int) ≤ 8
 row : inRowB s.q s.base = true
 nd : s.ended = true ∨ endsB s.q = false
 s1 : s.base - 1 ≤ s.sent
 s2 : s.sent ≤ s.base - 1 + (s.q.length : Int)
 l1 : s.sent ≤ s.lim
 l2 : s.lim ≤ 1099511627776
 t1 : 0 ≤ s.timer
 t2 : s.timer < 3
 t3 : s.timer ≤ 0 ∨ s.base ≤ s.sent
theorem sp_iff (s : SC) : sendB s = true ↔ SP s := by
 unfold sendB sendA sendM sendT
 simp only [Bool.and_eq_true, Bool.or_eq_true, decide_eq_true_eq, Bool.not_eq_true']
 constructor
 · rintro ⟨⟨⟨⟨⟨⟨h1, h2⟩, h3⟩, h4⟩, h5⟩, ⟨⟨⟨⟨h6, h7⟩, h8⟩, h9⟩, h10⟩⟩, ⟨⟨h11, h12⟩, h13⟩⟩
   exact ⟨h1, h2, h3, h4, h5, h6, h7, h8, h9, h10, h11, h12, h13⟩
 · rintro ⟨h1, h2, h3, h4, h5, h6, h7, h8, h9, h10, h11, h12, h13⟩
   exact ⟨⟨⟨⟨⟨⟨h1, h2⟩, h3⟩, h4⟩, h5⟩, ⟨⟨⟨⟨h6, h7⟩, h8⟩, h9⟩, h10⟩⟩, ⟨⟨h11, h12⟩, h13⟩⟩
/-! ### a receiver that may be -/
theorem ahead_iff (lim : Int) : ∀ (l : List HC) (a : Int), aheadB lim a l = true ↔ (∀ h ∈ l, a < h.seq ∧ h.seq ≤ lim ∧ batchB h.b h.seq = true) ∧ (∀ (i j : Nat) (h k : HC), i < j → l[i]? = some h → l[j]? = some k → h.seq < k.seq ∧ h.b.fin = false)
 | [], a => by simp [aheadB]
 | x :: l, a => by
  have ih := ahead_iff lim l x.seq
  unfold aheadB
  simp only [Bool.and_eq_true, Bool.or_eq_true, decide_eq_true_eq, Bool.not_eq_true', List.isEmpty_iff, ih]
  constructor
  · rintro ⟨h1, h2, h3, h4, h5, h6⟩
    refine ⟨fun h hm => ?_, fun i j h k hij hh hk => ?_⟩
    · rcases List.mem_cons.1 hm with rfl | hm
      · exact ⟨h1, h2, h3⟩
      · obtain ⟨a1, a2, a3⟩ := h5 h hm
        exact ⟨by omega, a2, a3⟩
    · cases j with
      | zero => omega
      | succ j =>
       cases i with
       | zero =>
        simp only [List.getElem?_cons_zero, Option.some.injEq] at hh
        subst hh
        have hkm := List.mem_of_getElem? (show l[j]? = some k by simpa using hk)
        refine ⟨(h5 k hkm).1, ?_⟩
        rcases h4 with h4 | h4
        · exact h4
        · subst h4; cases hkm
       | succ i => exact h6 i j h k (by omega) (by simpa using hh) (by simpa using hk)
  · rintro ⟨h1, h2⟩
    obtain ⟨a1, a2, a3⟩ := h1 x List.mem_cons_self
    refine ⟨a1, a2, a3, ?_, fun h hm => ?_, fun i j h k hij hh hk => h2 (i + 1) (j + 1) h k (by omega) (by simpa using hh) (by simpa using hk)⟩
    · cases l with
      | nil => exact .inr rfl
      | cons y l => exact .inl (h2 0 1 x y (by omega) rfl rfl).2
    · obtain ⟨j, hj⟩ := List.getElem?_of_mem hm
      obtain ⟨b1, b2, b3⟩ := h1 h (List.mem_cons_of_mem _ hm)
      exact ⟨(h2 0 (j + 1) x h (by omega) rfl (by simpa using hj)).1, b2, b3⟩
structure RP (r : RC) : Prop where
 ses : sesB r.ses = true
 m1 : 1 ≤ r.room
 m2 : r.room ≤ 8
 n1 : 1 ≤ r.next
 n2 : r.next ≤ 1099511627777
 ln : (r.buf.length : Int) ≤ r.room
 lt : (r.buf.length : Int) < r.next
 row : inRowB r.buf (r.next - (r.buf.length : Int)) = true
 ed : r.ahead = [] ∨ endsB r.buf = false
 ov : r.over = true → r.buf = [] ∧ r.ahead = [] ∧ 2 ≤ r.next
 ah : aheadB (limR r) r.next r.ahead = true
theorem rp_iff (r : RC) : recB r = true ↔ RP r := by
 unfold recB recA recM recT
 simp only [Bool.and_eq_true, Bool.or_eq_true, decide_eq_true_eq, Bool.not_eq_true', List.length_eq_zero_iff]
 constructor
 · rintro ⟨⟨h1, h2, h3, h4, h5, h6, h7⟩, ⟨h8, h9⟩, h10, h11⟩
   refine ⟨h1, h2, h3, h4, h5, h6, h7, h8, h9, fun ho => ?_, h11⟩
   rcases h10 with h10 | h10
   · rw [h10] at ho; cases ho
   · exact h10
 · rintro ⟨h1, h2, h3, h4, h5, h6, h7, h8, h9, h10, h11⟩
   refine ⟨⟨h1, h2, h3, h4, h5, h6, h7⟩, ⟨h8, h9⟩, ?_, h11⟩
   cases ho : r.over with
   | false => exact .inl rfl
   | true => exact .inr (h10 ho)
/-! ### the invariant -/
def WayP (σ room : Int) (nx : Int) (tk : Nat) (put : List BC) (p : PK) : Prop :=
 p.ses = σ ∧ ((p.kind = 1 ∧ AtP put p.seq p.b) ∨ (p.kind = 2 ∧ p.seq ≤ nx ∧ p.lim ≤ (tk : Int) + room))
structure SInv (σ room : Int) (s : SC) (r : RC) (way : List PK) (put taken : List BC) : Prop where
 ss : s.ses = σ
 rs : r.ses = σ
 rm : r.room = room
 pt : PutP put
 B : ∃ B : Nat, s.base = (B : Int) + 1 ∧ s.q = put.drop B ∧ B ≤ put.length
 N : ∃ N : Nat, r.next = (N : Int) + 1 ∧ taken ++ r.buf = put.take N ∧ N ≤ put.length
 bn : s.base ≤ r.next
 ed : s.ended = endsB put
 sb : SP s
 rb : RP r
 ov : r.over = endsB taken
 ah : ∀ h ∈ r.ahead, AtP put h.seq h.b
 lm : s.lim ≤ (taken.length : Int) + room
 wy : ∀ p ∈ way, WayP σ room r.next taken.length put p
section
variable {σ room : Int} {s : SC} {r : RC} {way : List PK} {put taken : List BC}
theorem WayP.mono {nx nx' : Int} {tk tk' : Nat} {put' : List BC} {p : PK} (h : WayP σ room nx tk put p) (h1 : nx ≤ nx') (h2 : tk ≤ tk') (h3 : ∃ m, put' = put ++ m) : WayP σ room nx' tk' put' p := by
 obtain ⟨m, rfl⟩ := h3
 refine ⟨h.1, ?_⟩
 rcases h.2 with ⟨a, b⟩ | ⟨a, b, c⟩
 · exact .inl ⟨a, b.app m⟩
 · exact .inr ⟨a, by omega, by omega⟩
/-- of what is under way a part is left -/
theorem SInv.less (h : SInv σ room s r way put taken) {way' : List PK} (hw : ∀ p ∈ way', p ∈ way) : SInv σ room s r way' put taken :=
 { h with wy := fun p hp => h.wy p (hw p hp) }
theorem SInv.more (h : SInv σ room s r way put taken) {l : List PK} (hw : ∀ p ∈ l, WayP σ room r.next taken.length put p) : SInv σ room s r (way ++ l) put taken :=
 { h with wy := fun p hp => (List.mem_append.1 hp).elim (h.wy p) (hw p) }
/-- something is put -/
theorem SInv.puts (h : SInv σ room s r way put taken) {b : BC} (hE : putE s = 0) (hb : batchB b ((put.length : Int) + 1) = true) : SInv σ room (putR s b) r way (put ++ [b]) taken := by
 unfold putE at hE
 split at hE
 · cases hE
 · next he =>
   split at hE
   · cases hE
   · next hl =>
     have hed : endsB put = false := by rw [← h.ed]; simpa using he
     obtain ⟨B, hB, hq, hBl⟩ := h.B
     obtain ⟨N, hN, hr, hNl⟩ := h.N
     have hP := h.pt.snoc hed hb
     have hql : s.q.length = put.length - B := by rw [hq, List.length_drop]
     have hq' : s.q ++ [b] = (put ++ [b]).drop B := by rw [hq, List.drop_append_of_le_length hBl]
     have hs := h.sb
     refine { ss := h.ss, rs := h.rs, rm := h.rm, pt := hP, B := ⟨B, hB, hq', by rw [List.length_append]; omega⟩, N := ⟨N, hN, by rw [List.take_append_of_le_length hNl]; exact hr, by rw [List.length_append]; omega⟩, bn := h.bn, ed := by rw [ends_snoc]; rfl, sb := ?_, rb := h.rb, ov := h.ov, ah := fun x hx => (h.ah x hx).app _, lm := h.lm, wy := fun p hp => (h.wy p hp).mono (Int.le_refl _) (Nat.le_refl _) ⟨_, rfl⟩ }
     refine ⟨hs.ses, hs.b1, hs.b2, ?_, ?_, ?_, hs.s1, ?_, hs.l1, hs.l2, hs.t1, hs.t2, hs.t3⟩
     · show ((s.q ++ [b]).length : Int) ≤ 8
       have := hs.ln
       rw [List.length_append, List.length_singleton]; omega
     · show inRowB (s.q ++ [b]) s.base = true
       rw [hq', hB]
       have := hP.row B (put ++ [b]).length (Nat.le_refl _) (by rw [List.length_append]; omega)
       rwa [List.take_length] at this
     · show b.fin = true ∨ endsB (s.q ++ [b]) = false
       rw [ends_snoc]
       cases b.fin
       · exact .inr rfl
       · exact .inl rfl
     · show s.sent ≤ s.base - 1 + ((s.q ++ [b]).length : Int)
       have := hs.s2
       rw [List.length_append, List.length_singleton]; omega
theorem SInv.rows_ok (h : SInv σ room s r way put taken) {l : List (List VV)} (hE : put1E s l = 0) : SInv σ room (putR s ⟨l, false, 0⟩) r way (put ++ [⟨l, false, 0⟩]) taken := by
 unfold put1E at hE
 split at hE
 · next hr =>
   obtain ⟨B, hB, hq, hBl⟩ := h.B
   have hql : s.q.length = put.length - B := by rw [hq, List.length_drop]
   refine h.puts hE ?_
   unfold putE at hE
   split at hE
   · cases hE
   · split at hE
     · cases hE
     · next hl =>
       unfold batchB
       simp only [Bool.and_eq_true, decide_eq_true_eq]
       exact ⟨⟨by omega, by omega⟩, by simp [hr]⟩
 · cases hE
theorem SInv.end_ok (h : SInv σ room s r way put taken) (hE : putE s = 0) : SInv σ room (putR s (lastB s)) r way (put ++ [⟨[], true, (put.length : Int)⟩]) taken := by
 obtain ⟨B, hB, hq, hBl⟩ := h.B
 have hql : s.q.length = put.length - B := by rw [hq, List.length_drop]
 have e : lastB s = ⟨[], true, (put.length : Int)⟩ := by
  unfold lastB
  rw [hB, hql, show (B : Int) + 1 - 1 + ((put.length - B : Nat) : Int) = (put.length : Int) by omega]
 rw [e]
 refine h.puts hE ?_
 unfold putE at hE
 split at hE
 · cases hE
 · split at hE
   · cases hE
   · next hl =>
     unfold batchB
     simp only [Bool.and_eq_true, decide_eq_true_eq]
     exact ⟨⟨by omega, by omega⟩, by simp⟩
/-! ### a tick -/
theorem data_mem {ses lim above : Int} : ∀ {l : List BC} {n : Int} {p : PK}, p ∈ dataP ses lim above n l → p.kind = 1 ∧ p.ses = ses ∧ p.seq ≤ lim ∧ ∃ i : Nat, p.seq = n + (i : Int) ∧ l[i]? = some p.b
 | [], _, p, h => by cases h
 | x :: l, n, p, h => by
  unfold dataP at h
  split at h
  · cases h
  · next hn =>
    rcases List.mem_append.1 h with h | h
    · split at h
      · obtain rfl := List.mem_singleton.1 h
        exact ⟨rfl, rfl, by show n ≤ lim; omega, 0, by show n = n + ((0 : Nat) : Int); omega, rfl⟩
      · cases h
    · obtain ⟨h1, h2, h3, i, h4, h5⟩ := data_mem h
      exact ⟨h1, h2, h3, i + 1, by omega, by simpa using h5⟩
theorem SInv.out (h : SInv σ room s r way put taken) : ∀ p ∈ outP s, p.ses = σ ∧ p.kind = 1 ∧ AtP put p.seq p.b ∧ p.seq ≤ s.lim ∧ s.base ≤ p.seq := by
 intro p hp
 obtain ⟨h1, h2, h3, i, h4, h5⟩ := data_mem hp
 obtain ⟨B, hB, hq, hBl⟩ := h.B
 refine ⟨by rw [h2, h.ss], h1, ⟨B + i, by omega, ?_⟩, h3, by omega⟩
 rw [hq, List.getElem?_drop] at h5
 exact h5
theorem SInv.tick (h : SInv σ room s r way put taken) : SInv σ room (tickR s) r (way ++ outP s) put taken := by
 have hs := h.sb
 obtain ⟨B, hB, hq, hBl⟩ := h.B
 have hql : s.q.length = put.length - B := by rw [hq, List.length_drop]
 have hsent : s.sent ≤ sentS s ∧ sentS s ≤ s.base - 1 + (s.q.length : Int) ∧ sentS s ≤ s.lim := by
  unfold sentS
  cases hl : (outP s).getLast? with
  | none => exact ⟨Int.le_refl _, hs.s2, hs.l1⟩
  | some x =>
   obtain ⟨_, _, h3, h4, _⟩ := h.out x (List.mem_of_getLast? hl)
   have := h3.le
   have h1 := hs.s2
   have h2 := hs.l1
   show s.sent ≤ max s.sent x.seq ∧ max s.sent x.seq ≤ s.base - 1 + (s.q.length : Int) ∧ max s.sent x.seq ≤ s.lim
   omega
 have key : SInv σ room (tickR s) r way put taken := by
  refine { ss := h.ss, rs := h.rs, rm := h.rm, pt := h.pt, B := ⟨B, hB, hq, hBl⟩, N := h.N, bn := h.bn, ed := h.ed, sb := ?_, rb := h.rb, ov := h.ov, ah := h.ah, lm := h.lm, wy := h.wy }
  refine ⟨hs.ses, hs.b1, hs.b2, hs.ln, hs.row, hs.nd, ?_, hsent.2.1, hsent.2.2, hs.l2, ?_, ?_, ?_⟩
  · show s.base - 1 ≤ sentS s
    have := hs.s1; omega
  · show 0 ≤ (if againS s || !underS s then 0 else s.timer + 1)
    have := hs.t1
    split <;> omega
  · show (if againS s || !underS s then 0 else s.timer + 1) < 3
    split
    · decide
    · next hc =>
      have h2 := hs.t2
      have h3 := hs.t1
      simp only [againS, Bool.or_eq_true, Bool.and_eq_true, beq_iff_eq, Bool.not_eq_true', not_or, not_and] at hc
      have h4 : underS s = true := by simpa using hc.2
      have := hc.1 h4
      omega
  · show (if againS s || !underS s then 0 else s.timer + 1) ≤ 0 ∨ s.base ≤ sentS s
    split
    · exact .inl (Int.le_refl _)
    · next hc =>
      simp only [Bool.or_eq_true, Bool.not_eq_true', not_or] at hc
      have h4 : underS s = true := by simpa using hc.2
      unfold underS at h4
      simp only [decide_eq_true_eq] at h4
      exact .inr (by omega)
 refine key.more fun p hp => ?_
 obtain ⟨h1, h2, h3, _⟩ := h.out p hp
 exact ⟨h1, .inl ⟨h2, h3⟩⟩
end
section
variable {σ room : Int} {s : SC} {r : RC} {way : List PK} {put taken : List BC}
/-! ### an ack comes -/
theorem SInv.acked (h : SInv σ room s r way put taken) {p : PK} (hp : WayP σ room r.next taken.length put p) : SInv σ room (ackedR s p) r way put taken := by
 unfold ackedR
 split
 · next ha =>
   unfold ackedB at ha
   simp only [Bool.and_eq_true, decide_eq_true_eq] at ha
   obtain ⟨hc, hk, hs, h1, h2, h3⟩ := ha
   have hsp := h.sb
   obtain ⟨B, hB, hq, hBl⟩ := h.B
   have hql : s.q.length = put.length - B := by rw [hq, List.length_drop]
   have hkp : p.seq ≤ r.next ∧ p.lim ≤ (taken.length : Int) + room := by
    rcases hp.2 with ⟨e, _⟩ | ⟨_, e⟩
    · rw [hk] at e; cases e
    · exact e
   have hl2 : p.lim ≤ 1099511627776 := by
    unfold checkP at hc
    simp only [Bool.and_eq_true, Bool.or_eq_true, decide_eq_true_eq] at hc
    rcases hc.2 with ⟨e, _⟩ | ⟨_, _, _, _, _, e⟩
    · rw [hk] at e; cases e
    · exact e
   have hb1 := hsp.b1
   have hs2 := hsp.s2
   have hs1 := hsp.s1
   have hl1 := hsp.l1
   have hl3 := hsp.l2
   have hlm := h.lm
   obtain ⟨d, hd⟩ : ∃ d : Nat, (p.seq - s.base).toNat = d ∧ p.seq = s.base + (d : Int) := ⟨(p.seq - s.base).toNat, rfl, by omega⟩
   have hdq : s.q.drop (p.seq - s.base).toNat = put.drop (B + d) := by rw [hd.1, hq, List.drop_drop]
   have hBd : B + d ≤ put.length := by omega
   refine { ss := h.ss, rs := h.rs, rm := h.rm, pt := h.pt, B := ⟨B + d, by show p.seq = _; omega, hdq, hBd⟩, N := h.N, bn := hkp.1, ed := h.ed, sb := ?_, rb := h.rb, ov := h.ov, ah := h.ah, lm := by show (if s.lim ≤ p.lim then p.lim else s.lim) ≤ _; split <;> omega, wy := h.wy }
   refine ⟨hsp.ses, by show 1 ≤ p.seq; omega, h3, ?_, ?_, ?_, by show p.seq - 1 ≤ s.sent; omega, ?_, by show s.sent ≤ (if s.lim ≤ p.lim then p.lim else s.lim); split <;> omega, by show (if s.lim ≤ p.lim then p.lim else s.lim) ≤ _; split <;> omega, ?_, ?_, ?_⟩
   · show ((s.q.drop (p.seq - s.base).toNat).length : Int) ≤ 8
     have := hsp.ln
     rw [List.length_drop]; omega
   · show inRowB (s.q.drop (p.seq - s.base).toNat) p.seq = true
     rw [hdq, show p.seq = ((B + d : Nat) : Int) + 1 by omega]
     have := h.pt.row (B + d) put.length (Nat.le_refl _) hBd
     rwa [List.take_length] at this
   · show s.ended = true ∨ endsB (s.q.drop (p.seq - s.base).toNat) = false
     rw [hdq, h.ed]
     by_cases hlt : B + d < put.length
     · have e : endsB put = endsB (put.drop (B + d)) := by
        conv => lhs; rw [← List.take_append_drop (B + d) put]
        exact ends_app _ _ (by intro e; have := congrArg List.length e; simp at this; omega)
       rw [e]
       cases endsB (put.drop (B + d))
       · exact .inr rfl
       · exact .inl rfl
     · rw [List.drop_of_length_le (by omega)]; exact .inr rfl
   · show s.sent ≤ p.seq - 1 + ((s.q.drop (p.seq - s.base).toNat).length : Int)
     rw [List.length_drop, hd.1]; omega
   · show 0 ≤ (if 0 < p.seq - s.base ∨ s.sent < p.seq then 0 else s.timer)
     have := hsp.t1
     split <;> omega
   · show (if 0 < p.seq - s.base ∨ s.sent < p.seq then 0 else s.timer) < 3
     have := hsp.t2
     split <;> omega
   · show (if 0 < p.seq - s.base ∨ s.sent < p.seq then 0 else s.timer) ≤ 0 ∨ p.seq ≤ s.sent
     split
     · exact .inl (Int.le_refl _)
     · next hc => exact .inr (by omega)
 · exact h
/-! ### a batch comes -/
def hlt (a b : HC) : Prop := a.seq < b.seq
theorem ins_cons (y h : HC) (l : List HC) : insL y (h :: l) = if h.seq < y.seq then h :: insL y l else y :: h :: l := by
 unfold insL
 conv => lhs; unfold insP
 split <;> simp
theorem ins_pw {y : HC} : ∀ {l : List HC}, l.Pairwise hlt → (∀ h ∈ l, h.seq ≠ y.seq) → (insL y l).Pairwise hlt ∧ ∀ z ∈ insL y l, z = y ∨ z ∈ l
 | [], _, _ => ⟨by simp [insL, insP], fun z hz => by simp [insL, insP] at hz; exact .inl hz⟩
 | h :: l, hp, hn => by
  rw [List.pairwise_cons] at hp
  obtain ⟨i1, i2⟩ := ins_pw hp.2 (fun z hz => hn z (List.mem_cons_of_mem _ hz))
  have h0 := hn h List.mem_cons_self
  rw [ins_cons]
  split
  · next hlt9 =>
    refine ⟨List.pairwise_cons.2 ⟨fun z hz => ?_, i1⟩, fun z hz => ?_⟩
    · rcases i2 z hz with rfl | hz
      · exact hlt9
      · exact hp.1 z hz
    · rcases List.mem_cons.1 hz with rfl | hz
      · exact .inr List.mem_cons_self
      · rcases i2 z hz with rfl | hz
        · exact .inl rfl
        · exact .inr (List.mem_cons_of_mem _ hz)
  · next hge =>
    refine ⟨List.pairwise_cons.2 ⟨fun z hz => ?_, List.pairwise_cons.2 hp⟩, fun z hz => ?_⟩
    · show y.seq < z.seq
      rcases List.mem_cons.1 hz with rfl | hz
      · omega
      · have : h.seq < z.seq := hp.1 z hz
        omega
    · exact List.mem_cons.1 hz
theorem drain_spec : ∀ (l : List HC) (a : Int), l.Pairwise hlt → (∀ h ∈ l, a ≤ h.seq) → drainN a l ≤ l.length ∧ (∀ (i : Nat) (h : HC), i < drainN a l → l[i]? = some h → h.seq = a + (i : Int)) ∧ ∀ h ∈ l.drop (drainN a l), a + (drainN a l : Int) < h.seq
 | [], _, _, _ => ⟨Nat.le_refl _, fun i h hi => by simp [drainN] at hi, fun h hm => by simp at hm⟩
 | x :: l, a, hp, hg => by
  rw [List.pairwise_cons] at hp
  have hx := hg x List.mem_cons_self
  unfold drainN
  split
  · next he =>
    obtain ⟨h1, h2, h3⟩ := drain_spec l (a + 1) hp.2 (fun z hz => by have : x.seq < z.seq := hp.1 z hz; omega)
    refine ⟨by simp only [List.length_cons]; omega, fun i h hi hh => ?_, fun h hm => ?_⟩
    · cases i with
      | zero =>
       simp only [List.getElem?_cons_zero, Option.some.injEq] at hh
       subst hh; omega
      | succ i =>
       have := h2 i h (by omega) (by simpa using hh)
       omega
    · have := h3 h (by simpa using hm)
      omega
  · next hne =>
    refine ⟨Nat.zero_le _, fun i h hi => by omega, fun h hm => ?_⟩
    rw [List.drop_zero] at hm
    rcases List.mem_cons.1 hm with rfl | hm
    · omega
    · have : x.seq < h.seq := hp.1 h hm
      omega
theorem pw_of {lim : Int} {l : List HC} {a : Int} (h : aheadB lim a l = true) : l.Pairwise hlt := by
 rw [List.pairwise_iff_getElem]
 intro i j hi hj hij
 exact (((ahead_iff lim l a).1 h).2 i j _ _ hij (List.getElem?_eq_getElem hi) (List.getElem?_eq_getElem hj)).1
theorem PutP.len {put : List BC} (h : PutP put) : (put.length : Int) ≤ 1099511627776 := by
 rcases Nat.eq_zero_or_pos put.length with h0 | h0
 · omega
 · have := batch_le (h (put.length - 1) put[put.length - 1] (List.getElem?_eq_getElem (by omega))).1
   omega
theorem limR_le (r : RC) : limR r ≤ r.next - 1 + (r.room - (r.buf.length : Int)) := by unfold limR; split <;> omega
theorem SInv.heard (h : SInv σ room s r way put taken) {p : PK} (hp : WayP σ room r.next taken.length put p) : SInv σ room s (hearR r p) way put taken ∧ r.next ≤ (hearR r p).next := by
 unfold hearR
 split
 · next hb =>
   unfold hearB heardA takesB at hb
   simp only [Bool.and_eq_true, decide_eq_true_eq, Bool.not_eq_true', Bool.or_eq_false_iff, decide_eq_false_iff_not] at hb
   obtain ⟨⟨_, hk, _⟩, ⟨⟨⟨hov, hed⟩, hlo⟩, hhi⟩, hag⟩ := hb
   have hat : AtP put p.seq p.b := by
    rcases hp.2 with ⟨_, e⟩ | ⟨e, _⟩
    · exact e
    · rw [hk] at e; cases e
   have hrp := h.rb
   obtain ⟨N, hN, hr, hNl⟩ := h.N
   have hah := (ahead_iff _ _ _).1 hrp.ah
   have hne : ∀ x ∈ r.ahead, x.seq ≠ (⟨p.seq, p.b⟩ : HC).seq := fun x hx e => by
    have := List.any_eq_false.1 hag x hx
    unfold againstB at this
    simp only [Bool.or_eq_true, decide_eq_true_eq, not_or] at this
    exact this.1.1 e
   obtain ⟨hpw, hmem⟩ := ins_pw (y := ⟨p.seq, p.b⟩) (pw_of hrp.ah) hne
   generalize insL ⟨p.seq, p.b⟩ r.ahead = L at *
   have hLat : ∀ x ∈ L, AtP put x.seq x.b ∧ r.next ≤ x.seq ∧ x.seq ≤ limR r := fun x hx => by
    rcases hmem x hx with rfl | hx
    · exact ⟨hat, by show r.next ≤ p.seq; omega, by show p.seq ≤ limR r; omega⟩
    · have := hah.1 x hx
      exact ⟨h.ah x hx, by omega, this.2.1⟩
   obtain ⟨d1, d2, d3⟩ := drain_spec L r.next hpw (fun x hx => (hLat x hx).2.1)
   unfold drainR
   generalize drainN r.next L = k at *
   have hmap : (L.take k).map HC.b = (put.drop N).take k := by
    apply List.ext_getElem?
    intro i
    rw [List.getElem?_map, List.getElem?_take, List.getElem?_take, List.getElem?_drop]
    split
    · next hik =>
      have hx : L[i]? = some L[i] := List.getElem?_eq_getElem (by omega)
      have e := d2 i _ hik hx
      obtain ⟨q, hq, hq2⟩ := (hLat _ (List.getElem_mem (by omega : i < L.length))).1
      rw [hx, show N + i = q by omega, hq2]; rfl
    · rfl
   have hNk : N + k ≤ put.length := by
    rcases Nat.eq_zero_or_pos k with h0 | h0
    · omega
    · have hx : L[k - 1]? = some L[k - 1] := List.getElem?_eq_getElem (by omega)
      have e := d2 (k - 1) _ (by omega) hx
      have := (hLat _ (List.getElem_mem (by omega : k - 1 < L.length))).1.le
      omega
   have hbuf : taken ++ (r.buf ++ (L.take k).map HC.b) = put.take (N + k) := by
    rw [← List.append_assoc, hr, hmap, List.take_add]
   have hlenb : (r.buf ++ (L.take k).map HC.b).length = r.buf.length + k := by
    rw [List.length_append, List.length_map, List.length_take, Nat.min_eq_left d1]
   have htn : taken.length + r.buf.length = N := by
    have := congrArg List.length hr
    rw [List.length_append, List.length_take] at this; omega
   have hbd : r.buf ++ (L.take k).map HC.b = (put.take (N + k)).drop taken.length := by
    rw [← hbuf, List.drop_left]
   have hlimk : (r.buf.length : Int) + k ≤ r.room := by
    rcases Nat.eq_zero_or_pos k with h0 | h0
    · have := hrp.ln; omega
    · have hx : L[k - 1]? = some L[k - 1] := List.getElem?_eq_getElem (by omega)
      have e := d2 (k - 1) _ (by omega) hx
      have h9 := (hLat _ (List.getElem_mem (by omega : k - 1 < L.length))).2.2
      have := limR_le r
      omega
   have hlim : limR ⟨r.ses, r.next + (k : Int), L.drop k, r.buf ++ (L.take k).map HC.b, r.room, r.over⟩ = limR r := by
    unfold limR
    show (if r.next + (k : Int) - 1 + (r.room - ((r.buf ++ (L.take k).map HC.b).length : Int)) ≤ 1099511627776 then _ else _) = _
    rw [hlenb, show r.next + (k : Int) - 1 + (r.room - ((r.buf.length + k : Nat) : Int)) = r.next - 1 + (r.room - (r.buf.length : Int)) by omega]
   refine ⟨{ ss := h.ss, rs := h.rs, rm := h.rm, pt := h.pt, B := h.B, N := ⟨N + k, by show r.next + (k : Int) = _; omega, hbuf, hNk⟩, bn := by have := h.bn; show s.base ≤ r.next + (k : Int); omega, ed := h.ed, sb := h.sb, rb := ?_, ov := h.ov, ah := fun x hx => (hLat x (List.mem_of_mem_drop hx)).1, lm := h.lm, wy := fun q hq => (h.wy q hq).mono (by show r.next ≤ r.next + (k : Int); omega) (Nat.le_refl _) ⟨[], by simp⟩ }, by show r.next ≤ r.next + (k : Int); omega⟩
   have hpl := h.pt.len
   refine ⟨hrp.ses, hrp.m1, hrp.m2, by have := hrp.n1; show 1 ≤ r.next + (k : Int); omega, by show r.next + (k : Int) ≤ _; omega, ?_, ?_, ?_, ?_, fun ho => ?_, ?_⟩
   · show ((r.buf ++ (L.take k).map HC.b).length : Int) ≤ r.room
     rw [hlenb]; omega
   · show ((r.buf ++ (L.take k).map HC.b).length : Int) < r.next + (k : Int)
     have := hrp.lt
     rw [hlenb]; omega
   · show inRowB (r.buf ++ (L.take k).map HC.b) (r.next + (k : Int) - ((r.buf ++ (L.take k).map HC.b).length : Int)) = true
     rw [hlenb, hbd, show r.next + (k : Int) - ((r.buf.length + k : Nat) : Int) = (taken.length : Int) + 1 by omega]
     exact h.pt.row _ _ hNk (by omega)
   · show L.drop k = [] ∨ endsB (r.buf ++ (L.take k).map HC.b) = false
     cases he : endsB (r.buf ++ (L.take k).map HC.b) with
     | false => exact .inr rfl
     | true =>
      left
      obtain ⟨c, hc, hf⟩ := (ends_iff _).1 he
      rw [hbd, List.getElem?_drop, List.getElem?_take] at hc
      split at hc
      · next hlt9 =>
        rw [← hbd, hlenb] at hc hlt9
        have hfin := h.pt.fin ⟨_, rfl, hc⟩ hf
        cases hL : L.drop k with
        | nil => rfl
        | cons z zs =>
         exfalso
         have hz : z ∈ L.drop k := by rw [hL]; exact List.mem_cons_self
         have h5 := d3 z hz
         have h6 := (hLat z (List.mem_of_mem_drop hz)).1.le
         omega
      · cases hc
   · rw [show r.over = true from ho] at hov; cases hov
   · rw [hlim]
     refine (ahead_iff _ _ _).2 ⟨fun x hx => ⟨d3 x hx, (hLat x (List.mem_of_mem_drop hx)).2.2, h.pt.ok (hLat x (List.mem_of_mem_drop hx)).1⟩, fun i j x z hij hx hz => ?_⟩
     rw [List.getElem?_drop] at hx hz
     have hi := (List.getElem?_eq_some_iff.1 hx)
     have hj := (List.getElem?_eq_some_iff.1 hz)
     have hl9 : x.seq < z.seq := by
      have := List.pairwise_iff_getElem.1 hpw (k + i) (k + j) hi.1 hj.1 (by omega)
      rw [hi.2, hj.2] at this
      exact this
     refine ⟨hl9, ?_⟩
     cases hf : x.b.fin with
     | false => rfl
     | true =>
      exfalso
      have h5 := h.pt.fin (hLat x (List.mem_of_getElem? hx)).1 hf
      have h6 := (hLat z (List.mem_of_getElem? hz)).1.le
      omega
 · exact ⟨h, Int.le_refl _⟩
end
section
variable {σ room : Int} {s : SC} {r : RC} {way : List PK} {put taken : List BC}
/-! ### the other deeds -/
theorem acked_other {p : PK} (h : p.ses ≠ s.ses) : ackedR s p = s := by
 unfold ackedR ackedB
 rw [if_neg]
 simp only [Bool.and_eq_true, decide_eq_true_eq]
 exact fun hc => h hc.2.2.1
theorem heard_other {p : PK} (h : p.ses ≠ r.ses) : hearR r p = r := by
 unfold hearR hearB heardA
 rw [if_neg]
 simp only [Bool.and_eq_true, decide_eq_true_eq]
 exact fun hc => h hc.1.2.2
/-- a packet of the way comes -/
theorem SInv.comes (h : SInv σ room s r way put taken) {p : PK} (hp : WayP σ room r.next taken.length put p) : SInv σ room (ackedR s p) (hearR r p) way put taken := (h.acked hp).heard hp |>.1
theorem SInv.says (h : SInv σ room s r way put taken) : SInv σ room s r (way ++ [ackR r]) put taken := by
 refine h.more fun p hp => ?_
 obtain rfl := List.mem_singleton.1 hp
 have hb : recB r = true := (rp_iff r).2 h.rb
 unfold ackR
 rw [if_pos hb]
 obtain ⟨N, hN, hr, hNl⟩ := h.N
 have htn : taken.length + r.buf.length = N := by
  have := congrArg List.length hr
  rw [List.length_append, List.length_take] at this; omega
 refine ⟨h.rs, .inr ⟨rfl, Int.le_refl _, ?_⟩⟩
 have := limR_le r
 have h2 := h.rm
 show limR r ≤ _
 omega
theorem SInv.takes (h : SInv σ room s r way put taken) (hE : takE r = 0) : SInv σ room s (takR r) way put (taken ++ [takB r]) := by
 unfold takE at hE
 unfold takR takB
 cases hbuf : r.buf with
 | nil => rw [hbuf] at hE; cases hE
 | cons b l =>
  have hrp := h.rb
  obtain ⟨N, hN, hr, hNl⟩ := h.N
  rw [hbuf] at hr
  have htn : taken.length + (l.length + 1) = N := by
   have := congrArg List.length hr
   rw [List.length_append, List.length_take, List.length_cons] at this; omega
  have hr2 : (taken ++ [b]) ++ l = put.take N := by rw [List.append_assoc]; exact hr
  have hbp : put[taken.length]? = some b := by
   have e : (put.take N)[taken.length]? = some b := by
    rw [← hr, List.getElem?_append_right (Nat.le_refl _), Nat.sub_self]; rfl
   rw [List.getElem?_take] at e
   split at e
   · exact e
   · cases e
  have hfin : b.fin = true → l = [] ∧ r.ahead = [] ∧ N = put.length := fun hf => by
   have h1 := (h.pt _ b hbp).2 hf
   have hl : l = [] := List.eq_nil_of_length_eq_zero (by omega)
   refine ⟨hl, ?_, by omega⟩
   rcases hrp.ed with h2 | h2
   · exact h2
   · rw [hbuf, hl] at h2
     have : endsB [b] = b.fin := rfl
     rw [this, hf] at h2; cases h2
  have hln := hrp.ln
  have hlt9 := hrp.lt
  rw [hbuf, List.length_cons] at hln hlt9
  have hlim : limR r ≤ limR ⟨r.ses, r.next, r.ahead, l, r.room, b.fin⟩ := by
   unfold limR
   rw [hbuf, List.length_cons]
   show _ ≤ (if r.next - 1 + (r.room - (l.length : Int)) ≤ 1099511627776 then r.next - 1 + (r.room - (l.length : Int)) else 1099511627776)
   split <;> split <;> omega
  have hah := (ahead_iff _ _ _).1 hrp.ah
  have hld : l = (put.take N).drop (taken.length + 1) := by
   rw [← hr2, show taken.length + 1 = (taken ++ [b]).length by simp, List.drop_left]
  refine { ss := h.ss, rs := h.rs, rm := h.rm, pt := h.pt, B := h.B, N := ⟨N, hN, hr2, hNl⟩, bn := h.bn, ed := h.ed, sb := h.sb, rb := ?_, ov := by rw [ends_snoc], ah := h.ah, lm := by have := h.lm; rw [List.length_append, List.length_singleton]; omega, wy := fun q hq => (h.wy q hq).mono (Int.le_refl _) (by rw [List.length_append]; omega) ⟨[], by simp⟩ }
  refine ⟨hrp.ses, hrp.m1, hrp.m2, hrp.n1, hrp.n2, by show (l.length : Int) ≤ r.room; omega, by show (l.length : Int) < r.next; omega, ?_, ?_, fun ho => ?_, ?_⟩
  · show inRowB l (r.next - (l.length : Int)) = true
    rw [hld, List.length_drop, List.length_take, show r.next - ((min N put.length - (taken.length + 1) : Nat) : Int) = ((taken.length + 1 : Nat) : Int) + 1 by omega]
    exact h.pt.row _ _ hNl (by omega)
  · show r.ahead = [] ∨ endsB l = false
    cases hf : b.fin with
    | true => exact .inl (hfin hf).2.1
    | false =>
     rcases hrp.ed with h2 | h2
     · exact .inl h2
     · rw [hbuf] at h2
       right
       cases l with
       | nil => rfl
       | cons c m =>
        rw [show b :: c :: m = [b] ++ (c :: m) from rfl, ends_app _ _ (by simp)] at h2
        exact h2
  · obtain ⟨a1, a2, a3⟩ := hfin ho
    exact ⟨a1, a2, by show 2 ≤ r.next; omega⟩
  · refine (ahead_iff _ _ _).2 ⟨fun x hx => ?_, hah.2⟩
    obtain ⟨b1, b2, b3⟩ := hah.1 x hx
    exact ⟨b1, Int.le_trans b2 hlim, b3⟩
/-- what the law asks of a state -/
theorem SInv.sound (h : SInv σ room s r way put taken) : (taken ++ r.buf).length ≤ put.length ∧ taken ++ r.buf = put.take (taken ++ r.buf).length ∧ sendB s = true ∧ recB r = true ∧ s.base ≤ r.next ∧ s.sent ≤ (taken.length : Int) + r.room ∧ r.next - 1 = ((taken ++ r.buf).length : Int) := by
 obtain ⟨N, hN, hr, hNl⟩ := h.N
 have hl : (taken ++ r.buf).length = N := by rw [hr, List.length_take]; omega
 refine ⟨by omega, by rw [hl, hr], (sp_iff s).2 h.sb, (rp_iff r).2 h.rb, h.bn, ?_, by omega⟩
 have h1 := h.sb.l1
 have h2 := h.lm
 have h3 := h.rm
 omega
theorem SInv.begin_ {n rm : Int} (h : roomB n rm = true) : SInv n rm (openS n) (listenR n rm) [] [] [] := by
 have h0 := h
 unfold roomB at h
 simp only [Bool.and_eq_true, decide_eq_true_eq] at h
 obtain ⟨h1, h2, h3⟩ := h
 unfold openS listenR
 rw [if_pos h1, if_pos h0]
 refine { ss := rfl, rs := rfl, rm := rfl, pt := (fun i b hb => by simp at hb), B := ⟨0, rfl, rfl, Nat.le_refl _⟩, N := ⟨0, rfl, rfl, Nat.le_refl _⟩, bn := Int.le_refl _, ed := rfl, sb := ⟨h1, by simp, by simp, by simp, rfl, .inr rfl, by simp, by simp, by simp, by simp, by simp, by simp, .inl (by simp)⟩, rb := ⟨h1, h2, h3, by simp, by simp, by show ((0 : Nat) : Int) ≤ rm; omega, by simp, rfl, .inl rfl, (fun ho => by cases ho), rfl⟩, ov := rfl, ah := (fun x hx => by simp at hx), lm := by show (0 : Int) ≤ ((0 : Nat) : Int) + rm; omega, wy := (fun p hp => by simp at hp) }
end
end Go.Proofs.Ytojghgbaiiajfaa
