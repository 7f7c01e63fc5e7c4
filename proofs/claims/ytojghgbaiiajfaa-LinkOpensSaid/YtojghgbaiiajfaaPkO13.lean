/- link.Acked. Conditions: the queue and the packet's rows read so. -/
import Derived.Test.YtojghgbaiiajfaaPkO12
import Derived.WalkLawsBesides
namespace Go.Proofs.Ytojghgbaiiajfaa
open Go.RowKit
set_option maxRecDepth 100000 in
set_option maxHeartbeats 16000000 in
theorem acked_any (Fr : Nat → Prop) (s : SC) (A : Option Addr) (n c : Nat) (pk : PK) (pA : Option Addr) (pn pc : Nat) (w : World) (hFr : ∀ k, Fr k → k < w.heap.size) (h : LB3.rd w Fr A n s.q) (hr : LR.rd w Fr pA pn pk.b.rows) (hn : n ≤ 9223372036854775807) (hpn : pn ≤ 9223372036854775807) (h0 : 0 ≤ s.base) :
    Calls Try.prog 30 #[.agg (s.cells A n c), .agg (pk.cells pA pn pc)] w fun e w' => ∃ (t : SC) (A' : Option Addr) (n' c' : Nat) (N : Int), e = .returned (.tuple #[.agg (t.cells A' n' c'), .int .i64 N]) ∧ SendsO Fr s 0 (ackedR s pk) noX noY w (t.cells A' n' c') N w' := by
  have q1 := bl_al (Below.refl w.heap.size w) (.cells (s.cells A n c) 29)
  have q2 := bl_al (Below.refl (w.alloc (.cells (s.cells A n c) 29)).heap.size (w.alloc (.cells (s.cells A n c) 29))) (.cells (pk.cells pA pn pc) 47)
  have q12 := bl_ca q1 q2
  have hsz2 : ((w.alloc (.cells (s.cells A n c) 29)).alloc (.cells (pk.cells pA pn pc) 47)).heap.size = w.heap.size + 2 := by simp only [World.size_alloc]
  have HS2 := (Blk.new w 29 (s.cells A n c)).ca q2
  have HP2 : Blk ((w.alloc (.cells (s.cells A n c) 29)).alloc (.cells (pk.cells pA pn pc) 47)) (w.heap.size + 1) 47 (pk.cells pA pn pc) := Blk.mk' (by simp only [World.size_alloc])
  generalize hw2 : (w.alloc (.cells (s.cells A n c) 29)).alloc (.cells (pk.cells pA pn pc) 47) = w2 at *
  have q3 := bl_al (Below.refl w2.heap.size w2) (.cells (zeroS.cells none 0 0) 29)
  have HZ := Lib.hid (show Blk (w2.alloc (.cells (zeroS.cells none 0 0) 29)) (w.heap.size + 2) 29 (zeroS.cells none 0 0) from by rw [← hsz2]; exact Blk.new _ _ _)
  have HB := Lib.hid (bl_ca q12 q3)
  have hsz : (w2.alloc (.cells (zeroS.cells none 0 0) 29)).heap.size = w.heap.size + 3 := by simp only [World.size_alloc]; omega
  have HSE := Lib.hid (sends_any Fr s A n c 82 #[.pointer (some ⟨w.heap.size + 1, 0, none⟩)] 0 (ackedR s pk) noX noY _ (Lay.rd_below (Lay.rd_below h q12) q3) (fun k h => by have := hFr k h; omega) hn h0 (Go.Proofs.enters_of Try.func82 (by kernel_rfl) rfl)
    (acked1_do s pk (w.heap.size + 1) pA pn pc _ Fr (fun k h => by have := hFr k h; omega) (HP2.ca q3) (Lay.rd_below (Lay.rd_below hr q12) q3) hpn) (fun k h => h.elim) (fun _ _ h _ => h))
  have HS := Lib.hid (HS2.ca q3)
  subst hw2
  clear h hr q1 q2 q12 q3 HS2 HP2 hsz2
  go_enter Try.func30, Try.ntmps30
  go_wp2_with (refine wpList_load_blk rfl 29 (.tmp 2) rfl w.heap.size rfl 29 _ (s.cells A n c) HS.out rfl rfl senderI ?_)
  refine HSE.out.mono ?_
  clear HSE
  rintro e w4 h4
  obtain ⟨t, A', n', c', N, rfl, ho⟩ := sends_o h4
  have HZ4 := Lib.hid (ho.blk HZ.out (fun h => h))
  have HO := Lib.hid ho
  clear h4 ho HS HZ
  go_wp2_with (refine wpList_store_blk rfl 29 (.tmp 4) (.tmp 9) rfl (w.heap.size + 2) 29 _ (t.cells A' n' c') rfl rfl HZ4.out rfl senderI (by obtain ⟨s1, s2, s3, s4, s5, s6, s7⟩ := t; simp [Value.oneCell', SC.cells]) ?_; intro wz hZ gz)
  exact bodyPost_ret (res2 Try.results30 rfl rfl hZ Try.underlying29 rfl senderI) rfl ⟨t, A', n', c', N, rfl, HO.out.out HB.out gz (fun k h => by have := hFr k h; omega) (by omega) (by omega) (by omega) (fun b h _ => h.elim) (fun _ _ h _ => h)⟩
end Go.Proofs.Ytojghgbaiiajfaa
/- bowspritref02.Int, bowspritlaw22.one; what the layer answers to the few acts that show it awake. Conditions: none. -/
namespace Go.Proofs.Ytojghgbaiiajfaa
open Go.RowKit
def intV (n : Int) : VV := ⟨2, n, 0, ⟨#[]⟩⟩
abbrev VV.cells (v : VV) : Array Value := #[.int .i64 v.k, .int .i64 v.n, .int .u64 v.u, .string v.s]
theorem valI : (Try.prog.info? 142).map (·.size) = some 4 := by kernel_rfl
set_option maxRecDepth 100000 in
theorem int_any (n : Int) (w : World) : Calls Try.prog 100 #[.int .i64 n] w fun e w' => e = .returned (.agg (intV n).cells) ∧ Below w.heap.size w w' := by
  have b1 := bl_al (Below.refl w.heap.size w) (.cells (intV n).cells 142)
  go_enter Try.func100, Try.ntmps100
  go_wp2_with fail
  exact bodyPost_ret (res1 Try.results100 rfl (Blk.new _ _ _) Try.underlying142 rfl valI) rfl ⟨rfl, b1⟩
set_option maxRecDepth 100000 in
theorem one_any (n : Int) (w : World) : Calls Try.prog 48 #[.int .i64 n] w fun e w' => ∃ g, e = .returned (.slice (some ⟨g, 0, none⟩) 1 1) ∧ w.heap.size ≤ g ∧ Blk w' g 142 (intV n).cells ∧ Below w.heap.size w w' := by
  go_enter Try.func48, Try.ntmps48
  go_wp2_with fail
  refine (int_any _ _).mono ?_
  rintro e w1 ⟨rfl, q1⟩
  go_wp2
  go_ret
  exact ⟨_, rfl, q1.size, Blk.new _ _ _, bl_al q1 _⟩
theorem rd_blk1 {α : Type} {L : Lay α} {w : World} {F : Nat → Prop} {g : Nat} {t : TypeId} {cs : Array Value} {x : α} (h : Blk w g t cs) (hr : L.rep w F x cs.toList) (hF : F g) : L.rd w F (some ⟨g, 0, none⟩) 1 [x] := by
  refine ⟨rfl, cs.toList, Lay.reps_single hr, fun _ => ⟨_, rfl, h.lt, hF, fun j u hu => ?_⟩⟩
  rw [show (⟨g, 0, none⟩ : Addr).add j = ⟨g, j, none⟩ from by unfold Addr.add; split <;> simp_all, h.cell j]
  simpa using hu
def wk0 : SC := ⟨7, 1, [], 0, 0, 0, false⟩
def wk1 : SC := ⟨7, 1, [⟨[[intV 1]], false, 0⟩], 0, 0, 0, false⟩
def wk2 : SC := ⟨7, 1, [⟨[[intV 1]], false, 0⟩], 0, 2, 0, false⟩
def wkR : RC := ⟨7, 1, [], [], 2, false⟩
def wkP : PK := ⟨2, 7, 1, 2, ⟨[], false, 0⟩⟩
def wkO : PK := ⟨1, 7, 1, 0, ⟨[[intV 1]], false, 0⟩⟩
theorem wk_open : openS 7 = wk0 ∧ openE 7 = 0 := by refine ⟨?_, ?_⟩ <;> kernel_rfl
theorem wk_listen : listenR 7 2 = wkR ∧ listenE 7 2 = 0 := by refine ⟨?_, ?_⟩ <;> kernel_rfl
theorem wk_put : sendB wk0 = true ∧ put1E wk0 [[intV 1]] = 0 ∧ putR wk0 ⟨[[intV 1]], false, 0⟩ = wk1 := by refine ⟨?_, ?_, ?_⟩ <;> kernel_rfl
theorem wk_ack : recB wkR = true ∧ ackR wkR = wkP := by refine ⟨?_, ?_⟩ <;> kernel_rfl
theorem wk_acked : sendB wk1 = true ∧ ackedR wk1 wkP = wk2 := by refine ⟨?_, ?_⟩ <;> kernel_rfl
theorem wk_tick : sendB wk2 = true ∧ outP wk2 = [wkO] := by refine ⟨?_, ?_⟩ <;> kernel_rfl
end Go.Proofs.Ytojghgbaiiajfaa
/- bowspritlaw22.wakes. Conditions: none. -/
namespace Go.Proofs.Ytojghgbaiiajfaa
open Go.RowKit
theorem SeqN.lt3 {k1 k2 k3 k4 : Nat} {B : Nat → (Nat → Value) → World → Prop} {L : Array Bool} {m : Nat → Value} {w : World} {T : World → Prop} (h4 : Dn L k4 = false) (t : ∀ z m w, z < 4 → B z m w → T w) (hS : SeqN [k1, k2, k3, k4] B L m w) : T w :=
  SeqN.lt (k := k4) (by simp) h4 (fun z m w hz h => t z m w (by simpa using hz) h) hS
theorem own_past {α : Type} {L : Lay α} {e : TypeId} {w w' : World} {B n c g : Nat} {G : Nat → Prop} {A : Option Addr} {xs : List α} (h : L.own e w B G A n c xs) (hg : w.grownBy w' (some g)) (hG : ∀ b, G b → b ≠ g) (hB : g < B) : L.own e w' B G A n c xs :=
  Lay.own_same h (fun k e => hg.block k (Lay.own_base h k e).2 (fun e2 => by injection e2 with e2; have := (Lay.own_base h k e).1; omega)) (fun b hb _ hl => hg.block b hl (fun e2 => by injection e2 with e2; exact hG b hb e2))
theorem wkput_any (ga gb : Nat) (w : World) (B : Nat) (ha : B ≤ ga) (hb : B ≤ gb) (hB : B ≤ w.heap.size) (h1 : Blk w ga 142 (intV 1).cells) (h2 : Blk w gb 89 #[.slice (some ⟨ga, 0, none⟩) 1 1]) :
    Calls Try.prog 47 #[.agg #[.int .u32 7, .int .u64 1, .slice none 0 0, .int .u64 0, .int .u64 0, .int .i64 0, .bool false], .slice (some ⟨gb, 0, none⟩) 1 1] w fun e w' => ∃ A2 c2, e = .returned (.tuple #[.agg #[.int .u32 7, .int .u64 1, .slice A2 1 c2, .int .u64 0, .int .u64 0, .int .i64 0, .bool false], .int .i64 0]) ∧ LB3.own 45 w' B (fun k => B ≤ k) A2 1 c2 wk1.q ∧ Below w.heap.size w w' := by
  have hr : LR.rd w (fun k => B ≤ k ∧ k < w.heap.size) (some ⟨gb, 0, none⟩) 1 [[intV 1]] := rd_blk1 h2 ⟨_, _, _, rfl, Nat.le_refl _, by omega, rd_blk1 h1 rfl ⟨ha, h1.lt⟩⟩ ⟨hb, h2.lt⟩
  refine (put_any (fun k => B ≤ k ∧ k < w.heap.size) wk0 none 0 0 [[intV 1]] (some ⟨gb, 0, none⟩) 1 1 w (fun k h => h.2) (Lay.rd_nil _) hr (by omega) (by omega) (by decide)).mono ?_
  rintro e w' ⟨t, A2, n2, c2, N, rfl, h⟩
  unfold SendsO at h
  rw [wk_put.1, wk_put.2.1, if_pos rfl] at h
  obtain ⟨hc, _, h | ⟨_, rfl, A3, n3, c3, he, ho⟩⟩ := h
  · exact absurd rfl h.1
  · rw [wk_put.2.2] at he ho
    have hl := Lay.own_len ho
    obtain rfl : 1 = n3 := hl
    refine ⟨A3, c3, by rw [he]; rfl, Lay.own_lessB (Lay.own_weak (fun k hk _ => by rcases hk.2 with h | h; exact h.1; omega) ho) hB, ?_⟩
    exact ⟨hc.os, hc.tape, hc.output, hc.size, fun b hb => hc.block b hb (fun h => h)⟩
theorem wkopen_any (w : World) : Calls Try.prog 11 #[.int .u32 7] w fun e w' => e = .returned (.tuple #[.agg #[.int .u32 7, .int .u64 1, .slice none 0 0, .int .u64 0, .int .u64 0, .int .i64 0, .bool false], .int .i64 0]) ∧ Below w.heap.size w w' := by
  have h := open_any 7 w
  rw [wk_open.1, wk_open.2] at h
  exact h
theorem wklisten_any (w : World) : Calls Try.prog 13 #[.int .u32 7, .int .i64 2] w fun e w' => e = .returned (.tuple #[.agg #[.int .u32 7, .int .u64 1, .slice none 0 0, .slice none 0 0, .int .i64 2, .bool false], .int .i64 0]) ∧ Below w.heap.size w w' := by
  have h := listen_any 7 2 w
  rw [wk_listen.1, wk_listen.2] at h
  exact h
theorem wkack_any (w : World) : Calls Try.prog 31 #[.agg #[.int .u32 7, .int .u64 1, .slice none 0 0, .slice none 0 0, .int .i64 2, .bool false]] w fun e w' => e = .returned (.tuple #[.agg #[.int .i64 2, .int .u32 7, .int .u64 1, .int .u64 2, .slice none 0 0, .bool false, .int .u64 0], .int .i64 0]) ∧ Below w.heap.size w w' := by
  refine (ack_any (fun _ => True) (fun _ => True) wkR none 0 0 none 0 0 w (Lay.rd_nil _) (Lay.rd_nil _) (by omega) (by omega)).mono ?_
  intro e w' h
  unfold AckC at h
  rw [wk_ack.1, wk_ack.2] at h
  exact h
theorem wkacked_any (A : Option Addr) (c : Nat) (w : World) (B : Nat) (hB : B ≤ w.heap.size) (h : LB3.rd w (fun k => B ≤ k) A 1 wk1.q) :
    Calls Try.prog 30 #[.agg #[.int .u32 7, .int .u64 1, .slice A 1 c, .int .u64 0, .int .u64 0, .int .i64 0, .bool false], .agg #[.int .i64 2, .int .u32 7, .int .u64 1, .int .u64 2, .slice none 0 0, .bool false, .int .u64 0]] w fun e w' => ∃ A2 c2, e = .returned (.tuple #[.agg #[.int .u32 7, .int .u64 1, .slice A2 1 c2, .int .u64 0, .int .u64 2, .int .i64 0, .bool false], .int .i64 0]) ∧ LB3.own 45 w' B (fun k => B ≤ k) A2 1 c2 wk2.q ∧ Below w.heap.size w w' := by
  refine (acked_any (fun k => B ≤ k ∧ k < w.heap.size) wk1 A 1 c wkP none 0 0 w (fun k h => h.2) (Lay.rd_weak (fun k h hl => ⟨h, hl⟩) h) (Lay.rd_nil _) (by omega) (by omega) (by decide)).mono ?_
  rintro e w' ⟨t, A2, n2, c2, N, rfl, h⟩
  unfold SendsO at h
  rw [wk_acked.1, if_pos rfl] at h
  obtain ⟨hc, _, h | ⟨_, rfl, A3, n3, c3, he, ho⟩⟩ := h
  · exact absurd rfl h.1
  · rw [wk_acked.2] at he ho
    have hl := Lay.own_len ho
    obtain rfl : 1 = n3 := hl
    refine ⟨A3, c3, by rw [he]; rfl, Lay.own_lessB (Lay.own_weak (fun k hk _ => by rcases hk.2 with h | h; exact h.1; omega) ho) hB, ?_⟩
    exact ⟨hc.os, hc.tape, hc.output, hc.size, fun b hb => hc.block b hb (fun h => h)⟩
theorem wktick_any (A : Option Addr) (c : Nat) (w : World) (h : LB3.rd w (fun k => k < w.heap.size) A 1 wk2.q) :
    Calls Try.prog 43 #[.agg #[.int .u32 7, .int .u64 1, .slice A 1 c, .int .u64 0, .int .u64 2, .int .i64 0, .bool false]] w fun e w' => ∃ (t : SC) (A2 : Option Addr) (n2 c2 gp pc : Nat), e = .returned (.tuple #[.agg (t.cells A2 n2 c2), .slice (some ⟨gp, 0, none⟩) 1 pc, .int .i64 0]) ∧ gp < w'.heap.size ∧ w'.cell? ⟨gp, 2, none⟩ = some (.int .u64 1) ∧ Below w.heap.size w w' := by
  refine (tick_any (fun k => k < w.heap.size) wk2 A 1 c w (fun k h => h) h (by omega) (by decide)).mono ?_
  rintro e w' ⟨t, A2, n2, c2, N, PA, pn, pc, rfl, h, hp⟩
  unfold SendsO at h
  unfold TickO at hp
  rw [wk_tick.1, if_pos rfl] at h hp
  rw [wk_tick.2] at hp
  obtain ⟨hc, _, h | ⟨_, rfl, A3, n3, c3, he, ho⟩⟩ := h
  · exact absurd rfl h.1
  · have hl := Lay.own_len hp
    obtain rfl : 1 = pn := hl
    have hr := Lay.own_rd (F := fun _ => True) hp (fun _ _ _ => trivial) (fun _ _ _ => trivial)
    obtain ⟨_, cs, _, hown⟩ := hp
    obtain ⟨gp, cap, hv, _, hlt⟩ := World.ownsRow.form hown (by omega)
    injection hv with hA _ hcap
    subst hA
    have h2 := lp7_last (m := 0) hr rfl
    rw [show wkO.seq = 1 from rfl] at h2
    refine ⟨t, A2, n2, c2, gp, pc, rfl, hlt, ?_, ?_⟩
    · simpa [Addr.add] using h2
    · exact ⟨hc.os, hc.tape, hc.output, hc.size, fun b hb => hc.block b hb (fun h => h)⟩
set_option maxRecDepth 100000 in
set_option maxHeartbeats 16000000 in
theorem wakes_any (w : World) : Calls Try.prog 10 #[] w fun e w' => e = .returned (.bool true) ∧ Below w.heap.size w w' := by
  have HO := Lib.hid (fun W => wkopen_any W)
  have HL := Lib.hid (fun W => wklisten_any W)
  go_enter Try.func10, Try.ntmps10
  go_wp2_with fail
  refine (HO.out _).mono ?_
  rintro e w1 ⟨rfl, q1⟩
  have b1 := Lib.hid (bl_al q1 (.cells #[.int .u32 7, .int .u64 1, .slice none 0 0, .int .u64 0, .int .u64 0, .int .i64 0, .bool false] 29))
  have hz1 := q1.size
  have hN := Blk.new w1 29 #[.int .u32 7, .int .u64 1, .slice none 0 0, .int .u64 0, .int .u64 0, .int .i64 0, .bool false]
  obtain ⟨g1, hg1⟩ : ∃ g, g = w1.heap.size := ⟨_, rfl⟩
  clear q1 HO
  go_wp2_with fail
  rw [← hg1] at hN hz1 ⊢
  have HS := Lib.hid hN
  clear hg1 hN
  generalize w1.alloc (.cells #[.int .u32 7, .int .u64 1, .slice none 0 0, .int .u64 0, .int .u64 0, .int .i64 0, .bool false] 29) = w1b at *
  refine (HL.out _).mono ?_
  rintro e w2 ⟨rfl, q2⟩
  have HS2 := Lib.hid (HS.out.ca q2)
  have b2 := Lib.hid (bl_al (bl_ca b1.out q2) (.cells #[.int .u32 7, .int .u64 1, .slice none 0 0, .slice none 0 0, .int .i64 2, .bool false] 36))
  have hN := Blk.new w2 36 #[.int .u32 7, .int .u64 1, .slice none 0 0, .slice none 0 0, .int .i64 2, .bool false]
  have hl2 := HS2.out.lt
  have HS3 := Lib.hid (HS2.out.ca (bl_al (Below.refl _ w2) (.cells #[.int .u32 7, .int .u64 1, .slice none 0 0, .slice none 0 0, .int .i64 2, .bool false] 36)))
  obtain ⟨g3, hg3⟩ : ∃ g, g = w2.heap.size := ⟨_, rfl⟩
  clear q2 b1 HL HS HS2
  go_wp2_with fail
  rw [← hg3] at hN hl2 ⊢
  have HR3 := Lib.hid hN
  clear hg3 hN
  generalize w2.alloc (.cells #[.int .u32 7, .int .u64 1, .slice none 0 0, .slice none 0 0, .int .i64 2, .bool false] 36) = w3 at *
  have hg1s := HS3.out.lt
  refine wp_region_ps (S := SeqN [1, 2, 3, 7] (fun z m w' => match z with | 0 => Below w3.heap.size w3 w' | 1 => Below w3.heap.size w3 w' ∧ ∃ ga, m 1 = .slice (some ⟨ga, 0, none⟩) 1 1 ∧ w3.heap.size ≤ ga ∧ Blk w' ga 142 (intV 1).cells | 2 => Below w3.heap.size w3 w' ∧ ∃ ga gb, m 2 = .slice (some ⟨gb, 0, none⟩) 1 1 ∧ w3.heap.size ≤ ga ∧ w3.heap.size ≤ gb ∧ Blk w' ga 142 (intV 1).cells ∧ Blk w' gb 89 #[.slice (some ⟨ga, 0, none⟩) 1 1] | 3 => Below w3.heap.size w3 w' ∧ ∃ A2 c2, m 3 = .tuple #[.agg #[.int .u32 7, .int .u64 1, .slice A2 1 c2, .int .u64 0, .int .u64 0, .int .i64 0, .bool false], .int .i64 0] ∧ LB3.own 45 w' w3.heap.size (fun k => w3.heap.size ≤ k) A2 1 c2 wk1.q | _ => Chg (fun k => k = g1) w3 w' ∧ ∃ A2 c2, m 3 = .tuple #[.agg #[.int .u32 7, .int .u64 1, .slice A2 1 c2, .int .u64 0, .int .u64 0, .int .i64 0, .bool false], .int .i64 0] ∧ LB3.own 45 w' w3.heap.size (fun k => w3.heap.size ≤ k) A2 1 c2 wk1.q ∧ Blk w' g1 29 #[.int .u32 7, .int .u64 1, .slice A2 1 c2, .int .u64 0, .int .u64 0, .int .i64 0, .bool false])) (by kernel_rfl) ?spswq ?ppswq
  case spswq =>
    exact SeqN.start (by decide) (Below.refl _ _).drew
  refine Ps.step (i := 0) (d := some 21) (u := (.agg #[.int .u32 7, .int .u64 1, .slice none 0 0, .int .u64 0, .int .u64 0, .int .i64 0, .bool false])) rfl rfl (by kernel_rfl) (by kernel_rfl) (by kernel_rfl) (by kernel_rfl) ?ywq_1 ?rwq_1
  case ywq_1 =>
    refine StepS.read [] (by kernel_rfl) (SeqN.pass (by decide)) (by rfl) (fun L9 m9 w9 hSh hAt hDn hS => ?_)
    have hT : Below w3.heap.size w3 w9 := SeqN.lt3 (T := fun w9 => Below w3.heap.size w3 w9) (reach_no hSh (f := 9) (j := 7) (by kernel_rfl) hDn) (fun z _ _ hz h => by match z, hz, h with | 0, _, h => exact h | 1, _, h => exact h.1 | 2, _, h => exact h.1 | 3, _, h => exact h.1 | _ + 4, hz, _ => exact absurd hz (by omega)) hS
    have x0 : w9.cell? ⟨g1, 0, none⟩ = some (.int .u32 7) := (HS3.out.ca hT).cell 0
    have x1 : w9.cell? ⟨g1, 1, none⟩ = some (.int .u64 1) := (HS3.out.ca hT).cell 1
    have x2 : w9.cell? ⟨g1, 2, none⟩ = some (.slice none 0 0) := (HS3.out.ca hT).cell 2
    have x3 : w9.cell? ⟨g1, 3, none⟩ = some (.int .u64 0) := (HS3.out.ca hT).cell 3
    have x4 : w9.cell? ⟨g1, 4, none⟩ = some (.int .u64 0) := (HS3.out.ca hT).cell 4
    have x5 : w9.cell? ⟨g1, 5, none⟩ = some (.int .i64 0) := (HS3.out.ca hT).cell 5
    have x6 : w9.cell? ⟨g1, 6, none⟩ = some (.bool false) := (HS3.out.ca hT).cell 6
    clear hT hS
    go_simp
    try rfl
  try simp only [Act.put, List.setIfInBounds_toArray, List.set_cons_zero, List.set_cons_succ]
  refine Ps.one (k := 1) (d := some 22) rfl rfl (by kernel_rfl) (TurnS.call (V := fun v => ∃ ga, v = .slice (some ⟨ga, 0, none⟩) 1 1) ?fwq_2 ?awq_2 [] (by kernel_rfl) (by rfl) (fun w9 => ?hwq_2) (fun L9 m9 w9 hSh hAt hDn hS => ?cwq_2)) (fun v1 hVv1 => ?rwq_2)
  case hwq_2 => go_simp; refine ⟨?_, ?_⟩ <;> rfl
  case cwq_2 =>
    have hT : Below w3.heap.size w3 w9 := SeqN.at_ (m0 := m9) (m1 := m9) [] [2, 3, 7] hSh (fun d hd => by cases hd) hDn (by kernel_rfl) hS
    refine (one_any 1 w9).mono ?_
    rintro e w6 ⟨ga, rfl, hga, hb, q6⟩
    exact ⟨_, rfl, ⟨_, rfl⟩, SeqN.set_ (m0 := m9) (m1 := m9) [] [2, 3, 7] hSh (fun d hd => by cases hd) hDn (by kernel_rfl) (by decide) (by decide) ⟨bl_ca hT q6, ga, upd_same _ _ _, Nat.le_trans hT.size hga, hb⟩⟩
  try simp only [Act.put, List.setIfInBounds_toArray, List.set_cons_zero, List.set_cons_succ]
  obtain ⟨ga, rfl⟩ := hVv1
  refine Ps.one (k := 2) (d := some 23) rfl rfl (by kernel_rfl) (TurnS.value (V := fun v => ∃ gb, v = .slice (some ⟨gb, 0, none⟩) 1 1) [1] (by kernel_rfl) (by rfl) (fun L9 m9 w9 hSh hAt hDn hS => ?cwq_3)) (fun v2 hVv2 => ?rwq_3)
  case cwq_3 =>
    obtain ⟨hT, ga2, hv, hg1, hg2⟩ := SeqN.at_ [1] [3, 7] hSh hAt hDn (by kernel_rfl) hS
    obtain rfl : ga = ga2 := by have h9 : Value.slice (some ⟨ga, 0, none⟩) 1 1 = .slice (some ⟨ga2, 0, none⟩) 1 1 := (hAt 1 (by simp)).2.symm.trans hv; simpa using h9
    refine ⟨.slice (some ⟨w9.heap.size, 0, none⟩) 1 1, w9.alloc (.cells #[.slice (some ⟨ga, 0, none⟩) 1 1] 89), ?_, ⟨_, rfl⟩, SeqN.set_ [1] [3, 7] hSh hAt hDn (by kernel_rfl) (by decide) (by decide) ⟨bl_al hT _, ga, w9.heap.size, upd_same _ _ _, hg1, hT.size, hg2.alloc _, Blk.new _ _ _⟩⟩
    clear hT hS
    go_simp
  try simp only [Act.put, List.setIfInBounds_toArray, List.set_cons_zero, List.set_cons_succ]
  obtain ⟨gb, rfl⟩ := hVv2
  refine Ps.one (k := 3) (d := some 24) rfl rfl (by kernel_rfl) (TurnS.call (V := fun v => ∃ A2 c2, v = .tuple #[.agg #[.int .u32 7, .int .u64 1, .slice A2 1 c2, .int .u64 0, .int .u64 0, .int .i64 0, .bool false], .int .i64 0]) ?fwq_4 ?awq_4 [1, 2] (by kernel_rfl) (by rfl) (fun w9 => ?hwq_4) (fun L9 m9 w9 hSh hAt hDn hS => ?cwq_4)) (fun v3 hVv3 => ?rwq_4)
  case hwq_4 => go_simp; refine ⟨?_, ?_⟩ <;> rfl
  case cwq_4 =>
    obtain ⟨hT, ga2, gb2, hv, hga, hgb, hba, hbb⟩ := SeqN.at_ [1, 2] [7] hSh hAt hDn (by kernel_rfl) hS
    obtain rfl : gb = gb2 := by have h9 : Value.slice (some ⟨gb, 0, none⟩) 1 1 = .slice (some ⟨gb2, 0, none⟩) 1 1 := (hAt 2 (by simp)).2.symm.trans hv; simpa using h9
    refine (wkput_any ga2 gb w9 w3.heap.size hga hgb hT.size hba hbb).mono ?_
    rintro e w6 ⟨A2, c2, rfl, ho, q6⟩
    exact ⟨_, rfl, ⟨A2, c2, rfl⟩, SeqN.set_ [1, 2] [7] hSh hAt hDn (by kernel_rfl) (by decide) (by decide) ⟨bl_ca hT q6, A2, c2, upd_same _ _ _, ho⟩⟩
  try simp only [Act.put, List.setIfInBounds_toArray, List.set_cons_zero, List.set_cons_succ]
  obtain ⟨A2, c2, rfl⟩ := hVv3
  refine Ps.step (i := 4) (d := some 20) (u := ?uwq_5) rfl rfl (by kernel_rfl) (by kernel_rfl) (by kernel_rfl) (by kernel_rfl) ?ywq_5 ?rwq_5
  case ywq_5 =>
    refine StepS.pure (SeqN.pass (by decide)) (by rfl) (fun w9 => ?_)
    go_simp
    try rfl
  try simp only [Act.put, List.setIfInBounds_toArray, List.set_cons_zero, List.set_cons_succ]
  refine Ps.step (i := 5) (d := some 25) (u := ?uwq_6) rfl rfl (by kernel_rfl) (by kernel_rfl) (by kernel_rfl) (by kernel_rfl) ?ywq_6 ?rwq_6
  case ywq_6 =>
    refine StepS.pure (SeqN.pass (by decide)) (by rfl) (fun w9 => ?_)
    go_simp
    try rfl
  try simp only [Act.put, List.setIfInBounds_toArray, List.set_cons_zero, List.set_cons_succ]
  refine Ps.step (i := 6) (d := some 26) (u := ?uwq_7) rfl rfl (by kernel_rfl) (by kernel_rfl) (by kernel_rfl) (by kernel_rfl) ?ywq_7 ?rwq_7
  case ywq_7 =>
    refine StepS.pure (SeqN.pass (by decide)) (by rfl) (fun w9 => ?_)
    go_simp
    try rfl
  try simp only [Act.put, List.setIfInBounds_toArray, List.set_cons_zero, List.set_cons_succ]
  refine Ps.step (i := 7) (d := none) (u := undef) rfl rfl (by kernel_rfl) (by kernel_rfl) (by kernel_rfl) (by kernel_rfl) ?ywq_8 ?rwq_8
  case ywq_8 =>
    refine StepS.store [1, 2, 3] (by kernel_rfl) (by rfl) (fun L9 m9 w9 hSh hAt hDn hS => ?_)
    obtain ⟨hT, A3, c3, hv, ho⟩ := SeqN.at_ [1, 2, 3] [] hSh hAt hDn (by kernel_rfl) hS
    obtain ⟨rfl, rfl⟩ : A2 = A3 ∧ c2 = c3 := by have h9 : Value.tuple #[.agg #[.int .u32 7, .int .u64 1, .slice A2 1 c2, .int .u64 0, .int .u64 0, .int .i64 0, .bool false], .int .i64 0] = .tuple #[.agg #[.int .u32 7, .int .u64 1, .slice A3 1 c3, .int .u64 0, .int .u64 0, .int .i64 0, .bool false], .int .i64 0] := (hAt 3 (by simp)).2.symm.trans hv; simpa using h9
    refine (exec_store_blk (w := w9) 29 (.tmp 1) (.tmp 25) (by rfl) g1 29 #[.int .u32 7, .int .u64 1, .slice none 0 0, .int .u64 0, .int .u64 0, .int .i64 0, .bool false] #[.int .u32 7, .int .u64 1, .slice A2 1 c2, .int .u64 0, .int .u64 0, .int .i64 0, .bool false] (by rfl) (by rfl) (HS3.out.ca hT) rfl senderI (by simp [Value.oneCell'])).imp fun w7 hx => ⟨hx.1, SeqN.set_ [1, 2, 3] [] hSh hAt hDn (by kernel_rfl) (by decide) (by decide) ⟨(Chg.of_below hT).grown hx.2.2 (fun k e => .inl (by injection e with e; exact e.symm)), A2, c2, hv, own_past ho hx.2.2 (fun k hk e => by omega) (by omega), hx.2.1⟩⟩
  try simp only [Act.put]
  refine Ps.step (i := 8) (d := some 5) (u := ?uwq_9) rfl rfl (by kernel_rfl) (by kernel_rfl) (by kernel_rfl) (by kernel_rfl) ?ywq_9 ?rwq_9
  case ywq_9 =>
    refine StepS.pure (SeqN.pass (by decide)) (by rfl) (fun w9 => ?_)
    go_simp
    try rfl
  try simp only [Act.put, List.setIfInBounds_toArray, List.set_cons_zero, List.set_cons_succ]
  refine Ps.done (by kernel_rfl) (fun wq hS => ?_) _
  obtain ⟨hch, A3, c3, hv, ho, hN⟩ := SeqN.fin (by rfl) hS
  clear hS
  obtain ⟨rfl, rfl⟩ : A2 = A3 ∧ c2 = c3 := by have h9 : Value.tuple #[.agg #[.int .u32 7, .int .u64 1, .slice A2 1 c2, .int .u64 0, .int .u64 0, .int .i64 0, .bool false], .int .i64 0] = .tuple #[.agg #[.int .u32 7, .int .u64 1, .slice A3 1 c3, .int .u64 0, .int .u64 0, .int .i64 0, .bool false], .int .i64 0] := hv; simpa using h9
  obtain ⟨w4, rfl⟩ : ∃ x, x = wq := ⟨_, rfl⟩
  have hbel := Chg.bel b2.out hch (fun b _ e => by omega) b2.out.size
  have HR4 := HR3.out.chg hch (by omega)
  have hs4 := hch.size
  have HN4 := Lib.hid hN
  have HO4 := Lib.hid ho
  have HB4 := Lib.hid hbel
  have hcap := Lay.own_caps ho
  have z0 : w4.cell? ⟨g3, 0, none⟩ = some (.int .u32 7) := HR4.cell 0
  have z1 : w4.cell? ⟨g3, 1, none⟩ = some (.int .u64 1) := HR4.cell 1
  have z2 : w4.cell? ⟨g3, 2, none⟩ = some (.slice none 0 0) := HR4.cell 2
  have z3 : w4.cell? ⟨g3, 3, none⟩ = some (.slice none 0 0) := HR4.cell 3
  have z4 : w4.cell? ⟨g3, 4, none⟩ = some (.int .i64 2) := HR4.cell 4
  have z5 : w4.cell? ⟨g3, 5, none⟩ = some (.bool false) := HR4.cell 5
  clear hch ho hN hbel HS3 HR3 HR4 b2
  go_wp2_with fail
  refine (wkack_any _).mono ?_
  rintro e w5 ⟨rfl, q5⟩
  have q6 := bl_al (Below.refl _ w5) (.cells #[.int .i64 2, .int .u32 7, .int .u64 1, .int .u64 2, .slice none 0 0, .bool false, .int .u64 0] 47)
  have HN5 := Lib.hid ((HN4.out.ca q5).ca q6)
  have HO5 := Lib.hid (Lay.own_below (Lay.own_below HO4.out q5) q6)
  have HB5 := Lib.hid (bl_al (bl_ca HB4.out q5) (.cells #[.int .i64 2, .int .u32 7, .int .u64 1, .int .u64 2, .slice none 0 0, .bool false, .int .u64 0] 47))
  have hp5 := Blk.new w5 47 #[.int .i64 2, .int .u32 7, .int .u64 1, .int .u64 2, .slice none 0 0, .bool false, .int .u64 0]
  have hs5 := q5.size
  have hs6 := q6.size
  have hg6 := hp5.lt
  clear z0 z1 z2 z3 z4 z5 q5 q6 HN4 HO4 HB4
  have x0 : (w5.alloc (.cells #[.int .i64 2, .int .u32 7, .int .u64 1, .int .u64 2, .slice none 0 0, .bool false, .int .u64 0] 47)).cell? ⟨g1, 0, none⟩ = some (.int .u32 7) := HN5.out.cell 0
  have x1 : (w5.alloc (.cells #[.int .i64 2, .int .u32 7, .int .u64 1, .int .u64 2, .slice none 0 0, .bool false, .int .u64 0] 47)).cell? ⟨g1, 1, none⟩ = some (.int .u64 1) := HN5.out.cell 1
  have x2 : (w5.alloc (.cells #[.int .i64 2, .int .u32 7, .int .u64 1, .int .u64 2, .slice none 0 0, .bool false, .int .u64 0] 47)).cell? ⟨g1, 2, none⟩ = some (.slice A2 1 c2) := HN5.out.cell 2
  have x3 : (w5.alloc (.cells #[.int .i64 2, .int .u32 7, .int .u64 1, .int .u64 2, .slice none 0 0, .bool false, .int .u64 0] 47)).cell? ⟨g1, 3, none⟩ = some (.int .u64 0) := HN5.out.cell 3
  have x4 : (w5.alloc (.cells #[.int .i64 2, .int .u32 7, .int .u64 1, .int .u64 2, .slice none 0 0, .bool false, .int .u64 0] 47)).cell? ⟨g1, 4, none⟩ = some (.int .u64 0) := HN5.out.cell 4
  have x5 : (w5.alloc (.cells #[.int .i64 2, .int .u32 7, .int .u64 1, .int .u64 2, .slice none 0 0, .bool false, .int .u64 0] 47)).cell? ⟨g1, 5, none⟩ = some (.int .i64 0) := HN5.out.cell 5
  have x6 : (w5.alloc (.cells #[.int .i64 2, .int .u32 7, .int .u64 1, .int .u64 2, .slice none 0 0, .bool false, .int .u64 0] 47)).cell? ⟨g1, 6, none⟩ = some (.bool false) := HN5.out.cell 6
  have y0 : (w5.alloc (.cells #[.int .i64 2, .int .u32 7, .int .u64 1, .int .u64 2, .slice none 0 0, .bool false, .int .u64 0] 47)).cell? ⟨w5.heap.size, 0, none⟩ = some (.int .i64 2) := hp5.cell 0
  have y1 : (w5.alloc (.cells #[.int .i64 2, .int .u32 7, .int .u64 1, .int .u64 2, .slice none 0 0, .bool false, .int .u64 0] 47)).cell? ⟨w5.heap.size, 1, none⟩ = some (.int .u32 7) := hp5.cell 1
  have y2 : (w5.alloc (.cells #[.int .i64 2, .int .u32 7, .int .u64 1, .int .u64 2, .slice none 0 0, .bool false, .int .u64 0] 47)).cell? ⟨w5.heap.size, 2, none⟩ = some (.int .u64 1) := hp5.cell 2
  have y3 : (w5.alloc (.cells #[.int .i64 2, .int .u32 7, .int .u64 1, .int .u64 2, .slice none 0 0, .bool false, .int .u64 0] 47)).cell? ⟨w5.heap.size, 3, none⟩ = some (.int .u64 2) := hp5.cell 3
  have y4 : (w5.alloc (.cells #[.int .i64 2, .int .u32 7, .int .u64 1, .int .u64 2, .slice none 0 0, .bool false, .int .u64 0] 47)).cell? ⟨w5.heap.size, 4, none⟩ = some (.slice none 0 0) := hp5.cell 4
  have y5 : (w5.alloc (.cells #[.int .i64 2, .int .u32 7, .int .u64 1, .int .u64 2, .slice none 0 0, .bool false, .int .u64 0] 47)).cell? ⟨w5.heap.size, 5, none⟩ = some (.bool false) := hp5.cell 5
  have y6 : (w5.alloc (.cells #[.int .i64 2, .int .u32 7, .int .u64 1, .int .u64 2, .slice none 0 0, .bool false, .int .u64 0] 47)).cell? ⟨w5.heap.size, 6, none⟩ = some (.int .u64 0) := hp5.cell 6
  have HP5 := Lib.hid hp5
  clear hp5
  go_wp2_with fail
  clear x0 x1 x2 x3 x4 x5 x6 y0 y1 y2 y3 y4 y5 y6
  generalize w5.alloc (.cells #[.int .i64 2, .int .u32 7, .int .u64 1, .int .u64 2, .slice none 0 0, .bool false, .int .u64 0] 47) = w6 at *
  refine (wkacked_any A2 c2 w6 w3.heap.size (by omega) (Lay.own_rd HO5.out (fun _ h _ => h) (fun _ h _ => h))).mono ?_
  rintro e w7 ⟨A3, c3, rfl, ho, q7⟩
  have HN7 := Lib.hid (HN5.out.ca q7)
  have HP7 := Lib.hid (HP5.out.ca q7)
  have HO7 := Lib.hid ho
  have HB7 := Lib.hid (bl_ca HB5.out q7)
  have hs7 := q7.size
  clear q7 ho HN5 HP5 HO5 HB5
  go_wp2_with (refine wpList_store_blk rfl 29 (.tmp 1) (.tmp 36) rfl g1 29 _ #[.int .u32 7, .int .u64 1, .slice A3 1 c3, .int .u64 0, .int .u64 2, .int .i64 0, .bool false] rfl rfl HN7.out rfl senderI (by simp [Value.oneCell']) ?_; intro wz hZ gz; have x0 : wz.cell? ⟨g1, 0, none⟩ = some (.int .u32 7) := hZ.cell 0; have x1 : wz.cell? ⟨g1, 1, none⟩ = some (.int .u64 1) := hZ.cell 1; have x2 : wz.cell? ⟨g1, 2, none⟩ = some (.slice A3 1 c3) := hZ.cell 2; have x3 : wz.cell? ⟨g1, 3, none⟩ = some (.int .u64 0) := hZ.cell 3; have x4 : wz.cell? ⟨g1, 4, none⟩ = some (.int .u64 2) := hZ.cell 4; have x5 : wz.cell? ⟨g1, 5, none⟩ = some (.int .i64 0) := hZ.cell 5; have x6 : wz.cell? ⟨g1, 6, none⟩ = some (.bool false) := hZ.cell 6)
  have HB8 := Lib.hid (bl_gr HB7.out gz (by omega))
  have HP8 := Lib.hid (HP7.out.apart gz (by omega))
  have hr8 := Lay.own_rd (F := fun _ => True) (own_past HO7.out gz (fun k hk e => by omega) (by omega)) (fun _ _ _ => trivial) (fun _ _ _ => trivial)
  refine (wktick_any A3 c3 wz (Lay.rd_weak (fun _ _ hl => hl) hr8)).mono ?_
  rintro e w9 ⟨t, A4, n4, c4, gp, pc, rfl, hgp, hseq, q9⟩
  obtain ⟨t1, t2, tq, t4, t5, t6, t7⟩ := t
  have q10 := bl_al (Below.refl _ w9) (.cells (SC.cells ⟨t1, t2, tq, t4, t5, t6, t7⟩ A4 n4 c4) 29)
  have k2 : (w9.alloc (.cells (SC.cells ⟨t1, t2, tq, t4, t5, t6, t7⟩ A4 n4 c4) 29)).cell? ⟨gp, 2, none⟩ = some (.int .u64 1) := (q10.cell (p := ⟨gp, 2, none⟩) hgp).trans hseq
  have k3 : (w9.alloc (.cells (SC.cells ⟨t1, t2, tq, t4, t5, t6, t7⟩ A4 n4 c4) 29)).cell? ⟨w5.heap.size, 3, none⟩ = some (.int .u64 2) := ((HP8.out.ca q9).ca q10).cell 3
  have HBL := Lib.hid (bl_ca (bl_ca HB8.out q9) q10)
  clear HO7 HN7 HP7 HB7 HB8 HP8 q9 q10 hseq hgp hr8 x0 x1 x2 x3 x4 x5 x6 hZ gz
  go_wp2
  go_ret
  exact ⟨rfl, HBL.out⟩
end Go.Proofs.Ytojghgbaiiajfaa
/- The references' equality of values, rows, batches and senders. Conditions: the slices read so. -/
namespace Go.Proofs.Ytojghgbaiiajfaa
open Go.RowKit
theorem sign_any (b : Bool) (w : World) : Calls Try.prog 123 #[.bool b] w fun e w' => (∃ z : Int, e = .returned (.int .i64 z) ∧ z ≠ 0) ∧ w = w' := by
  cases b
  all_goals
    go_enter Try.func123, Try.ntmps123
    go_wp2
    go_ret
    exact ⟨⟨_, rfl, by decide⟩, rfl⟩
/-- a number that is 0 where these are one, and only there -/
def Zr (P : Prop) (w : World) (e : Ending) (w' : World) : Prop := ∃ z : Int, e = .returned (.int .i64 z) ∧ (z = 0 ↔ P) ∧ Below w.heap.size w w'
theorem VV.ext' {a b : VV} (h0 : a.k = b.k) (h1 : a.n = b.n) (h2 : a.u = b.u) (h3 : a.s.toList = b.s.toList) : a = b := (eqVV_iff a b).1 (by simp [eqVV, h0, h1, h2, h3])
set_option maxRecDepth 100000 in
set_option maxHeartbeats 4000000 in
theorem value05_any (a b : VV) (w : World) : Calls Try.prog 122 #[.agg #[.int .i64 a.k, .int .i64 a.n, .int .u64 a.u, .string a.s], .agg #[.int .i64 b.k, .int .i64 b.n, .int .u64 b.u, .string b.s]] w (Zr (a = b) w) := by
  have b1 := bl_al (bl_al (Below.refl w.heap.size w) (.cells #[.int .i64 a.k, .int .i64 a.n, .int .u64 a.u, .string a.s] 142)) (.cells #[.int .i64 b.k, .int .i64 b.n, .int .u64 b.u, .string b.s] 142)
  have HB := Lib.hid b1
  have HX := Lib.hid (fun h0 h1 h2 h3 => @VV.ext' a b h0 h1 h2 h3)
  have HN := Lib.hid (fun h : a = b => (⟨by rw [h], by rw [h], by rw [h], by rw [h]⟩ : a.k = b.k ∧ a.n = b.n ∧ a.u = b.u ∧ a.s.toList = b.s.toList))
  have HSG := Lib.hid (fun z W => sign_any z W)
  obtain ⟨P, hP⟩ : ∃ P : Prop, P = (a = b) := ⟨_, rfl⟩
  rw [← hP] at HX HN ⊢
  clear hP b1
  obtain ⟨ak, an, au, sa⟩ := a
  obtain ⟨bk, bn, bu, sb⟩ := b
  dsimp only at *
  by_cases h0 : ak = bk
  · subst h0
    by_cases h1 : an = bn
    · subst h1
      by_cases h2 : au = bu
      · subst h2
        by_cases h3 : sa.toList = sb.toList
        · have HP := Lib.hid (HX.out rfl rfl rfl h3)
          go_enter Try.func122, Try.ntmps122
          go_wp2
          go_ret
          exact ⟨0, rfl, ⟨fun _ => HP.out, fun _ => rfl⟩, HB.out⟩
        · have d0 : (sa.toList == sb.toList) = false := by simpa using h3
          have d : (!(sa.toList == sb.toList)) = true := by rw [d0]; rfl
          have HP := Lib.hid (fun hp => h3 (HN.out hp).2.2.2)
          go_enter Try.func122, Try.ntmps122
          go_wp2_with fail
          refine (HSG.out _ _).mono ?_
          rintro e w2 ⟨⟨z, rfl, hz⟩, rfl⟩
          have HZ0 := Lib.hid hz
          clear hz
          go_wp2
          go_ret
          exact ⟨z, rfl, ⟨fun h => (HZ0.out h).elim, fun hp => (HP.out hp).elim⟩, HB.out⟩
      · have d : (au != bu) = true := by simpa using h2
        have HP := Lib.hid (fun hp => h2 (HN.out hp).2.2.1)
        go_enter Try.func122, Try.ntmps122
        go_wp2_with fail
        refine (HSG.out _ _).mono ?_
        rintro e w2 ⟨⟨z, rfl, hz⟩, rfl⟩
        have HZ0 := Lib.hid hz
        clear hz
        go_wp2
        go_ret
        exact ⟨z, rfl, ⟨fun h => (HZ0.out h).elim, fun hp => (HP.out hp).elim⟩, HB.out⟩
    · have d : (an != bn) = true := by simpa using h1
      have HP := Lib.hid (fun hp => h1 (HN.out hp).2.1)
      go_enter Try.func122, Try.ntmps122
      go_wp2_with fail
      refine (HSG.out _ _).mono ?_
      rintro e w2 ⟨⟨z, rfl, hz⟩, rfl⟩
      have HZ0 := Lib.hid hz
      clear hz
      go_wp2
      go_ret
      exact ⟨z, rfl, ⟨fun h => (HZ0.out h).elim, fun hp => (HP.out hp).elim⟩, HB.out⟩
  · have d : (ak != bk) = true := by simpa using h0
    have HP := Lib.hid (fun hp => h0 (HN.out hp).1)
    go_enter Try.func122, Try.ntmps122
    go_wp2_with fail
    refine (HSG.out _ _).mono ?_
    rintro e w2 ⟨⟨z, rfl, hz⟩, rfl⟩
    have HZ0 := Lib.hid hz
    clear hz
    go_wp2
    go_ret
    exact ⟨z, rfl, ⟨fun h => (HZ0.out h).elim, fun hp => (HP.out hp).elim⟩, HB.out⟩
theorem SV.ca {w w' : World} {p : Addr} {v : VV} (h : SV w p v) (hl : p.block < w.heap.size) (q : Below w.heap.size w w') : SV w' p v :=
  ⟨(q.cell (p := p) hl).trans h.c0, (q.cell (p := ⟨p.block, p.off + 1, none⟩) hl).trans h.c1, (q.cell (p := ⟨p.block, p.off + 2, none⟩) hl).trans h.c2, (q.cell (p := ⟨p.block, p.off + 3, none⟩) hl).trans h.c3⟩
theorem cell_lt {w : World} {p : Addr} {v : Value} (h : w.cell? p = some v) : p.block < w.heap.size := cells_block h
theorem SV.lt {w : World} {p : Addr} {v : VV} (h : SV w p v) : p.block < w.heap.size := cells_block h.c0
set_option maxRecDepth 100000 in
set_option maxHeartbeats 8000000 in
theorem compare05_any (F G : Nat → Prop) (A B : Option Addr) (m c n d : Nat) (xs ys : List VV) (w : World) (hx : LV.rd w F A m xs) (hy : LV.rd w G B n ys) (hm : m ≤ 9223372036854775807) (hn : n ≤ 9223372036854775807) :
    Calls Try.prog 111 #[.slice A m c, .slice B n d] w (Zr (xs = ys) w) := by
  have HXL := Lib.hid (Lay.rd_len hx)
  have HYL := Lib.hid (Lay.rd_len hy)
  have HSG := Lib.hid (fun z W => sign_any z W)
  go_enter Try.func111, Try.ntmps111
  go_wp2_with fail
  go_loopg [5] m (fun g s wr => ∃ i : Nat, i + g = m ∧ i ≤ n ∧ s = .int .i64 i ∧ xs.take i = ys.take i ∧ Below w.heap.size w wr)
  case atStart => exact ⟨0, by omega, by omega, rfl, rfl, Below.refl _ _⟩
  case round =>
    obtain ⟨i, hi1, hin, rfl, hp, bb⟩ := hrel
    have HBB := Lib.hid bb
    have HP := Lib.hid hp
    clear hp
    by_cases hi : i < m
    · have hil : (i : Int) < (m : Int) := by omega
      have hl1 : i < m := hi
      by_cases hj : i < n
      · have hjl : (i : Int) < (n : Int) := by omega
        obtain ⟨p1, v, rfl, hv, s1⟩ := LV_at (Lay.rd_below hx bb) hi
        obtain ⟨p2, u, rfl, hu, s2⟩ := LV_at (Lay.rd_below hy bb) hj
        have HS1 := Lib.hid (fun W (q : Below wr.heap.size wr W) => s1.ca s1.lt q)
        have HS2 := Lib.hid (fun W (q : Below wr.heap.size wr W) => s2.ca s2.lt q)
        have HVI := Lib.hid hv
        have HUI := Lib.hid hu
        clear hv hu hx hy bb s1 s2
        go_wp2_with fail
        refine wp_region_ps (S := fun _ _ w' => Below wr.heap.size wr w') (by kernel_rfl) ?spswqc ?ppswqc
        case spswqc =>
          exact (Below.refl _ _).drew
        refine Ps.step (i := 0) (d := some 19) (u := ?uwqc_1) rfl rfl (by kernel_rfl) (by kernel_rfl) (by kernel_rfl) (by kernel_rfl) ?ywqc_1 ?rwqc_1
        case ywqc_1 =>
          refine StepS.pure (fun _ _ _ h => h) (by rfl) (fun w9 => ?_)
          go_simp
          try rfl
        try simp only [Act.put, List.setIfInBounds_toArray, List.set_cons_zero, List.set_cons_succ]
        refine Ps.step (i := 1) (d := some 20) (u := ?uwqc_2) rfl rfl (by kernel_rfl) (by kernel_rfl) (by kernel_rfl) (by kernel_rfl) ?ywqc_2 ?rwqc_2
        case ywqc_2 =>
          refine StepS.pure (fun _ _ _ h => h) (by rfl) (fun w9 => ?_)
          go_simp
          try rfl
        try simp only [Act.put, List.setIfInBounds_toArray, List.set_cons_zero, List.set_cons_succ]
        refine Ps.step (i := 2) (d := some 21) (u := ?uwqc_3) rfl rfl (by kernel_rfl) (by kernel_rfl) (by kernel_rfl) (by kernel_rfl) ?ywqc_3 ?rwqc_3
        case ywqc_3 =>
          refine StepS.pure (fun _ _ _ h => h) (by rfl) (fun w9 => ?_)
          go_simp
          try rfl
        try simp only [Act.put, List.setIfInBounds_toArray, List.set_cons_zero, List.set_cons_succ]
        refine Ps.step (i := 3) (d := some 22) (u := ?uwqc_4) rfl rfl (by kernel_rfl) (by kernel_rfl) (by kernel_rfl) (by kernel_rfl) ?ywqc_4 ?rwqc_4
        case ywqc_4 =>
          refine StepS.read [] (by kernel_rfl) (fun _ _ _ h => h) (by rfl) (fun L9 m9 w9 hSh hAt hDn hS => ?_)
          have hT : Below _ _ w9 := hS
          have x0 := (HS1.out w9 hT).c0
          have x1 := (HS1.out w9 hT).c1
          have x2 := (HS1.out w9 hT).c2
          have x3 := (HS1.out w9 hT).c3
          clear hT hS
          go_simp
          try rfl
        try simp only [Act.put, List.setIfInBounds_toArray, List.set_cons_zero, List.set_cons_succ]
        refine Ps.step (i := 4) (d := some 23) (u := ?uwqc_5) rfl rfl (by kernel_rfl) (by kernel_rfl) (by kernel_rfl) (by kernel_rfl) ?ywqc_5 ?rwqc_5
        case ywqc_5 =>
          refine StepS.pure (fun _ _ _ h => h) (by rfl) (fun w9 => ?_)
          go_simp
          try rfl
        try simp only [Act.put, List.setIfInBounds_toArray, List.set_cons_zero, List.set_cons_succ]
        refine Ps.step (i := 5) (d := some 24) (u := ?uwqc_6) rfl rfl (by kernel_rfl) (by kernel_rfl) (by kernel_rfl) (by kernel_rfl) ?ywqc_6 ?rwqc_6
        case ywqc_6 =>
          refine StepS.pure (fun _ _ _ h => h) (by rfl) (fun w9 => ?_)
          go_simp
          try rfl
        try simp only [Act.put, List.setIfInBounds_toArray, List.set_cons_zero, List.set_cons_succ]
        refine Ps.step (i := 6) (d := some 25) (u := ?uwqc_7) rfl rfl (by kernel_rfl) (by kernel_rfl) (by kernel_rfl) (by kernel_rfl) ?ywqc_7 ?rwqc_7
        case ywqc_7 =>
          refine StepS.pure (fun _ _ _ h => h) (by rfl) (fun w9 => ?_)
          go_simp
          try rfl
        try simp only [Act.put, List.setIfInBounds_toArray, List.set_cons_zero, List.set_cons_succ]
        refine Ps.step (i := 7) (d := some 26) (u := ?uwqc_8) rfl rfl (by kernel_rfl) (by kernel_rfl) (by kernel_rfl) (by kernel_rfl) ?ywqc_8 ?rwqc_8
        case ywqc_8 =>
          refine StepS.read [] (by kernel_rfl) (fun _ _ _ h => h) (by rfl) (fun L9 m9 w9 hSh hAt hDn hS => ?_)
          have hT : Below _ _ w9 := hS
          have x0 := (HS2.out w9 hT).c0
          have x1 := (HS2.out w9 hT).c1
          have x2 := (HS2.out w9 hT).c2
          have x3 := (HS2.out w9 hT).c3
          clear hT hS
          go_simp
          try rfl
        try simp only [Act.put, List.setIfInBounds_toArray, List.set_cons_zero, List.set_cons_succ]
        refine Ps.one (k := 8) (d := some 27) rfl rfl (by kernel_rfl) (TurnS.call (V := fun x => ∃ z : Int, x = .int .i64 z ∧ (z = 0 ↔ v = u)) ?fwqc_9 ?awqc_9 [] (by kernel_rfl) (by rfl) (fun w9 => ?hwqc_9) (fun L9 m9 w9 hSh hAt hDn hS => ?cwqc_9)) (fun v8 hVv8 => ?rwqc_9)
        case hwqc_9 => go_simp; refine ⟨?_, ?_⟩ <;> rfl
        case cwqc_9 =>
          have hT : Below _ _ w9 := hS
          refine (value05_any v u w9).mono ?_
          rintro e w8 ⟨z, rfl, hz, q8⟩
          exact ⟨_, rfl, ⟨z, rfl, hz⟩, bl_ca hT q8⟩
        try simp only [Act.put, List.setIfInBounds_toArray, List.set_cons_zero, List.set_cons_succ]
        obtain ⟨z, rfl, hz⟩ := hVv8
        have HZ := Lib.hid hz
        clear hz
        refine Ps.step (i := 9) (d := some 6) (u := ?uwqc_10) rfl rfl (by kernel_rfl) (by kernel_rfl) (by kernel_rfl) (by kernel_rfl) ?ywqc_10 ?rwqc_10
        case ywqc_10 =>
          refine StepS.pure (fun _ _ _ h => h) (by rfl) (fun w9 => ?_)
          go_simp
          try rfl
        try simp only [Act.put, List.setIfInBounds_toArray, List.set_cons_zero, List.set_cons_succ]
        refine Ps.done (by kernel_rfl) (fun wqc hS => ?_) _
        have HQ := Lib.hid (show Below wr.heap.size wr _ from hS)
        clear hS
        obtain ⟨w7, rfl⟩ : ∃ x, x = wqc := ⟨_, rfl⟩
        by_cases hz0 : z = 0
        · have d0 : ((z : Int) != 0) = false := by simpa using hz0
          have HP2 := Lib.hid (show xs.take (i + 1) = ys.take (i + 1) from by rw [List.take_add_one, List.take_add_one, HP.out, HVI.out, HUI.out, HZ.out.1 hz0])
          clear hz0
          go_wp2
          go_roundg (gk - 1)
          · exact ⟨i + 1, by omega, by omega, by go_num, HP2.out, bl_ca HBB.out HQ.out⟩
          · omega
        · have d0 : ((z : Int) != 0) = true := by simpa using hz0
          have HF := Lib.hid (show z = 0 ↔ xs = ys from ⟨fun h => (hz0 h).elim, fun h => HZ.out.2 (by have h1 := HVI.out; rw [h, HUI.out] at h1; injection h1 with h1; exact h1.symm)⟩)
          clear hz0
          go_wp2
          go_ret
          exact ⟨z, rfl, HF.out, bl_ca HBB.out HQ.out⟩
      · obtain rfl : i = n := by omega
        have hjl : (i : Int) ≤ (i : Int) := by omega
        have hne : ((m : Int) == (i : Int)) = false := by simp; omega
        have HF := Lib.hid (show ¬ xs = ys from fun h => by have h1 := HXL.out; rw [h, HYL.out] at h1; omega)
        clear hx hy bb hj
        go_wp2_with fail
        refine (HSG.out _ _).mono ?_
        rintro e w2 ⟨⟨z, rfl, hz⟩, rfl⟩
        have HZ0 := Lib.hid hz
        clear hz
        go_wp2
        go_ret
        exact ⟨z, rfl, ⟨fun h => (HZ0.out h).elim, fun hp => (HF.out hp).elim⟩, HBB.out⟩
    · obtain rfl : i = m := by omega
      have hil : (i : Int) ≤ (i : Int) := by omega
      by_cases hmn : i = n
      · subst hmn
        have HF := Lib.hid (show xs = ys from by
          have hp := HP.out
          rwa [List.take_of_length_le (by rw [HXL.out]; omega), List.take_of_length_le (by rw [HYL.out]; omega)] at hp)
        clear hx hy bb
        go_wp2
        go_ret
        exact ⟨0, rfl, ⟨fun _ => HF.out, fun _ => rfl⟩, HBB.out⟩
      · have hne : ((i : Int) == (n : Int)) = false := by simp; omega
        have HF := Lib.hid (show ¬ xs = ys from fun h => by have h1 := HXL.out; rw [h, HYL.out] at h1; omega)
        clear hx hy bb hmn
        go_wp2_with fail
        refine (HSG.out _ _).mono ?_
        rintro e w2 ⟨⟨z, rfl, hz⟩, rfl⟩
        have HZ0 := Lib.hid hz
        clear hz
        go_wp2
        go_ret
        exact ⟨z, rfl, ⟨fun h => (HZ0.out h).elim, fun hp => (HF.out hp).elim⟩, HBB.out⟩
set_option maxRecDepth 100000 in
set_option maxHeartbeats 8000000 in
theorem same05_any (F G : Nat → Prop) (A B : Option Addr) (m c n d : Nat) (xs ys : List (List VV)) (w : World) (hx : LR.rd w F A m xs) (hy : LR.rd w G B n ys) (hm : m ≤ 9223372036854775807) :
    Calls Try.prog 87 #[.slice A m c, .slice B n d] w fun e w' => e = .returned (.bool (decide (xs = ys))) ∧ Below w.heap.size w w' := by
  have hxl := Lay.rd_len hx
  have hyl := Lay.rd_len hy
  by_cases hmn : m = n
  · subst hmn
    obtain ⟨r, hr⟩ : ∃ r, r = decide (xs = ys) := ⟨_, rfl⟩
    rw [← hr]
    have HR := Lib.hid hr
    have HXL := Lib.hid hxl
    have HYL := Lib.hid hyl
    skip
    clear hr hxl hyl
    go_enter Try.func87, Try.ntmps87
    go_wp2_with fail
    go_loopg [5] m (fun g s wr => ∃ i : Nat, i + g ≤ m ∧ m ≤ i + g ∧ s = .int .i64 i ∧ xs.take i = ys.take i ∧ Below w.heap.size w wr)
    case atStart => exact ⟨0, by omega, by omega, rfl, rfl, Below.refl _ _⟩
    case round =>
      obtain ⟨i, hi1, hi2, rfl, hp, bb⟩ := hrel
      have HBB := Lib.hid bb
      have HP := Lib.hid hp
      clear hp
      by_cases hi : i < m
      · have hil : (i : Int) < (m : Int) := by omega
        obtain ⟨p1, v, B1, k1, c1, rfl, hv, e0, hk1, hk2, hr1⟩ := LR_at (Lay.rd_below hx bb) hi
        obtain ⟨p2, u, B2, k2, c2, rfl, hu, f0, hk3, hk4, hr2⟩ := LR_at (Lay.rd_below hy bb) hi
        have HE0 := Lib.hid (fun W (q : Below wr.heap.size wr W) => (q.cell (p := p1.add i) (cells_block e0)).trans e0)
        have HF0 := Lib.hid (fun W (q : Below wr.heap.size wr W) => (q.cell (p := p2.add i) (cells_block f0)).trans f0)
        have HCO := Lib.hid (fun W (q : Below wr.heap.size wr W) => compare05_any F G B1 B2 k1 c1 k2 c2 v u W (Lay.rd_below hr1 q) (Lay.rd_below hr2 q) (Nat.le_trans hk1 hk2) (Nat.le_trans hk3 hk4))
        clear hr1 hr2 e0 f0 hk1 hk2 hk3 hk4
        have HVI := Lib.hid hv
        have HUI := Lib.hid hu
        clear hv hu hx hy bb
        by_cases hvu : v = u
        · have HP2 := Lib.hid (show xs.take (i + 1) = ys.take (i + 1) from by rw [List.take_add_one, List.take_add_one, HP.out, HVI.out, HUI.out, hvu])
          have HVU := Lib.hid hvu
          clear hvu
          go_wp2_with fail
          refine wp_region_ps (S := fun _ _ w' => Below wr.heap.size wr w') (by kernel_rfl) ?spswqst ?ppswqst
          case spswqst =>
            exact (Below.refl _ _).drew
          refine Ps.step (i := 0) (d := some 17) (u := ?uwqst_11) rfl rfl (by kernel_rfl) (by kernel_rfl) (by kernel_rfl) (by kernel_rfl) ?ywqst_11 ?rwqst_11
          case ywqst_11 =>
            refine StepS.pure (fun _ _ _ h => h) (by rfl) (fun w9 => ?_)
            go_simp
            try rfl
          try simp only [Act.put, List.setIfInBounds_toArray, List.set_cons_zero, List.set_cons_succ]
          refine Ps.step (i := 1) (d := some 18) (u := ?uwqst_12) rfl rfl (by kernel_rfl) (by kernel_rfl) (by kernel_rfl) (by kernel_rfl) ?ywqst_12 ?rwqst_12
          case ywqst_12 =>
            refine StepS.pure (fun _ _ _ h => h) (by rfl) (fun w9 => ?_)
            go_simp
            try rfl
          try simp only [Act.put, List.setIfInBounds_toArray, List.set_cons_zero, List.set_cons_succ]
          refine Ps.step (i := 2) (d := some 19) (u := ?uwqst_13) rfl rfl (by kernel_rfl) (by kernel_rfl) (by kernel_rfl) (by kernel_rfl) ?ywqst_13 ?rwqst_13
          case ywqst_13 =>
            refine StepS.pure (fun _ _ _ h => h) (by rfl) (fun w9 => ?_)
            go_simp
            try rfl
          try simp only [Act.put, List.setIfInBounds_toArray, List.set_cons_zero, List.set_cons_succ]
          refine Ps.step (i := 3) (d := some 20) (u := ?uwqst_14) rfl rfl (by kernel_rfl) (by kernel_rfl) (by kernel_rfl) (by kernel_rfl) ?ywqst_14 ?rwqst_14
          case ywqst_14 =>
            refine StepS.read [] (by kernel_rfl) (fun _ _ _ h => h) (by rfl) (fun L9 m9 w9 hSh hAt hDn hS => ?_)
            have hT : Below _ _ w9 := hS
            have x0 := HE0.out w9 hT
            clear hT hS
            go_simp
            try rfl
          try simp only [Act.put, List.setIfInBounds_toArray, List.set_cons_zero, List.set_cons_succ]
          refine Ps.step (i := 4) (d := some 21) (u := ?uwqst_15) rfl rfl (by kernel_rfl) (by kernel_rfl) (by kernel_rfl) (by kernel_rfl) ?ywqst_15 ?rwqst_15
          case ywqst_15 =>
            refine StepS.pure (fun _ _ _ h => h) (by rfl) (fun w9 => ?_)
            go_simp
            try rfl
          try simp only [Act.put, List.setIfInBounds_toArray, List.set_cons_zero, List.set_cons_succ]
          refine Ps.step (i := 5) (d := some 22) (u := ?uwqst_16) rfl rfl (by kernel_rfl) (by kernel_rfl) (by kernel_rfl) (by kernel_rfl) ?ywqst_16 ?rwqst_16
          case ywqst_16 =>
            refine StepS.pure (fun _ _ _ h => h) (by rfl) (fun w9 => ?_)
            go_simp
            try rfl
          try simp only [Act.put, List.setIfInBounds_toArray, List.set_cons_zero, List.set_cons_succ]
          refine Ps.step (i := 6) (d := some 23) (u := ?uwqst_17) rfl rfl (by kernel_rfl) (by kernel_rfl) (by kernel_rfl) (by kernel_rfl) ?ywqst_17 ?rwqst_17
          case ywqst_17 =>
            refine StepS.pure (fun _ _ _ h => h) (by rfl) (fun w9 => ?_)
            go_simp
            try rfl
          try simp only [Act.put, List.setIfInBounds_toArray, List.set_cons_zero, List.set_cons_succ]
          refine Ps.step (i := 7) (d := some 24) (u := ?uwqst_18) rfl rfl (by kernel_rfl) (by kernel_rfl) (by kernel_rfl) (by kernel_rfl) ?ywqst_18 ?rwqst_18
          case ywqst_18 =>
            refine StepS.read [] (by kernel_rfl) (fun _ _ _ h => h) (by rfl) (fun L9 m9 w9 hSh hAt hDn hS => ?_)
            have hT : Below _ _ w9 := hS
            have x0 := HF0.out w9 hT
            clear hT hS
            go_simp
            try rfl
          try simp only [Act.put, List.setIfInBounds_toArray, List.set_cons_zero, List.set_cons_succ]
          refine Ps.one (k := 8) (d := some 25) rfl rfl (by kernel_rfl) (TurnS.call (V := fun x => ∃ z : Int, x = .int .i64 z ∧ (z = 0 ↔ v = u)) ?fwqst_19 ?awqst_19 [] (by kernel_rfl) (by rfl) (fun w9 => ?hwqst_19) (fun L9 m9 w9 hSh hAt hDn hS => ?cwqst_19)) (fun v8 hVv8 => ?rwqst_19)
          case hwqst_19 => go_simp; refine ⟨?_, ?_⟩ <;> rfl
          case cwqst_19 =>
            have hT : Below _ _ w9 := hS
            refine (HCO.out w9 hT).mono ?_
            rintro e w8 ⟨z, rfl, hz, q8⟩
            exact ⟨_, rfl, ⟨z, rfl, hz⟩, bl_ca hT q8⟩
          try simp only [Act.put, List.setIfInBounds_toArray, List.set_cons_zero, List.set_cons_succ]
          obtain ⟨z, rfl, hz⟩ := hVv8
          have HZ := Lib.hid hz
          clear hz
          refine Ps.step (i := 9) (d := some 26) (u := ?uwqst_20) rfl rfl (by kernel_rfl) (by kernel_rfl) (by kernel_rfl) (by kernel_rfl) ?ywqst_20 ?rwqst_20
          case ywqst_20 =>
            refine StepS.pure (fun _ _ _ h => h) (by rfl) (fun w9 => ?_)
            go_simp
            try rfl
          try simp only [Act.put, List.setIfInBounds_toArray, List.set_cons_zero, List.set_cons_succ]
          refine Ps.done (by kernel_rfl) (fun wqst hS => ?_) _
          have HBN := Lib.hid (bl_ca HBB.out (show Below wr.heap.size wr _ from hS))
          clear hS
          obtain ⟨w7, rfl⟩ : ∃ x, x = wqst := ⟨_, rfl⟩
          obtain rfl : z = 0 := HZ.out.2 HVU.out
          go_wp2
          go_roundg (gk - 1)
          · exact ⟨i + 1, by omega, by omega, by go_num, HP2.out, HBN.out⟩
          · omega
        · have HF := Lib.hid (show r = false from by
            rw [HR.out]
            refine decide_eq_false fun e => hvu ?_
            have h1 := HVI.out
            rw [e, HUI.out] at h1
            injection h1 with h1
            exact h1.symm)
          have HVU := Lib.hid hvu
          clear hvu
          go_wp2_with fail
          refine wp_region_ps (S := fun _ _ w' => Below wr.heap.size wr w') (by kernel_rfl) ?spswqsf ?ppswqsf
          case spswqsf =>
            exact (Below.refl _ _).drew
          refine Ps.step (i := 0) (d := some 17) (u := ?uwqsf_21) rfl rfl (by kernel_rfl) (by kernel_rfl) (by kernel_rfl) (by kernel_rfl) ?ywqsf_21 ?rwqsf_21
          case ywqsf_21 =>
            refine StepS.pure (fun _ _ _ h => h) (by rfl) (fun w9 => ?_)
            go_simp
            try rfl
          try simp only [Act.put, List.setIfInBounds_toArray, List.set_cons_zero, List.set_cons_succ]
          refine Ps.step (i := 1) (d := some 18) (u := ?uwqsf_22) rfl rfl (by kernel_rfl) (by kernel_rfl) (by kernel_rfl) (by kernel_rfl) ?ywqsf_22 ?rwqsf_22
          case ywqsf_22 =>
            refine StepS.pure (fun _ _ _ h => h) (by rfl) (fun w9 => ?_)
            go_simp
            try rfl
          try simp only [Act.put, List.setIfInBounds_toArray, List.set_cons_zero, List.set_cons_succ]
          refine Ps.step (i := 2) (d := some 19) (u := ?uwqsf_23) rfl rfl (by kernel_rfl) (by kernel_rfl) (by kernel_rfl) (by kernel_rfl) ?ywqsf_23 ?rwqsf_23
          case ywqsf_23 =>
            refine StepS.pure (fun _ _ _ h => h) (by rfl) (fun w9 => ?_)
            go_simp
            try rfl
          try simp only [Act.put, List.setIfInBounds_toArray, List.set_cons_zero, List.set_cons_succ]
          refine Ps.step (i := 3) (d := some 20) (u := ?uwqsf_24) rfl rfl (by kernel_rfl) (by kernel_rfl) (by kernel_rfl) (by kernel_rfl) ?ywqsf_24 ?rwqsf_24
          case ywqsf_24 =>
            refine StepS.read [] (by kernel_rfl) (fun _ _ _ h => h) (by rfl) (fun L9 m9 w9 hSh hAt hDn hS => ?_)
            have hT : Below _ _ w9 := hS
            have x0 := HE0.out w9 hT
            clear hT hS
            go_simp
            try rfl
          try simp only [Act.put, List.setIfInBounds_toArray, List.set_cons_zero, List.set_cons_succ]
          refine Ps.step (i := 4) (d := some 21) (u := ?uwqsf_25) rfl rfl (by kernel_rfl) (by kernel_rfl) (by kernel_rfl) (by kernel_rfl) ?ywqsf_25 ?rwqsf_25
          case ywqsf_25 =>
            refine StepS.pure (fun _ _ _ h => h) (by rfl) (fun w9 => ?_)
            go_simp
            try rfl
          try simp only [Act.put, List.setIfInBounds_toArray, List.set_cons_zero, List.set_cons_succ]
          refine Ps.step (i := 5) (d := some 22) (u := ?uwqsf_26) rfl rfl (by kernel_rfl) (by kernel_rfl) (by kernel_rfl) (by kernel_rfl) ?ywqsf_26 ?rwqsf_26
          case ywqsf_26 =>
            refine StepS.pure (fun _ _ _ h => h) (by rfl) (fun w9 => ?_)
            go_simp
            try rfl
          try simp only [Act.put, List.setIfInBounds_toArray, List.set_cons_zero, List.set_cons_succ]
          refine Ps.step (i := 6) (d := some 23) (u := ?uwqsf_27) rfl rfl (by kernel_rfl) (by kernel_rfl) (by kernel_rfl) (by kernel_rfl) ?ywqsf_27 ?rwqsf_27
          case ywqsf_27 =>
            refine StepS.pure (fun _ _ _ h => h) (by rfl) (fun w9 => ?_)
            go_simp
            try rfl
          try simp only [Act.put, List.setIfInBounds_toArray, List.set_cons_zero, List.set_cons_succ]
          refine Ps.step (i := 7) (d := some 24) (u := ?uwqsf_28) rfl rfl (by kernel_rfl) (by kernel_rfl) (by kernel_rfl) (by kernel_rfl) ?ywqsf_28 ?rwqsf_28
          case ywqsf_28 =>
            refine StepS.read [] (by kernel_rfl) (fun _ _ _ h => h) (by rfl) (fun L9 m9 w9 hSh hAt hDn hS => ?_)
            have hT : Below _ _ w9 := hS
            have x0 := HF0.out w9 hT
            clear hT hS
            go_simp
            try rfl
          try simp only [Act.put, List.setIfInBounds_toArray, List.set_cons_zero, List.set_cons_succ]
          refine Ps.one (k := 8) (d := some 25) rfl rfl (by kernel_rfl) (TurnS.call (V := fun x => ∃ z : Int, x = .int .i64 z ∧ (z = 0 ↔ v = u)) ?fwqsf_29 ?awqsf_29 [] (by kernel_rfl) (by rfl) (fun w9 => ?hwqsf_29) (fun L9 m9 w9 hSh hAt hDn hS => ?cwqsf_29)) (fun v8 hVv8 => ?rwqsf_29)
          case hwqsf_29 => go_simp; refine ⟨?_, ?_⟩ <;> rfl
          case cwqsf_29 =>
            have hT : Below _ _ w9 := hS
            refine (HCO.out w9 hT).mono ?_
            rintro e w8 ⟨z, rfl, hz, q8⟩
            exact ⟨_, rfl, ⟨z, rfl, hz⟩, bl_ca hT q8⟩
          try simp only [Act.put, List.setIfInBounds_toArray, List.set_cons_zero, List.set_cons_succ]
          obtain ⟨z, rfl, hz⟩ := hVv8
          have HZ := Lib.hid hz
          clear hz
          refine Ps.step (i := 9) (d := some 26) (u := ?uwqsf_30) rfl rfl (by kernel_rfl) (by kernel_rfl) (by kernel_rfl) (by kernel_rfl) ?ywqsf_30 ?rwqsf_30
          case ywqsf_30 =>
            refine StepS.pure (fun _ _ _ h => h) (by rfl) (fun w9 => ?_)
            go_simp
            try rfl
          try simp only [Act.put, List.setIfInBounds_toArray, List.set_cons_zero, List.set_cons_succ]
          refine Ps.done (by kernel_rfl) (fun wqsf hS => ?_) _
          have HBN := Lib.hid (bl_ca HBB.out (show Below wr.heap.size wr _ from hS))
          clear hS
          obtain ⟨w7, rfl⟩ : ∃ x, x = wqsf := ⟨_, rfl⟩
          have d0 : ((z : Int) != 0) = true := by simp; exact fun h => HVU.out (HZ.out.1 h)
          go_wp2
          go_ret
          exact ⟨ret_bool (by rw [HF.out]), HBN.out⟩
      · obtain rfl : i = m := by omega
        have hil : (i : Int) ≤ (i : Int) := by omega
        have HT := Lib.hid (show r = true from by
          have hp := HP.out
          rw [List.take_of_length_le (by rw [HXL.out]; omega), List.take_of_length_le (by rw [HYL.out]; omega)] at hp
          rw [HR.out]
          exact decide_eq_true hp)
        clear hx hy bb
        go_wp2
        go_ret
        exact ⟨ret_bool (by rw [HT.out]), HBB.out⟩
  · have e : decide (xs = ys) = false := decide_eq_false fun e => hmn (by rw [← hxl, ← hyl, e])
    rw [e]
    clear e hx hy hxl hyl
    go_enter Try.func87, Try.ntmps87
    go_wp2
    go_ret
    exact ⟨rfl, Below.refl _ _⟩
end Go.Proofs.Ytojghgbaiiajfaa
