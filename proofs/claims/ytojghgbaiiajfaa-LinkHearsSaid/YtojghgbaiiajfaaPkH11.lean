/- link.Put$1, link.Put. Conditions: the queue reads as these batches, the rows as these. -/
import Derived.Test.YtojghgbaiiajfaaPkH10
namespace Go.Proofs.Ytojghgbaiiajfaa
open Go.RowKit
def put1E (s : SC) (rows : List (List VV)) : Int := if rowsOk rows then putE s else 321
def noX : Nat → Prop := fun _ => False
def noY : World → Prop := fun _ => True
set_option maxRecDepth 100000 in
set_option maxHeartbeats 16000000 in
theorem put1_do (s : SC) (rows : List (List VV)) (p : Nat) (rA : Option Addr) (rn rc : Nat) (w0 : World) (Fr : Nat → Prop) (hFr : ∀ k, Fr k → k < w0.heap.size) (hp : Blk w0 p 43 #[.slice rA rn rc]) (hr : LR.rd w0 Fr rA rn rows) (hn : rn ≤ 9223372036854775807) :
  DoS 97 #[.pointer (some ⟨p, 0, none⟩)] w0 Fr s (put1E s rows) (putR s ⟨rows, false, 0⟩) noX noY := by
 intro hok w g B A n c hB hg hgB hBs hN ho
 have hlen := sendB_len hok
 have HL := Lay.own_len ho
 have HFR := Lib.hid hFr
 clear hFr
 have HP := Lib.hid (hp.ca hB)
 have HR := Lib.hid (Lay.rd_below hr hB)
 have HO := Lib.hid ho
 have HN := Lib.hid hN
 have HRL := Lib.hid (Lay.rd_len hr)
 have x0 : w.cell? ⟨p, 0, none⟩ = some (.slice rA rn rc) := HP.out.cell 0
 have HRW := Lib.hid (rows_any _ rA rn rc rows w HR.out hn)
 obtain ⟨E, hE⟩ : ∃ E, E = put1E s rows := ⟨_, rfl⟩
 rw [← hE]
 have HE := Lib.hid (show E = if rowsOk rows then putE s else 321 from hE)
 have HLN := Lib.hid HL
 clear hp hr ho hN hE hok HL
 show Calls Try.prog 97 #[.pointer (some ⟨g, 0, none⟩), .pointer (some ⟨p, 0, none⟩)] w _
 by_cases hrw : rowsOk rows = true
 · rw [hrw] at HRW
  rw [hrw, if_pos rfl] at HE
  have hr4 : rn ≤ 4 := by
   have := HRL.out
   unfold rowsOk at hrw
   simp only [Bool.and_eq_true, decide_eq_true_eq] at hrw
   omega
  clear hrw
  go_enter Try.func97, Try.ntmps97
  go_wp2_with fail
  refine HRW.out.mono ?_
  rintro e w2 ⟨rfl, q2⟩
  have hs2 := q2.size
  have HP2 := Lib.hid (HP.out.ca q2)
  have HN2 := Lib.hid (HN.out.ca q2)
  have HO2 := Lib.hid (Lay.own_below HO.out q2)
  have HR2 := Lib.hid (Lay.rd_below HR.out q2)
  have HQ2 := Lib.hid q2
  have HOB := Lib.hid (Lay.own_base HO.out)
  clear x0 HRW HP HN HO HR q2
  have x0 : w2.cell? ⟨p, 0, none⟩ = some (.slice rA rn rc) := HP2.out.cell 0
  have HCL := Lib.hid (cloneR _ rA rn rc rows w2 HR2.out (by omega))
  go_wp2_with fail
  refine HCL.out.mono ?_
  rintro e w3 ⟨rA', rc', rfl, ho3, q3⟩
  have hs3 := q3.size
  have hob := HOB.out
  have hcap := Lay.own_caps ho3
  have HPU := Lib.hid (puts_any s g A n c B ⟨rows, false, 0⟩ rA' rn rc' (fun k => k < w3.heap.size ∧ (Fr k ∨ B ≤ k)) w3 (HN2.out.ca q3)
   (Lay.own_weak (fun k hk hl => ⟨hl, .inl hk⟩) (Lay.own_below HO2.out q3)) hgB (by omega) (fun k h => h.1) (fun k h => by rintro rfl; exact h.2.elim (fun h => by have := HFR.out _ h; omega) (fun h => by omega))
   (Lay.own_rd ho3 (fun b hb hl => ⟨⟨hl, .inr (by omega)⟩, fun e => by have := (hob b e).2; omega⟩) (fun b hb hl => ⟨⟨hl, .inl hb.1⟩, fun e => by have := (hob b e).1; have := HFR.out b hb.1; omega⟩)) hcap.1 hcap.2 hlen.2.1 (by omega) (by have := HLN.out; omega))
  rw [← HE.out] at HPU
  have HB3 := Lib.hid (bl_ca HQ2.out q3)
  clear x0 HCL HP2 HN2 HO2 HR2 HQ2 ho3 q3 hob hcap
  go_wp2_with fail
  refine HPU.out.mono ?_
  rintro e w4 hpc
  rcases hpc with ⟨hE, rfl, q4⟩ | ⟨hE, rfl, A2, c2, hb4, ho4, hc4⟩
  · have HB4 := Lib.hid (bl_ca HB3.out q4)
   have HEN := Lib.hid hE
   clear HPU hE q4
   go_wp2
   go_ret
   exact ⟨rfl, Chg.of_below HB4.out, trivial, fun h => absurd h HEN.out⟩
  · have HC4 := Lib.hid hc4
   have HB4 := Lib.hid hb4
   have HO4 := Lib.hid ho4
   have HEN := Lib.hid hE
   clear HPU hE hc4 hb4 ho4
   go_wp2
   go_ret
   refine ⟨by rw [HEN.out]; rfl, (Chg.of_below HB3.out).trans (HC4.out.weak (fun b _ h => ?_)), trivial, fun _ => ⟨A2, n + 1, c2, HB4.out, Lay.own_weak (fun k hk _ => ⟨Nat.lt_of_lt_of_le hk.1 HC4.out.size, hk.2⟩) HO4.out⟩⟩
   rcases h with h | h
   · exact .inl h
   · exact .inr (.inl h)
 · have hf : rowsOk rows = false := by simpa using hrw
  rw [hf] at HRW
  rw [hf] at HE
  have HE2 := Lib.hid (show E = 321 from HE.out)
  clear hrw hf HE
  go_enter Try.func97, Try.ntmps97
  go_wp2_with fail
  refine HRW.out.mono ?_
  rintro e w2 ⟨rfl, q2⟩
  have HB2 := Lib.hid q2
  clear x0 q2 HRW
  go_wp2
  go_ret
  exact ⟨by rw [HE2.out]; rfl, Chg.of_below HB2.out, trivial, fun h => absurd (HE2.out.symm.trans h) (by decide)⟩
/-- what link.sends answers, with the answer's parts -/
def SendsO (Fr : Nat → Prop) (s : SC) (E : Int) (s2 : SC) (X : Nat → Prop) (Y : World → Prop) (w : World) (C : Array Value) (N : Int) (w' : World) : Prop :=
 if sendB s then Chg X w w' ∧ Y w' ∧ ((E ≠ 0 ∧ C = zeroS.cells none 0 0 ∧ N = E) ∨ (E = 0 ∧ N = 0 ∧ ∃ A2 n2 c2, C = s2.cells A2 n2 c2 ∧ LB3.own 45 w' w.heap.size (fun k => k < w'.heap.size ∧ (Fr k ∨ w.heap.size + 2 ≤ k)) A2 n2 c2 s2.q))
 else C = zeroS.cells none 0 0 ∧ N = 320 ∧ Below w.heap.size w w'
theorem sends_o {Fr : Nat → Prop} {s : SC} {E : Int} {s2 : SC} {X : Nat → Prop} {Y : World → Prop} {w w' : World} {e : Ending} (h : SendsC Fr s E s2 X Y w e w') : ∃ (t : SC) (A : Option Addr) (n c : Nat) (N : Int), e = .returned (.tuple #[.agg (t.cells A n c), .int .i64 N]) ∧ SendsO Fr s E s2 X Y w (t.cells A n c) N w' := by
 unfold SendsC at h
 cases hs : sendB s
 · rw [hs] at h
  refine ⟨zeroS, none, 0, 0, 320, h.1, ?_⟩
  unfold SendsO
  rw [hs]
  exact ⟨rfl, rfl, h.2⟩
 · rw [hs] at h
  obtain ⟨h1, h2, h3, h4⟩ := h
  by_cases hE : E = 0
  · obtain ⟨A2, n2, c2, he, ho⟩ := h4 hE
   refine ⟨s2, A2, n2, c2, 0, he, ?_⟩
   unfold SendsO
   rw [hs]
   exact ⟨h1, h2, .inr ⟨hE, rfl, A2, n2, c2, rfl, ho⟩⟩
  · refine ⟨zeroS, none, 0, 0, E, h3 hE, ?_⟩
   unfold SendsO
   rw [hs]
   exact ⟨h1, h2, .inl ⟨hE, rfl, rfl⟩⟩
/-- the caller has laid blocks of its own and stores the answer into one of them -/
theorem SendsO.out {Fr : Nat → Prop} {s : SC} {E : Int} {s2 : SC} {X X' : Nat → Prop} {Y : World → Prop} {w w1 w2 w3 : World} {C : Array Value} {N : Int} {k : Nat} (h : SendsO Fr s E s2 X Y w1 C N w2) (b1 : Below w.heap.size w w1) (gz : w2.grownBy w3 (some k))
  (hFr : ∀ b, Fr b → b < k) (hk : w.heap.size ≤ k) (hk1 : k < w1.heap.size) (h2 : w.heap.size + 2 ≤ w1.heap.size) (hX : ∀ b, X b → b < w.heap.size → X' b) (hY : ∀ w1 w2, Y w1 → w1.grownBy w2 (some k) → Y w2) : SendsO Fr s E s2 X' Y w C N w3 := by
 unfold SendsO at h ⊢
 cases hs : sendB s
 · rw [hs] at h
  exact ⟨h.1, h.2.1, bl_gr (bl_ca b1 (h.2.2)) gz hk⟩
 · rw [hs] at h
  obtain ⟨hc, hy, h3⟩ := h
  have hs1 := b1.size
  have hC : Chg X' w w2 := ⟨hc.os.trans b1.os, hc.tape.trans b1.tape, hc.output.trans b1.output, Nat.le_trans hs1 hc.size, fun b hb hx => (hc.block b (by omega) (fun h => hx (hX b h hb))).trans (b1.block b hb)⟩
  refine ⟨hC.grown gz (fun j e => .inr (by injection e with e; omega)), hY _ _ hy gz, ?_⟩
  rcases h3 with h3 | ⟨hE, hN, A2, n2, c2, hC2, ho⟩
  · exact .inl h3
  · refine .inr ⟨hE, hN, A2, n2, c2, hC2, ?_⟩
   have hob := Lay.own_base ho
   exact Lay.own_lessB (Lay.own_weak (fun j hj _ => ⟨Nat.lt_of_lt_of_le hj.1 gz.size, by rcases hj.2 with h | h; exact .inl h; exact .inr (by omega)⟩) (Lay.own_same ho (fun j e => gz.block j (hob j e).2 (fun e2 => by injection e2 with e2; have := (hob j e).1; omega)) (fun b hb _ hl => gz.block b hl (fun e2 => by injection e2 with e2; exact hb.2.elim (fun h => by have := hFr b h; omega) (fun h => by omega))))) hs1
theorem SendsO.blk {Fr : Nat → Prop} {s : SC} {E : Int} {s2 : SC} {X : Nat → Prop} {Y : World → Prop} {w w' : World} {C : Array Value} {N : Int} {g : Nat} {t : TypeId} {cs : Array Value} (h : SendsO Fr s E s2 X Y w C N w') (hb : Blk w g t cs) (hx : ¬ X g) : Blk w' g t cs := by
 unfold SendsO at h
 cases hs : sendB s
 · rw [hs] at h
  exact hb.ca h.2.2
 · rw [hs] at h
  exact hb.chg h.1 hx
set_option maxRecDepth 100000 in
set_option maxHeartbeats 16000000 in
theorem put_any (Fr : Nat → Prop) (s : SC) (A : Option Addr) (n c : Nat) (rows : List (List VV)) (rA : Option Addr) (rn rc : Nat) (w : World) (hFr : ∀ k, Fr k → k < w.heap.size) (h : LB3.rd w Fr A n s.q) (hr : LR.rd w Fr rA rn rows) (hn : n ≤ 9223372036854775807) (hrn : rn ≤ 9223372036854775807) (h0 : 0 ≤ s.base) :
  Calls Try.prog 47 #[.agg (s.cells A n c), .slice rA rn rc] w fun e w' => ∃ (t : SC) (A' : Option Addr) (n' c' : Nat) (N : Int), e = .returned (.tuple #[.agg (t.cells A' n' c'), .int .i64 N]) ∧ SendsO Fr s (put1E s rows) (putR s ⟨rows, false, 0⟩) noX noY w (t.cells A' n' c') N w' := by
 have q1 := bl_al (Below.refl w.heap.size w) (.cells (s.cells A n c) 29)
 have q2 := bl_al (Below.refl (w.alloc (.cells (s.cells A n c) 29)).heap.size (w.alloc (.cells (s.cells A n c) 29))) (.cells #[.slice rA rn rc] 43)
 have q12 := bl_ca q1 q2
 have hsz2 : ((w.alloc (.cells (s.cells A n c) 29)).alloc (.cells #[.slice rA rn rc] 43)).heap.size = w.heap.size + 2 := by simp only [World.size_alloc]
 have HS2 := (Blk.new w 29 (s.cells A n c)).ca q2
 have HP2 : Blk ((w.alloc (.cells (s.cells A n c) 29)).alloc (.cells #[.slice rA rn rc] 43)) (w.heap.size + 1) 43 #[.slice rA rn rc] := Blk.mk' (by simp only [World.size_alloc])
 generalize hw2 : (w.alloc (.cells (s.cells A n c) 29)).alloc (.cells #[.slice rA rn rc] 43) = w2 at *
 have q3 := bl_al (Below.refl w2.heap.size w2) (.cells (zeroS.cells none 0 0) 29)
 have HZ := Lib.hid (show Blk (w2.alloc (.cells (zeroS.cells none 0 0) 29)) (w.heap.size + 2) 29 (zeroS.cells none 0 0) from by rw [← hsz2]; exact Blk.new _ _ _)
 have HB := Lib.hid (bl_ca q12 q3)
 have hsz : (w2.alloc (.cells (zeroS.cells none 0 0) 29)).heap.size = w.heap.size + 3 := by simp only [World.size_alloc]; omega
 have HSE := Lib.hid (sends_any Fr s A n c 97 #[.pointer (some ⟨w.heap.size + 1, 0, none⟩)] (put1E s rows) (putR s ⟨rows, false, 0⟩) noX noY _ (Lay.rd_below (Lay.rd_below h q12) q3) (fun k h => by have := hFr k h; omega) hn h0 (Go.Proofs.enters_of Try.func97 (by kernel_rfl) rfl)
  (put1_do s rows (w.heap.size + 1) rA rn rc _ Fr (fun k h => by have := hFr k h; omega) (HP2.ca q3) (Lay.rd_below (Lay.rd_below hr q12) q3) hrn) (fun k h => h.elim) (fun _ _ h _ => h))
 have HS := Lib.hid (HS2.ca q3)
 subst hw2
 clear h hr q1 q2 q12 q3 HS2 HP2 hsz2
 go_enter Try.func47, Try.ntmps47
 go_wp2_with (refine wpList_load_blk rfl 29 (.tmp 2) rfl w.heap.size rfl 29 _ (s.cells A n c) HS.out rfl rfl senderI ?_)
 refine HSE.out.mono ?_
 clear HSE
 rintro e w4 h4
 obtain ⟨t, A', n', c', N, rfl, ho⟩ := sends_o h4
 have HZ4 := Lib.hid (ho.blk HZ.out (fun h => h))
 have HO := Lib.hid ho
 clear h4 ho HS HZ
 go_wp2_with (refine wpList_store_blk rfl 29 (.tmp 4) (.tmp 9) rfl (w.heap.size + 2) 29 _ (t.cells A' n' c') rfl rfl HZ4.out rfl senderI (by obtain ⟨s1, s2, s3, s4, s5, s6, s7⟩ := t; simp [Value.oneCell', SC.cells]) ?_; intro wz hZ gz)
 exact bodyPost_ret (res2 Try.results47 rfl rfl hZ Try.underlying29 rfl senderI) rfl ⟨t, A', n', c', N, rfl, HO.out.out HB.out gz (fun k h => by have := hFr k h; omega) (by omega) (by omega) (by omega) (fun b h _ => h.elim) (fun _ _ h _ => h)⟩
end Go.Proofs.Ytojghgbaiiajfaa
