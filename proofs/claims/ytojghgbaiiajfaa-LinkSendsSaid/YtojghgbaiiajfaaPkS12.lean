/- link.Put$1, link.Put. Conditions: the queue reads as these batches, the rows as these. -/
import Derived.Test.YtojghgbaiiajfaaPkS11
namespace Go.Proofs.Ytojghgbaiiajfaa
open Go.RowKit
def put1E (s : SC) (rows : List (List VV)) : Int := if rowsOk rows then putE s else 321
def noX : Nat → Prop := fun _ => False
def noY : World → Prop := fun _ => True
set_option maxRecDepth 100000 in
set_option maxHeartbeats 16000000 in
theorem put1_do (s : SC) (rows : List (List VV)) (p : Nat) (rA : Option Addr) (rn rc : Nat) (w0 : World) (Fr : Nat → Prop) (hFr : ∀ k, Fr k → k < w0.heap.size) (hp : Blk w0 p 43 #[.slice rA rn rc]) (hr : LR.rd w0 Fr rA rn rows) (hn : rn ≤ 9223372036854775807) :
    DoS 97 #[.pointer (some ⟨p, 0, none⟩)] w0 Fr s (put1E s rows) (putR s ⟨rows, false, 0⟩) noX noY := by
  intro hok w g B A n c hB hg hgB hBs hN ho
  have hlen := sendB_len hok
  have HL := Lay.own_len ho
  have HFR := Lib.hid hFr
  clear hFr
  have HP := Lib.hid (hp.ca hB)
  have HR := Lib.hid (Lay.rd_below hr hB)
  have HO := Lib.hid ho
  have HN := Lib.hid hN
  have HRL := Lib.hid (Lay.rd_len hr)
  have x0 : w.cell? ⟨p, 0, none⟩ = some (.slice rA rn rc) := HP.out.cell 0
  have HRW := Lib.hid (rows_any _ rA rn rc rows w HR.out hn)
  obtain ⟨E, hE⟩ : ∃ E, E = put1E s rows := ⟨_, rfl⟩
  rw [← hE]
  have HE := Lib.hid (show E = if rowsOk rows then putE s else 321 from hE)
  have HLN := Lib.hid HL
  clear hp hr ho hN hE hok HL
  show Calls Try.prog 97 #[.pointer (some ⟨g, 0, none⟩), .pointer (some ⟨p, 0, none⟩)] w _
  by_cases hrw : rowsOk rows = true
  · rw [hrw] at HRW
    rw [hrw, if_pos rfl] at HE
    have hr4 : rn ≤ 4 := by
      have := HRL.out
      unfold rowsOk at hrw
      simp only [Bool.and_eq_true, decide_eq_true_eq] at hrw
      omega
    clear hrw
    go_enter Try.func97, Try.ntmps97
    go_wp2_with fail
    refine HRW.out.mono ?_
    rintro e w2 ⟨rfl, q2⟩
    have hs2 := q2.size
    have HP2 := Lib.hid (HP.out.ca q2)
    have HN2 := Lib.hid (HN.out.ca q2)
    have HO2 := Lib.hid (Lay.own_below HO.out q2)
    have HR2 := Lib.hid (Lay.rd_below HR.out q2)
    have HQ2 := Lib.hid q2
    have HOB := Lib.hid (Lay.own_base HO.out)
    clear x0 HRW HP HN HO HR q2
    have x0 : w2.cell? ⟨p, 0, none⟩ = some (.slice rA rn rc) := HP2.out.cell 0
    have HCL := Lib.hid (cloneR _ rA rn rc rows w2 HR2.out (by omega))
    go_wp2_with fail
    refine HCL.out.mono ?_
    rintro e w3 ⟨rA', rc', rfl, ho3, q3⟩
    have hs3 := q3.size
    have hob := HOB.out
    have hcap := Lay.own_caps ho3
    have HPU := Lib.hid (puts_any s g A n c B ⟨rows, false, 0⟩ rA' rn rc' (fun k => k < w3.heap.size ∧ (Fr k ∨ B ≤ k)) w3 (HN2.out.ca q3)
      (Lay.own_weak (fun k hk hl => ⟨hl, .inl hk⟩) (Lay.own_below HO2.out q3)) hgB (by omega) (fun k h => h.1) (fun k h => by rintro rfl; exact h.2.elim (fun h => by have := HFR.out _ h; omega) (fun h => by omega))
      (Lay.own_rd ho3 (fun b hb hl => ⟨⟨hl, .inr (by omega)⟩, fun e => by have := (hob b e).2; omega⟩) (fun b hb hl => ⟨⟨hl, .inl hb.1⟩, fun e => by have := (hob b e).1; have := HFR.out b hb.1; omega⟩)) hcap.1 hcap.2 hlen.2.1 (by omega) (by have := HLN.out; omega))
    rw [← HE.out] at HPU
    have HB3 := Lib.hid (bl_ca HQ2.out q3)
    clear x0 HCL HP2 HN2 HO2 HR2 HQ2 ho3 q3 hob hcap
    go_wp2_with fail
    refine HPU.out.mono ?_
    rintro e w4 hpc
    rcases hpc with ⟨hE, rfl, q4⟩ | ⟨hE, rfl, A2, c2, hb4, ho4, hc4⟩
    · have HB4 := Lib.hid (bl_ca HB3.out q4)
      have HEN := Lib.hid hE
      clear HPU hE q4
      go_wp2
      go_ret
      exact ⟨rfl, Chg.of_below HB4.out, trivial, fun h => absurd h HEN.out⟩
    · have HC4 := Lib.hid hc4
      have HB4 := Lib.hid hb4
      have HO4 := Lib.hid ho4
      have HEN := Lib.hid hE
      clear HPU hE hc4 hb4 ho4
      go_wp2
      go_ret
      refine ⟨by rw [HEN.out]; rfl, (Chg.of_below HB3.out).trans (HC4.out.weak (fun b _ h => ?_)), trivial, fun _ => ⟨A2, n + 1, c2, HB4.out, Lay.own_weak (fun k hk _ => ⟨Nat.lt_of_lt_of_le hk.1 HC4.out.size, hk.2⟩) HO4.out⟩⟩
      rcases h with h | h
      · exact .inl h
      · exact .inr (.inl h)
  · have hf : rowsOk rows = false := by simpa using hrw
    rw [hf] at HRW
    rw [hf] at HE
    have HE2 := Lib.hid (show E = 321 from HE.out)
    clear hrw hf HE
    go_enter Try.func97, Try.ntmps97
    go_wp2_with fail
    refine HRW.out.mono ?_
    rintro e w2 ⟨rfl, q2⟩
    have HB2 := Lib.hid q2
    clear x0 q2 HRW
    go_wp2
    go_ret
    exact ⟨by rw [HE2.out]; rfl, Chg.of_below HB2.out, trivial, fun h => absurd (HE2.out.symm.trans h) (by decide)⟩
/-- what link.sends answers, with the answer's parts -/
def SendsO (Fr : Nat → Prop) (s : SC) (E : Int) (s2 : SC) (X : Nat → Prop) (Y : World → Prop) (w : World) (C : Array Value) (N : Int) (w' : World) : Prop :=
  if sendB s then Chg X w w' ∧ Y w' ∧ ((E ≠ 0 ∧ C = zeroS.cells none 0 0 ∧ N = E) ∨ (E = 0 ∧ N = 0 ∧ ∃ A2 n2 c2, C = s2.cells A2 n2 c2 ∧ LB3.own 45 w' w.heap.size (fun k => k < w'.heap.size ∧ (Fr k ∨ w.heap.size + 2 ≤ k)) A2 n2 c2 s2.q))
  else C = zeroS.cells none 0 0 ∧ N = 320 ∧ Below w.heap.size w w'
theorem sends_o {Fr : Nat → Prop} {s : SC} {E : Int} {s2 : SC} {X : Nat → Prop} {Y : World → Prop} {w w' : World} {e : Ending} (h : SendsC Fr s E s2 X Y w e w') : ∃ (t : SC) (A : Option Addr) (n c : Nat) (N : Int), e = .returned (.tuple #[.agg (t.cells A n c), .int .i64 N]) ∧ SendsO Fr s E s2 X Y w (t.cells A n c) N w' := by
  unfold SendsC at h
  cases hs : sendB s
  · rw [hs] at h
    refine ⟨zeroS, none, 0, 0, 320, h.1, ?_⟩
    unfold SendsO
    rw [hs]
    exact ⟨rfl, rfl, h.2⟩
  · rw [hs] at h
    obtain ⟨h1, h2, h3, h4⟩ := h
    by_cases hE : E = 0
    · obtain ⟨A2, n2, c2, he, ho⟩ := h4 hE
      refine ⟨s2, A2, n2, c2, 0, he, ?_⟩
      unfold SendsO
      rw [hs]
      exact ⟨h1, h2, .inr ⟨hE, rfl, A2, n2, c2, rfl, ho⟩⟩
    · refine ⟨zeroS, none, 0, 0, E, h3 hE, ?_⟩
      unfold SendsO
      rw [hs]
      exact ⟨h1, h2, .inl ⟨hE, rfl, rfl⟩⟩
/-- the caller has laid blocks of its own and stores the answer into one of them -/
theorem SendsO.out {Fr : Nat → Prop} {s : SC} {E : Int} {s2 : SC} {X X' : Nat → Prop} {Y : World → Prop} {w w1 w2 w3 : World} {C : Array Value} {N : Int} {k : Nat} (h : SendsO Fr s E s2 X Y w1 C N w2) (b1 : Below w.heap.size w w1) (gz : w2.grownBy w3 (some k))
    (hFr : ∀ b, Fr b → b < k) (hk : w.heap.size ≤ k) (hk1 : k < w1.heap.size) (h2 : w.heap.size + 2 ≤ w1.heap.size) (hX : ∀ b, X b → b < w.heap.size → X' b) (hY : ∀ w1 w2, Y w1 → w1.grownBy w2 (some k) → Y w2) : SendsO Fr s E s2 X' Y w C N w3 := by
  unfold SendsO at h ⊢
  cases hs : sendB s
  · rw [hs] at h
    exact ⟨h.1, h.2.1, bl_gr (bl_ca b1 (h.2.2)) gz hk⟩
  · rw [hs] at h
    obtain ⟨hc, hy, h3⟩ := h
    have hs1 := b1.size
    have hC : Chg X' w w2 := ⟨hc.os.trans b1.os, hc.tape.trans b1.tape, hc.output.trans b1.output, Nat.le_trans hs1 hc.size, fun b hb hx => (hc.block b (by omega) (fun h => hx (hX b h hb))).trans (b1.block b hb)⟩
    refine ⟨hC.grown gz (fun j e => .inr (by injection e with e; omega)), hY _ _ hy gz, ?_⟩
    rcases h3 with h3 | ⟨hE, hN, A2, n2, c2, hC2, ho⟩
    · exact .inl h3
    · refine .inr ⟨hE, hN, A2, n2, c2, hC2, ?_⟩
      have hob := Lay.own_base ho
      exact Lay.own_lessB (Lay.own_weak (fun j hj _ => ⟨Nat.lt_of_lt_of_le hj.1 gz.size, by rcases hj.2 with h | h; exact .inl h; exact .inr (by omega)⟩) (Lay.own_same ho (fun j e => gz.block j (hob j e).2 (fun e2 => by injection e2 with e2; have := (hob j e).1; omega)) (fun b hb _ hl => gz.block b hl (fun e2 => by injection e2 with e2; exact hb.2.elim (fun h => by have := hFr b h; omega) (fun h => by omega))))) hs1
theorem SendsO.blk {Fr : Nat → Prop} {s : SC} {E : Int} {s2 : SC} {X : Nat → Prop} {Y : World → Prop} {w w' : World} {C : Array Value} {N : Int} {g : Nat} {t : TypeId} {cs : Array Value} (h : SendsO Fr s E s2 X Y w C N w') (hb : Blk w g t cs) (hx : ¬ X g) : Blk w' g t cs := by
  unfold SendsO at h
  cases hs : sendB s
  · rw [hs] at h
    exact hb.ca h.2.2
  · rw [hs] at h
    exact hb.chg h.1 hx
set_option maxRecDepth 100000 in
set_option maxHeartbeats 16000000 in
theorem put_any (Fr : Nat → Prop) (s : SC) (A : Option Addr) (n c : Nat) (rows : List (List VV)) (rA : Option Addr) (rn rc : Nat) (w : World) (hFr : ∀ k, Fr k → k < w.heap.size) (h : LB3.rd w Fr A n s.q) (hr : LR.rd w Fr rA rn rows) (hn : n ≤ 9223372036854775807) (hrn : rn ≤ 9223372036854775807) (h0 : 0 ≤ s.base) :
    Calls Try.prog 47 #[.agg (s.cells A n c), .slice rA rn rc] w fun e w' => ∃ (t : SC) (A' : Option Addr) (n' c' : Nat) (N : Int), e = .returned (.tuple #[.agg (t.cells A' n' c'), .int .i64 N]) ∧ SendsO Fr s (put1E s rows) (putR s ⟨rows, false, 0⟩) noX noY w (t.cells A' n' c') N w' := by
  have q1 := bl_al (Below.refl w.heap.size w) (.cells (s.cells A n c) 29)
  have q2 := bl_al (Below.refl (w.alloc (.cells (s.cells A n c) 29)).heap.size (w.alloc (.cells (s.cells A n c) 29))) (.cells #[.slice rA rn rc] 43)
  have q12 := bl_ca q1 q2
  have hsz2 : ((w.alloc (.cells (s.cells A n c) 29)).alloc (.cells #[.slice rA rn rc] 43)).heap.size = w.heap.size + 2 := by simp only [World.size_alloc]
  have HS2 := (Blk.new w 29 (s.cells A n c)).ca q2
  have HP2 : Blk ((w.alloc (.cells (s.cells A n c) 29)).alloc (.cells #[.slice rA rn rc] 43)) (w.heap.size + 1) 43 #[.slice rA rn rc] := Blk.mk' (by simp only [World.size_alloc])
  generalize hw2 : (w.alloc (.cells (s.cells A n c) 29)).alloc (.cells #[.slice rA rn rc] 43) = w2 at *
  have q3 := bl_al (Below.refl w2.heap.size w2) (.cells (zeroS.cells none 0 0) 29)
  have HZ := Lib.hid (show Blk (w2.alloc (.cells (zeroS.cells none 0 0) 29)) (w.heap.size + 2) 29 (zeroS.cells none 0 0) from by rw [← hsz2]; exact Blk.new _ _ _)
  have HB := Lib.hid (bl_ca q12 q3)
  have hsz : (w2.alloc (.cells (zeroS.cells none 0 0) 29)).heap.size = w.heap.size + 3 := by simp only [World.size_alloc]; omega
  have HSE := Lib.hid (sends_any Fr s A n c 97 #[.pointer (some ⟨w.heap.size + 1, 0, none⟩)] (put1E s rows) (putR s ⟨rows, false, 0⟩) noX noY _ (Lay.rd_below (Lay.rd_below h q12) q3) (fun k h => by have := hFr k h; omega) hn h0 (Go.Proofs.enters_of Try.func97 (by kernel_rfl) rfl)
    (put1_do s rows (w.heap.size + 1) rA rn rc _ Fr (fun k h => by have := hFr k h; omega) (HP2.ca q3) (Lay.rd_below (Lay.rd_below hr q12) q3) hrn) (fun k h => h.elim) (fun _ _ h _ => h))
  have HS := Lib.hid (HS2.ca q3)
  subst hw2
  clear h hr q1 q2 q12 q3 HS2 HP2 hsz2
  go_enter Try.func47, Try.ntmps47
  go_wp2_with (refine wpList_load_blk rfl 29 (.tmp 2) rfl w.heap.size rfl 29 _ (s.cells A n c) HS.out rfl rfl senderI ?_)
  refine HSE.out.mono ?_
  clear HSE
  rintro e w4 h4
  obtain ⟨t, A', n', c', N, rfl, ho⟩ := sends_o h4
  have HZ4 := Lib.hid (ho.blk HZ.out (fun h => h))
  have HO := Lib.hid ho
  clear h4 ho HS HZ
  go_wp2_with (refine wpList_store_blk rfl 29 (.tmp 4) (.tmp 9) rfl (w.heap.size + 2) 29 _ (t.cells A' n' c') rfl rfl HZ4.out rfl senderI (by obtain ⟨s1, s2, s3, s4, s5, s6, s7⟩ := t; simp [Value.oneCell', SC.cells]) ?_; intro wz hZ gz)
  exact bodyPost_ret (res2 Try.results47 rfl rfl hZ Try.underlying29 rfl senderI) rfl ⟨t, A', n', c', N, rfl, HO.out.out HB.out gz (fun k h => by have := hFr k h; omega) (by omega) (by omega) (by omega) (fun b h _ => h.elim) (fun _ _ h _ => h)⟩
end Go.Proofs.Ytojghgbaiiajfaa
/- A region whose order Go leaves open, with several operations of unknown yield side by side; what follows is said once. Conditions: none. -/
namespace Go.Proofs.Ytojghgbaiiajfaa
open Go.RowKit
section
variable {P : Program} {ops : Array Oper} {Q Q' : Exit → Act → World → Prop} {md : Region.Mode} {S : Array Bool → (Nat → Value) → World → Prop}
theorem Ps.weak (h : ∀ a w, Q' .normal a w → Q .normal a w) : ∀ (f : Nat) (m : Nat → Value) (L : Array Bool) (a : Act), Ps P md ops Q' S f m L a → Ps P md ops Q S f m L a
  | 0, _, _, _, k => ⟨k.1, fun w hS => h _ _ (k.2 w hS)⟩
  | f + 1, m, L, a, k => ⟨fun e w hS => h _ _ (k.1 e w hS), fun i hi => by
    obtain ⟨o, ho, ⟨u, hs, hg⟩ | ⟨V, hs, hg⟩⟩ := k.2 i hi
    · exact ⟨o, ho, .inl ⟨u, hs, Ps.weak h f _ _ _ hg⟩⟩
    · exact ⟨o, ho, .inr ⟨V, hs, fun v hV => Ps.weak h f _ _ _ (hg v hV)⟩⟩⟩
/-- one of several that come next -/
def Turns (P : Program) (md : Region.Mode) (ops : Array Oper) (Q : Exit → Act → World → Prop) (S : Array Bool → (Nat → Value) → World → Prop) (f : Nat) (m : Nat → Value) (L : Array Bool) (a : Act) (i : Nat) : Prop :=
  ∃ o, ops[i]? = some o ∧ ∃ V, TurnS P md ops S m i o V a ∧ ∀ v, V v → Ps P md ops Q S f (upd m i v) (L.setIfInBounds i true) (a.put o.dst v)
theorem Turns.mk {f : Nat} {m : Nat → Value} {L : Array Bool} {a : Act} {i : Nat} {o : Oper} {d : Option Tmp} (ho : ops[i]? = some o) (hd : o.dst = d) {V : Value → Prop} (ht : TurnS P md ops S m i o V a)
    (h : ∀ v, V v → Ps P md ops Q S f (upd m i v) (L.setIfInBounds i true) (a.put d v)) : Turns P md ops Q S f m L a i := by subst hd; exact ⟨o, ho, V, ht, h⟩
theorem Ps.some1 {f : Nat} {m : Nat → Value} {L : Array Bool} {a : Act} {i : Nat} (hr : Region.ready md ops L = [i]) (h1 : Turns P md ops Q S f m L a i) : Ps P md ops Q S (f + 1) m L a := by
  refine ⟨fun e => (by rw [hr] at e; cases e), fun x hx => ?_⟩
  rw [hr] at hx
  rcases List.mem_cons.1 hx with rfl | hx
  · obtain ⟨o, ho, V, ht, h⟩ := h1; exact ⟨o, ho, .inr ⟨V, ht, h⟩⟩
  · cases hx
theorem Ps.some2 {f : Nat} {m : Nat → Value} {L : Array Bool} {a : Act} {i j : Nat} (hr : Region.ready md ops L = [i, j]) (h1 : Turns P md ops Q S f m L a i) (h2 : Turns P md ops Q S f m L a j) : Ps P md ops Q S (f + 1) m L a := by
  refine ⟨fun e => (by rw [hr] at e; cases e), fun x hx => ?_⟩
  rw [hr] at hx
  rcases List.mem_cons.1 hx with rfl | hx
  · obtain ⟨o, ho, V, ht, h⟩ := h1; exact ⟨o, ho, .inr ⟨V, ht, h⟩⟩
  rcases List.mem_cons.1 hx with rfl | hx
  · obtain ⟨o, ho, V, ht, h⟩ := h2; exact ⟨o, ho, .inr ⟨V, ht, h⟩⟩
  · cases hx
theorem Ps.some3 {f : Nat} {m : Nat → Value} {L : Array Bool} {a : Act} {i j k : Nat} (hr : Region.ready md ops L = [i, j, k]) (h1 : Turns P md ops Q S f m L a i) (h2 : Turns P md ops Q S f m L a j) (h3 : Turns P md ops Q S f m L a k) : Ps P md ops Q S (f + 1) m L a := by
  refine ⟨fun e => (by rw [hr] at e; cases e), fun x hx => ?_⟩
  rw [hr] at hx
  rcases List.mem_cons.1 hx with rfl | hx
  · obtain ⟨o, ho, V, ht, h⟩ := h1; exact ⟨o, ho, .inr ⟨V, ht, h⟩⟩
  rcases List.mem_cons.1 hx with rfl | hx
  · obtain ⟨o, ho, V, ht, h⟩ := h2; exact ⟨o, ho, .inr ⟨V, ht, h⟩⟩
  rcases List.mem_cons.1 hx with rfl | hx
  · obtain ⟨o, ho, V, ht, h⟩ := h3; exact ⟨o, ho, .inr ⟨V, ht, h⟩⟩
  · cases hx
/-- what follows is said once: F tells how the region ends, of the act at its start -/
theorem wp_region_psF {id : Nat} {a : Act} {w : World} (F : Act → Act → World → Prop) (S : Array Bool → (Nat → Value) → World → Prop) (hm : P.follows .mixedOrders = true) (hS : S (Array.replicate ops.size false) (fun _ => undef) w.drew)
    (h : Ps P .any ops (fun _ a' w' => F a a' w') S ops.size (fun _ => undef) (Array.replicate ops.size false) a) (hk : ∀ a' w', F a a' w' → Q .normal a' w') : (Code.region id ops true).wp P Q a w :=
  wp_region_ps S hm hS (Ps.weak hk _ _ _ _ h)
end
end Go.Proofs.Ytojghgbaiiajfaa
/- bowspritref22.Batches, with. Conditions: the slices read so. -/
namespace Go.Proofs.Ytojghgbaiiajfaa
open Go.RowKit
set_option maxRecDepth 100000 in
set_option maxHeartbeats 4000000 in
theorem rbatches_any (F : Nat → Prop) (A : Option Addr) (m c : Nat) (xs : List BC) (w : World) (h : LB3.rd w F A m xs) (hm : m ≤ 1000) :
    Calls Try.prog 85 #[.slice A m c] w fun e w' => ∃ A2 c2, e = .returned (.slice A2 m c2) ∧ LB3.own 45 w' w.heap.size (fun b => F b ∧ b < w.heap.size) A2 m c2 xs ∧ Below w.heap.size w w' := by
  have oe := Lay.own_empty LB3 w 45 (fun b => F b ∧ b < w.heap.size) (by decide)
  have b1 := bl_al (Below.refl w.heap.size w) (.cells #[] 45)
  have h2 : LB3.rd (w.alloc (.cells #[] 45)) (fun b => F b ∧ b < w.heap.size) A m xs := Lay.rd_below (Lay.rd_weak (fun b hb hl => ⟨hb, hl⟩) h) b1
  have hz := b1.size
  have HOE := Lib.hid oe
  have HH2 := Lib.hid h2
  have HB := Lib.hid b1
  clear h h2 oe b1
  go_enter Try.func85, Try.ntmps85
  go_wp2_with (at_builtin; refine wpList_appLs (L := LB3) (e := 45) rfl (.tmp 3) (.tmp 4) 27 rfl (.agg #[.slice none 0 0, .bool false, .int .u64 0]) 3 40 Try.underlying27 infoB rfl rfl (by decide) w.heap.size (fun b => F b ∧ b < w.heap.size) (fun b => F b ∧ b < w.heap.size) (some ⟨w.heap.size, 0, none⟩) 0 0 [] A m c xs m (by omega) rfl rfl HOE.out HH2.out (fun b hb _ => ⟨hb, fun e => by simp [Value.ownBlock] at e; have := hb.2; omega⟩) (fun b hb => Nat.lt_of_lt_of_le hb.2 hz) (by omega) (by unfold maxLen; omega) hz ?_; intro A4 c4 w4 o4 g4 _; rw [List.nil_append] at o4; have HO4 := Lib.hid o4; have HG4 := Lib.hid g4; clear o4 g4)
  go_ret
  exact ⟨A4, c4, rfl, HO4.out, HB.out.grown HG4.out hz (fun k e => by simp [Value.ownBlock] at e; omega)⟩
def QW (G : Nat) (F : Nat → Prop) (n : Nat) (l : List BC) (v : Value) (w : World) : Prop := ∃ A c, v = .slice A n c ∧ LB3.own 45 w G F A n c l
def BW (G : Nat) (bc : Array Value) (v : Value) (w : World) : Prop := ∃ g4, v = .slice (some ⟨g4, 0, none⟩) 1 1 ∧ G ≤ g4 ∧ Blk w g4 45 bc
theorem qw_below {G n : Nat} {F : Nat → Prop} {l : List BC} {v : Value} {w w' : World} (h : QW G F n l v w) (q : Below w.heap.size w w') : QW G F n l v w' := by
  obtain ⟨A, c, e, h1⟩ := h
  exact ⟨A, c, e, Lay.own_below h1 q⟩
theorem bw_below {G : Nat} {bc : Array Value} {v : Value} {w w' : World} (h : BW G bc v w) (q : Below w.heap.size w w') : BW G bc v w' := by
  obtain ⟨g, e, h1, h2⟩ := h
  exact ⟨g, e, h1, h2.ca q⟩
theorem qw_set {G n : Nat} {F : Nat → Prop} {l : List BC} {v u : Value} {w : World} {p : Addr} (h : QW G F n l v w) (hg : p.block < G) (hf : ¬ F p.block) : QW G F n l v (w.setCell p u) := by
  obtain ⟨A, c, e, h1⟩ := h
  exact ⟨A, c, e, Lay.own_same h1 (fun k hk => Below.heap_setCell w p u k (by have := (Lay.own_base h1 k hk).1; omega)) (fun b hb _ _ => Below.heap_setCell w p u b (fun e => hf (by rw [← e]; exact hb)))⟩
/-- three variables; a row that a call (2) yields, one more that is made (4), both joined (5), and two stores (9, 11) -/
def WithS (w0 : World) (g1 g2 g3 : Nat) (cs : Bool → Bool → Value → Array Value) (bc zc : Array Value) (Q2 B4 O5 : Value → World → Prop) : Array Bool → (Nat → Value) → World → Prop :=
  fun L m w => Below w0.heap.size w0 w ∧ Blk w g1 29 (cs (Dn L 9) (Dn L 11) (m 5)) ∧ Blk w g2 45 bc ∧ Blk w g3 29 zc ∧ (Dn L 5 = false → Dn L 2 = true → Q2 (m 2) w) ∧ (Dn L 5 = false → Dn L 4 = true → B4 (m 4) w) ∧ (Dn L 5 = true → O5 (m 5) w)
section
variable {w0 w w' : World} {g1 g2 g3 G n k : Nat} {cs : Bool → Bool → Value → Array Value} {bc zc : Array Value} {l l2 : List BC} {F : Nat → Prop} {L : Array Bool} {m : Nat → Value} {v u : Value}
theorem WithS.start (q : Below w0.heap.size w0 w) (h1 : Blk w g1 29 (cs false false undef)) (h2 : Blk w g2 45 bc) (h3 : Blk w g3 29 zc) : WithS w0 g1 g2 g3 cs bc zc (QW G F n l) (BW G bc) (QW G F k l2) (Array.replicate 12 false) (fun _ => undef) w.drew :=
  ⟨q.drew, h1.drew, h2.drew, h3.drew, fun _ e => absurd e (by decide), fun _ e => absurd e (by decide), fun e => absurd e (by decide)⟩
theorem WithS.pass {i : Nat} (h : (i != 2 && i != 4 && i != 5 && i != 9 && i != 11) = true) : Pass (WithS w0 g1 g2 g3 cs bc zc (QW G F n l) (BW G bc) (QW G F k l2)) i := fun L m w h0 => by
  simp only [Bool.and_eq_true, bne_iff_ne] at h
  obtain ⟨⟨⟨⟨a, b⟩, c⟩, d⟩, e⟩ := h
  unfold WithS at *
  rw [dn_ne (Ne.symm a), dn_ne (Ne.symm b), dn_ne (Ne.symm c), dn_ne (Ne.symm d), dn_ne (Ne.symm e)]
  exact h0
theorem WithS.on2 (d5 : Dn L 5 = false) (h : WithS w0 g1 g2 g3 cs bc zc (QW G F n l) (BW G bc) (QW G F k l2) L m w) (q : Below w.heap.size w w') (hv : QW G F n l v w') : WithS w0 g1 g2 g3 cs bc zc (QW G F n l) (BW G bc) (QW G F k l2) (L.setIfInBounds 2 true) (upd m 2 v) w' := by
  obtain ⟨h1, h2, h3, h4, h5, h6, h7⟩ := h
  unfold WithS
  rw [dn_ne (j := 9) (i := 2) (by decide), dn_ne (j := 11) (i := 2) (by decide), dn_ne (j := 5) (i := 2) (by decide), dn_ne (j := 4) (i := 2) (by decide), upd_same, upd_ne (j := 5) (k := 2) (by decide), upd_ne (j := 4) (k := 2) (by decide)]
  exact ⟨bl_ca h1 q, h2.ca q, h3.ca q, h4.ca q, fun _ _ => hv, fun a b => bw_below (h6 a b) q, fun e => by rw [d5] at e; cases e⟩
theorem WithS.on4 (d5 : Dn L 5 = false) (h : WithS w0 g1 g2 g3 cs bc zc (QW G F n l) (BW G bc) (QW G F k l2) L m w) (q : Below w.heap.size w w') (hv : BW G bc v w') : WithS w0 g1 g2 g3 cs bc zc (QW G F n l) (BW G bc) (QW G F k l2) (L.setIfInBounds 4 true) (upd m 4 v) w' := by
  obtain ⟨h1, h2, h3, h4, h5, h6, h7⟩ := h
  unfold WithS
  rw [dn_ne (j := 9) (i := 4) (by decide), dn_ne (j := 11) (i := 4) (by decide), dn_ne (j := 5) (i := 4) (by decide), dn_ne (j := 2) (i := 4) (by decide), upd_same, upd_ne (j := 5) (k := 4) (by decide), upd_ne (j := 2) (k := 4) (by decide)]
  exact ⟨bl_ca h1 q, h2.ca q, h3.ca q, h4.ca q, fun a b => qw_below (h5 a b) q, fun _ _ => hv, fun e => by rw [d5] at e; cases e⟩
theorem WithS.on5 {r : Option Nat} (hcs : ∀ b x y, cs false b x = cs false b y) (d9 : Dn L 9 = false) (h : WithS w0 g1 g2 g3 cs bc zc (QW G F n l) (BW G bc) (QW G F k l2) L m w) (q : w.grownBy w' r) (hr : ∀ j, r = some j → G ≤ j) (hw0 : w0.heap.size ≤ G) (hg : g1 < G ∧ g2 < G ∧ g3 < G) (hv : QW G F k l2 v w') : WithS w0 g1 g2 g3 cs bc zc (QW G F n l) (BW G bc) (QW G F k l2) (L.setIfInBounds 5 true) (upd m 5 v) w' := by
  obtain ⟨h1, h2, h3, h4, h5, h6, h7⟩ := h
  unfold WithS
  rw [dn_ne (j := 9) (i := 5) (by decide), dn_ne (j := 11) (i := 5) (by decide), dn_eq, upd_same, d9]
  rw [d9] at h2
  have hne : ∀ j, j < G → some j ≠ r := fun j hj e => by have := hr j e.symm; omega
  exact ⟨h1.grown q h1.size (fun j e => by have := hr j e; omega), by rw [hcs _ v (m 5)]; exact h2.grown q (hne _ hg.1), h3.grown q (hne _ hg.2.1), h4.grown q (hne _ hg.2.2), (fun e _ => by cases e), (fun e _ => by cases e), fun _ => hv⟩
theorem WithS.on9 (hcs : ∀ b, (cs false b u).setIfInBounds 2 u = cs true b u) (hg : g1 < G) (hg2 : g1 ≠ g2 ∧ g1 ≠ g3 ∧ w0.heap.size ≤ g1) (hf : ¬ F g1) (d9 : Dn L 9 = false) (d5 : Dn L 5 = true) (h : WithS w0 g1 g2 g3 cs bc zc (QW G F n l) (BW G bc) (QW G F k l2) L m w) (hm : m 5 = u) : WithS w0 g1 g2 g3 cs bc zc (QW G F n l) (BW G bc) (QW G F k l2) (L.setIfInBounds 9 true) m (w.setCell ⟨g1, 2, none⟩ u) := by
  obtain ⟨h1, h2, h3, h4, h5, h6, h7⟩ := h
  unfold WithS
  rw [dn_ne (j := 5) (i := 9) (by decide), dn_ne (j := 11) (i := 9) (by decide), dn_ne (j := 2) (i := 9) (by decide), dn_ne (j := 4) (i := 9) (by decide), dn_eq, d5]
  rw [d9, hm] at h2
  exact ⟨h1.setCell hg2.2.2 u, by rw [hm, ← hcs]; exact h2.set_ 2 u, h3.far (p := ⟨g1, 2, none⟩) (Ne.symm hg2.1) u, h4.far (p := ⟨g1, 2, none⟩) (Ne.symm hg2.2.1) u, (fun e _ => by cases e), (fun e _ => by cases e), fun _ => qw_set (h7 d5) hg hf⟩
theorem WithS.on11 (hcs : ∀ x, (cs true false x).setIfInBounds 6 u = cs true true x) (hg : g1 < G) (hg2 : g1 ≠ g2 ∧ g1 ≠ g3 ∧ w0.heap.size ≤ g1) (hf : ¬ F g1) (d11 : Dn L 11 = false) (d9 : Dn L 9 = true) (d5 : Dn L 5 = true) (h : WithS w0 g1 g2 g3 cs bc zc (QW G F n l) (BW G bc) (QW G F k l2) L m w) : WithS w0 g1 g2 g3 cs bc zc (QW G F n l) (BW G bc) (QW G F k l2) (L.setIfInBounds 11 true) m (w.setCell ⟨g1, 6, none⟩ u) := by
  obtain ⟨h1, h2, h3, h4, h5, h6, h7⟩ := h
  unfold WithS
  rw [dn_ne (j := 5) (i := 11) (by decide), dn_ne (j := 9) (i := 11) (by decide), dn_ne (j := 2) (i := 11) (by decide), dn_ne (j := 4) (i := 11) (by decide), dn_eq, d5, d9]
  rw [d11, d9] at h2
  exact ⟨h1.setCell hg2.2.2 u, by rw [← hcs]; exact h2.set_ 6 u, h3.far (p := ⟨g1, 6, none⟩) (Ne.symm hg2.1) u, h4.far (p := ⟨g1, 6, none⟩) (Ne.symm hg2.2.1) u, (fun e _ => by cases e), (fun e _ => by cases e), fun _ => qw_set (h7 d5) hg hf⟩
end
def WithC (w0 : World) (Fr : Nat → Prop) (E : Int) (s : SC) (b : BC) (n : Nat) (e : Ending) (w' : World) : Prop :=
  (E ≠ 0 ∧ e = .returned (.tuple #[.agg (zeroS.cells none 0 0), .int .i64 E]) ∧ Below w0.heap.size w0 w') ∨
  (E = 0 ∧ ∃ A2 c2, e = .returned (.tuple #[.agg ((putR s b).cells A2 (n + 1) c2), .int .i64 0]) ∧ LB3.rd w' (fun k => Fr k ∨ w0.heap.size ≤ k) A2 (n + 1) (s.q ++ [b]) ∧ n + 1 ≤ c2 ∧ c2 ≤ 9223372036854775807 ∧ Below w0.heap.size w0 w')
theorem with_no {w0 w' : World} {Fr : Nat → Prop} {E : Int} {s : SC} {b : BC} {n : Nat} (h : E ≠ 0) (q : Below w0.heap.size w0 w') : WithC w0 Fr E s b n (.returned (.tuple #[.agg (zeroS.cells none 0 0), .int .i64 E])) w' := .inl ⟨h, rfl, q⟩
set_option maxRecDepth 100000 in
set_option maxHeartbeats 16000000 in
theorem rwith_any (Fr : Nat → Prop) (s : SC) (A : Option Addr) (n c : Nat) (b : BC) (bA : Option Addr) (bn bcp : Nat) (w : World) (h : LB3.rd w Fr A n s.q) (hr : LR.rd w Fr bA bn b.rows) (hn : n ≤ 100) (hbn : bn ≤ bcp) (hbc : bcp ≤ 9223372036854775807) (h1 : 1 ≤ s.base) (h2 : s.base ≤ 2000000000000) :
    Calls Try.prog 105 #[.agg (s.cells A n c), .agg (b.cells bA bn bcp)] w (WithC w Fr (putE s) s b n) := by
  obtain ⟨E, hE⟩ : ∃ E, E = putE s := ⟨_, rfl⟩
  rw [← hE]
  obtain ⟨ses, base, q, sent, lim, timer, ended⟩ := s
  obtain ⟨rows, fin, cnt⟩ := b
  dsimp only at h hr h1 h2
  have hL := Lay.rd_len h
  unfold putE at hE
  dsimp only at hE
  rw [hL] at hE
  have HE := Lib.hid hE
  have HRD := Lib.hid h
  have HRB := Lib.hid hr
  have q1 := bl_al (Below.refl w.heap.size w) (.cells #[.int .u32 ses, .int .u64 base, .slice A n c, .int .u64 sent, .int .u64 lim, .int .i64 timer, .bool ended] 29)
  have q2 := bl_al q1 (.cells #[.slice bA bn bcp, .bool fin, .int .u64 cnt] 45)
  have q3 := bl_al q2 (.cells #[.int .u32 0, .int .u64 0, .slice none 0 0, .int .u64 0, .int .u64 0, .int .i64 0, .bool false] 29)
  have HK1 := Lib.hid (((Blk.new w 29 #[.int .u32 ses, .int .u64 base, .slice A n c, .int .u64 sent, .int .u64 lim, .int .i64 timer, .bool ended]).alloc (.cells #[.slice bA bn bcp, .bool fin, .int .u64 cnt] 45)).alloc (.cells #[.int .u32 0, .int .u64 0, .slice none 0 0, .int .u64 0, .int .u64 0, .int .i64 0, .bool false] 29))
  have HK2 := Lib.hid (show Blk (((w.alloc (.cells #[.int .u32 ses, .int .u64 base, .slice A n c, .int .u64 sent, .int .u64 lim, .int .i64 timer, .bool ended] 29)).alloc (.cells #[.slice bA bn bcp, .bool fin, .int .u64 cnt] 45)).alloc (.cells #[.int .u32 0, .int .u64 0, .slice none 0 0, .int .u64 0, .int .u64 0, .int .i64 0, .bool false] 29)) (w.heap.size + 1) 45 #[.slice bA bn bcp, .bool fin, .int .u64 cnt] from by have := (Blk.new (w.alloc (.cells #[.int .u32 ses, .int .u64 base, .slice A n c, .int .u64 sent, .int .u64 lim, .int .i64 timer, .bool ended] 29)) 45 #[.slice bA bn bcp, .bool fin, .int .u64 cnt]).alloc (.cells #[.int .u32 0, .int .u64 0, .slice none 0 0, .int .u64 0, .int .u64 0, .int .i64 0, .bool false] 29); simp only [World.size_alloc] at this; exact this)
  have HK3 := Lib.hid (show Blk (((w.alloc (.cells #[.int .u32 ses, .int .u64 base, .slice A n c, .int .u64 sent, .int .u64 lim, .int .i64 timer, .bool ended] 29)).alloc (.cells #[.slice bA bn bcp, .bool fin, .int .u64 cnt] 45)).alloc (.cells #[.int .u32 0, .int .u64 0, .slice none 0 0, .int .u64 0, .int .u64 0, .int .i64 0, .bool false] 29)) (w.heap.size + 2) 29 #[.int .u32 0, .int .u64 0, .slice none 0 0, .int .u64 0, .int .u64 0, .int .i64 0, .bool false] from by have := Blk.new ((w.alloc (.cells #[.int .u32 ses, .int .u64 base, .slice A n c, .int .u64 sent, .int .u64 lim, .int .i64 timer, .bool ended] 29)).alloc (.cells #[.slice bA bn bcp, .bool fin, .int .u64 cnt] 45)) 29 #[.int .u32 0, .int .u64 0, .slice none 0 0, .int .u64 0, .int .u64 0, .int .i64 0, .bool false]; simp only [World.size_alloc] at this; exact this)
  have HQ3 := Lib.hid q3
  clear h hr hE hL q1 q2 q3
  have x6 := HK1.out.cell 6
  cases ended
  · have HE2 := Lib.hid (show E = (if (n : Int) = 8 ∨ 1099511627776 ≤ base - 1 + (n : Int) then 6 else 0) from HE.out)
    go_enter Try.func105, Try.ntmps105
    go_upto_region 3 with fail
    clear x6
    generalize (((w.alloc (.cells #[.int .u32 ses, .int .u64 base, .slice A n c, .int .u64 sent, .int .u64 lim, .int .i64 timer, .bool false] 29)).alloc (.cells #[.slice bA bn bcp, .bool fin, .int .u64 cnt] 45)).alloc (.cells #[.int .u32 0, .int .u64 0, .slice none 0 0, .int .u64 0, .int .u64 0, .int .i64 0, .bool false] 29)) = w3 at *
    have HWL := Lib.hid (show IntKind.u64.wrap (base - 1 + (n : Int) + 1) = base - 1 + (n : Int) + 1 from u64_in (by omega) (by omega))
    refine wp_region_ps0 .text (S := fun _ _ w' => Below w3.heap.size w3 w') (by kernel_rfl) ?spswg1 ?ppswg1
    case spswg1 =>
      exact (Below.refl w3.heap.size w3)
    refine Ps.st (i := 0) (d := some 11) (u := (.pointer (some ⟨w.heap.size, 2, none⟩))) rfl rfl (by exact StepS.pure nP rfl fun _ => rfl) ?_
    try simp only [Act.put, sA, sZ, sS]
    refine Ps.st (i := 1) (d := some 12) (u := (.slice A n c)) rfl rfl ?ywg1_3 ?rwg1_3
    case ywg1_3 =>
      refine StepS.read [] (by kernel_rfl) nP (by rfl) (fun L9 m9 w9 hSh hAt hDn hS => ?_)
      have hT : Below _ _ w9 := hS
      have x0 : w9.cell? ⟨w.heap.size, 2, none⟩ = some (.slice A n c) := (HK1.out.ca hT).cell 2
      clear hT hS
      go_simp
      try rfl
    try simp only [Act.put, sA, sZ, sS]
    refine Ps.st (i := 2) (d := some 13) (u := (.int .i64 ((n : Int)))) rfl rfl (by exact StepS.pure nP rfl fun _ => by first | rfl | (go_simp; done) | (go_simp; rfl)) ?_
    try simp only [Act.put, sA, sZ, sS]
    refine Ps.st (i := 3) (d := some 14) (u := (.bool (decide ((n : Int) = 8)))) rfl rfl (by exact StepS.pure nP rfl fun _ => rfl) ?_
    try simp only [Act.put, sA, sZ, sS]
    obtain ⟨b3_4, hb9⟩ : ∃ b : Bool, b = (decide ((n : Int) = 8)) := ⟨_, rfl⟩
    have HEb3_4 := Lib.hid hb9
    clear hb9
    refine Ps.st (i := 4) (d := some 15) (u := (.bool (b3_4))) rfl rfl ?ywg1_6 ?rwg1_6
    case ywg1_6 =>
      refine StepS.pure nP (by rfl) (fun w9 => ?_)
      have e9 : (decide ((n : Int) = 8)) = b3_4 := by rw [HEb3_4.out]
      rw [← e9]
      clear e9
      first | rfl | (go_simp; done) | (go_simp; rfl)
    try simp only [Act.put, sA, sZ, sS]
    refine Ps.st (i := 5) (d := some 16) (u := (cond b3_4 (undef) (.agg #[.int .u32 (ses), .int .u64 (base), .slice A n c, .int .u64 (sent), .int .u64 (lim), .int .i64 (timer), .bool (false)]))) rfl rfl ?ywg1_7 ?rwg1_7
    case ywg1_7 =>
      cases b3_4
      · skip
        refine StepS.read [] (by kernel_rfl) nP (by rfl) (fun L9 m9 w9 hSh hAt hDn hS => ?_)
        have hT : Below _ _ w9 := hS
        have x0 : w9.cell? ⟨w.heap.size, 0, none⟩ = some (.int .u32 (ses)) := (HK1.out.ca hT).cell 0
        have x1 : w9.cell? ⟨w.heap.size, 1, none⟩ = some (.int .u64 (base)) := (HK1.out.ca hT).cell 1
        have x2 : w9.cell? ⟨w.heap.size, 2, none⟩ = some (.slice A n c) := (HK1.out.ca hT).cell 2
        have x3 : w9.cell? ⟨w.heap.size, 3, none⟩ = some (.int .u64 (sent)) := (HK1.out.ca hT).cell 3
        have x4 : w9.cell? ⟨w.heap.size, 4, none⟩ = some (.int .u64 (lim)) := (HK1.out.ca hT).cell 4
        have x5 : w9.cell? ⟨w.heap.size, 5, none⟩ = some (.int .i64 (timer)) := (HK1.out.ca hT).cell 5
        have x6 : w9.cell? ⟨w.heap.size, 6, none⟩ = some (.bool (false)) := (HK1.out.ca hT).cell 6
        clear hT hS
        go_simp
        try rfl
      · exact StepS.skip nP (by rfl)
    try simp only [Act.put, sA, sZ, sS]
    refine Ps.st (i := 6) (d := some 17) (u := (cond b3_4 (undef) (.int .u64 (base - 1 + (n : Int))))) rfl rfl ?ywg1_8 ?rwg1_8
    case ywg1_8 =>
      cases b3_4
      · skip
        refine StepS.call ?fwg1_8 ?awg1_8 [] (by kernel_rfl) (by rfl) (fun w9 => ?hwg1_8) (fun L9 m9 w9 hSh hAt hDn hS => ?cwg1_8)
        case hwg1_8 => go_simp; refine ⟨?_, ?_⟩ <;> rfl
        case cwg1_8 =>
          have hT : Below _ _ w9 := hS
          refine (rlast_any ⟨ses, base, q, sent, lim, timer, false⟩ A n c w9 (by dsimp only; omega) (by dsimp only; omega) (by omega)).mono ?_
          rintro e w8 ⟨rfl, q8⟩
          exact ⟨rfl, bl_ca hT q8⟩
      · exact StepS.skip nP (by rfl)
    try simp only [Act.put, sA, sZ, sS]
    refine Ps.st (i := 7) (d := some 18) (u := (cond b3_4 (undef) (.int .u64 (base - 1 + (n : Int) + 1)))) rfl rfl ?ywg1_9 ?rwg1_9
    case ywg1_9 =>
      cases b3_4
      · skip
        refine StepS.pure nP (by rfl) (fun w9 => ?_)
        rw [← HWL.out]
        first | rfl | (go_simp; done) | (go_simp; rfl)
      · exact StepS.skip nP (by rfl)
    try simp only [Act.put, sA, sZ, sS]
    refine Ps.st (i := 8) (d := some 19) (u := (cond b3_4 (undef) (.bool (decide ((1099511627776 : Int) < (base - 1 + (n : Int) + 1)))))) rfl rfl (by cases b3_4; (exact StepS.pure nP rfl fun _ => rfl); exact StepS.skip nP rfl) ?_
    try simp only [Act.put, sA, sZ, sS]
    obtain ⟨f3, hb9⟩ : ∃ b : Bool, b = ((decide ((n : Int) = 8)) || (decide ((1099511627776 : Int) < (base - 1 + (n : Int) + 1)))) := ⟨_, rfl⟩
    have HEf3 := Lib.hid hb9
    clear hb9
    refine Ps.st (i := 9) (d := some 20) (u := (.bool (f3))) rfl rfl ?ywg1_11 ?rwg1_11
    case ywg1_11 =>
      refine StepS.pure nP (by rfl) (fun w9 => ?_)
      have e9 : (b3_4 || (decide ((1099511627776 : Int) < (base - 1 + (n : Int) + 1)))) = f3 := by rw [HEf3.out, HEb3_4.out]
      rw [← e9]
      clear e9
      cases b3_4 <;> (first | rfl | (go_simp; done) | (go_simp; rfl))
    try simp only [Act.put, sA, sZ, sS]
    refine Ps.st (i := 10) (d := some 10) (u := (.bool (f3))) rfl rfl (by exact StepS.pure nP rfl fun _ => rfl) ?_
    try simp only [Act.put, sA, sZ, sS]
    refine Ps.done (by kernel_rfl) (fun wg1 hS => ?_) _
    try generalize (cond b3_4 (undef) (.agg #[.int .u32 (ses), .int .u64 (base), .slice A n c, .int .u64 (sent), .int .u64 (lim), .int .i64 (timer), .bool (false)]) : Value) = zz13
    try generalize (cond b3_4 (undef) (.bool (decide ((1099511627776 : Int) < (base - 1 + (n : Int) + 1)))) : Value) = zz14
    try generalize (cond b3_4 (undef) (.int .u64 (base - 1 + (n : Int) + 1)) : Value) = zz15
    try generalize (cond b3_4 (undef) (.int .u64 (base - 1 + (n : Int))) : Value) = zz16
    have HW17 := Lib.hid (show Below w3.heap.size w3 wg1 from hS)
    clear hS
    obtain ⟨w118, rfl⟩ : ∃ x, x = wg1 := ⟨_, rfl⟩
    cases f3
    · obtain rfl : E = 0 := by rw [HE2.out, if_neg (by have h := HEf3.out; simp at h; omega)]
      clear HEf3
      go_upto_region 5 with fail
      have HK1 := Lib.hid (HK1.out.ca HW17.out)
      have HK2 := Lib.hid (HK2.out.ca HW17.out)
      have HK3 := Lib.hid (HK3.out.ca HW17.out)
      have HQ3 := Lib.hid (bl_ca HQ3.out HW17.out)
      refine wp_region_psF (F := fun a a' w' => ∃ A5 c5, (∃ v22 v23 v24 v25 v26 v28 v29 v30 v31, a' = ((((((((((a.put (some 22) v22).put (some 23) v23).put (some 24) v24).put (some 25) v25).put (some 26) v26).put (some 27) (.slice A5 (n + 1) c5)).put (some 28) v28).put (some 29) v29).put (some 30) v30).put (some 31) v31)) ∧ Blk w' w.heap.size 29 #[.int .u32 ses, .int .u64 base, .slice A5 (n + 1) c5, .int .u64 sent, .int .u64 lim, .int .i64 timer, .bool fin] ∧ Blk w' (w.heap.size + 2) 29 #[.int .u32 0, .int .u64 0, .slice none 0 0, .int .u64 0, .int .u64 0, .int .i64 0, .bool false] ∧ LB3.own 45 w' (w.heap.size + 3) (fun b => Fr b ∧ b < w.heap.size) A5 (n + 1) c5 (q ++ [⟨rows, fin, cnt⟩]) ∧ Below w.heap.size w w') (S := WithS w w.heap.size (w.heap.size + 1) (w.heap.size + 2) (fun b9 b11 v5 => #[.int .u32 ses, .int .u64 base, (if b9 then v5 else .slice A n c), .int .u64 sent, .int .u64 lim, .int .i64 timer, .bool (if b11 then fin else false)]) #[.slice bA bn bcp, .bool fin, .int .u64 cnt] #[.int .u32 0, .int .u64 0, .slice none 0 0, .int .u64 0, .int .u64 0, .int .i64 0, .bool false] (QW (w.heap.size + 3) (fun b => Fr b ∧ b < w.heap.size) n q) (BW (w.heap.size + 3) #[.slice bA bn bcp, .bool fin, .int .u64 cnt]) (QW (w.heap.size + 3) (fun b => Fr b ∧ b < w.heap.size) (n + 1) (q ++ [⟨rows, fin, cnt⟩]))) (by kernel_rfl) ?spsw5q ?ppsw5q ?kpsw5q
      case spsw5q =>
        exact WithS.start HQ3.out HK1.out HK2.out HK3.out
      case ppsw5q =>
        refine Ps.st (i := 0) (d := some 22) (u := _) rfl rfl (StepS.pure (WithS.pass (by decide)) rfl fun w9 => by go_simp; try rfl) ?_
        try simp only [Act.put, sA, sZ, sS]
        refine Ps.st (i := 1) (d := some 23) (u := ?uw5q_2) rfl rfl ?yw5q_2 ?rw5q_2
        case yw5q_2 =>
          refine StepS.read [] (by kernel_rfl) (WithS.pass (by decide)) (by rfl) (fun L9 m9 w9 hSh hAt hDn hS => ?_)
          have d9 : Dn L9 9 = false := reach_no hSh (f := 12) (j := 9) (by kernel_rfl) hDn
          have x2 := hS.2.1.cell 2
          simp only [d9] at x2
          clear hS d9
          go_simp
          try rfl
        try simp only [Act.put, sA, sZ, sS]
        refine Ps.st (i := 3) (d := some 25) (u := ?uw5q_3) rfl rfl ?yw5q_3 ?rw5q_3
        case yw5q_3 =>
          refine StepS.read [] (by kernel_rfl) (WithS.pass (by decide)) (by rfl) (fun L9 m9 w9 hSh hAt hDn hS => ?_)
          have x0 := hS.2.2.1.cell 0
          have x1 := hS.2.2.1.cell 1
          have x2 := hS.2.2.1.cell 2
          clear hS
          go_simp
          try rfl
        try simp only [Act.put, sA, sZ, sS]
        refine Ps.st (i := 6) (d := some 28) (u := _) rfl rfl (StepS.pure (WithS.pass (by decide)) rfl fun w9 => by go_simp; try rfl) ?_
        try simp only [Act.put, sA, sZ, sS]
        refine Ps.st (i := 7) (d := some 29) (u := ?uw5q_5) rfl rfl ?yw5q_5 ?rw5q_5
        case yw5q_5 =>
          refine StepS.read [] (by kernel_rfl) (WithS.pass (by decide)) (by rfl) (fun L9 m9 w9 hSh hAt hDn hS => ?_)
          have x1 := hS.2.2.1.cell 1
          clear hS
          go_simp
          try rfl
        try simp only [Act.put, sA, sZ, sS]
        refine Ps.some2 (i := 2) (j := 4) (by kernel_rfl) ?tw5q_6_2 ?tw5q_6_4
        case tw5q_6_2 =>
          refine Turns.mk (d := some 24) rfl rfl (TurnS.call (V := fun v => ∃ A3 c3, v = .slice A3 n c3) ?fw5q_6_2 ?aw5q_6_2 [] (by kernel_rfl) (by rfl) (fun w9 => ?hw5q_6_2) (fun L9 m9 w9 hSh hAt hDn hS => ?cw5q_6_2)) (fun v2 hVv2 => ?rw5q_6_2)
          case hw5q_6_2 => go_simp; refine ⟨?_, ?_⟩ <;> rfl
          case cw5q_6_2 =>
            have d5 : Dn L9 5 = false := reach_no hSh (f := 12) (j := 5) (by kernel_rfl) hDn
            have hT := hS.1
            have hlt := hS.2.2.2.1.lt
            refine (rbatches_any (fun b => Fr b ∧ b < w.heap.size) A n c q w9 (Lay.rd_below (Lay.rd_weak (fun b h1 h2 => ⟨h1, h2⟩) HRD.out) hT) (by omega)).mono ?_
            rintro e w8 ⟨A3, c3, rfl, ho, q8⟩
            exact ⟨_, rfl, ⟨A3, c3, rfl⟩, WithS.on2 d5 hS q8 ⟨A3, c3, rfl, Lay.own_lessB (Lay.own_weak (fun b hb _ => hb.1) ho) (by omega)⟩⟩
          try simp only [Act.put, sA, sZ, sS]
          obtain ⟨A2, c2, rfl⟩ := hVv2
          refine Ps.some1 (i := 4) (by kernel_rfl) ?tw5q_7_4
          case tw5q_7_4 =>
            refine Turns.mk (d := some 26) rfl rfl (TurnS.value (V := fun v => ∃ g, v = .slice (some ⟨g, 0, none⟩) 1 1) [] (by kernel_rfl) (by rfl) (fun L9 m9 w9 hSh hAt hDn hS => ?cw5q_7_4)) (fun v4 hVv4 => ?rw5q_7_4)
            case cw5q_7_4 =>
              have d5 : Dn L9 5 = false := reach_no hSh (f := 12) (j := 5) (by kernel_rfl) hDn
              have hlt := hS.2.2.2.1.lt
              refine ⟨.slice (some ⟨w9.heap.size, 0, none⟩) 1 1, w9.alloc (.cells #[.slice bA bn bcp, .bool fin, .int .u64 cnt] 45), ?_, ⟨_, rfl⟩, WithS.on4 d5 hS (bl_al (Below.refl _ _) _) ⟨w9.heap.size, rfl, by omega, Blk.new _ _ _⟩⟩
              clear hS d5
              go_simp
            try simp only [Act.put, sA, sZ, sS]
            obtain ⟨g4, rfl⟩ := hVv4
            refine Ps.some1 (i := 5) (by kernel_rfl) ?tw5q_8_5
            case tw5q_8_5 =>
              refine Turns.mk (d := some 27) rfl rfl (TurnS.value (V := fun v => ∃ A3 c3, v = .slice A3 (n + 1) c3) [2, 4] (by kernel_rfl) (by rfl) (fun L9 m9 w9 hSh hAt hDn hS => ?cw5q_8_5)) (fun v5 hVv5 => ?rw5q_8_5)
              case cw5q_8_5 =>
                have d9 : Dn L9 9 = false := reach_no hSh (f := 12) (j := 9) (by kernel_rfl) hDn
                have hT := hS.1
                obtain ⟨A3, c3, hv, ho⟩ := hS.2.2.2.2.1 hDn (hAt 2 (by simp)).1
                obtain ⟨g5, hv4, hg5, hb5⟩ := hS.2.2.2.2.2.1 hDn (hAt 4 (by simp)).1
                obtain ⟨rfl, rfl⟩ : A2 = A3 ∧ c2 = c3 := by have h9 : Value.slice A2 n c2 = .slice A3 n c3 := (hAt 2 (by simp)).2.symm.trans hv; simpa using h9
                obtain rfl : g4 = g5 := by have h9 : Value.slice (some ⟨g4, 0, none⟩) 1 1 = .slice (some ⟨g5, 0, none⟩) 1 1 := (hAt 4 (by simp)).2.symm.trans hv4; simpa using h9
                have hlt := hS.2.2.2.1.lt
                have hne : ∀ b, (fun b => Fr b ∧ b < w.heap.size) b → (Value.slice A2 n c2).ownBlock ≠ some b := fun b hb e => by have := (Lay.own_base ho b e).1; have := hb.2; omega
                obtain ⟨A6, c6, w8, hrun, hown, hgr, hat⟩ := run_appL (L := LB3) (e := 45) (P := Try.prog) (w := w9) 27 27 _ 3 40 Try.underlying27 infoB rfl rfl (by decide) (w.heap.size + 3) (fun b => Fr b ∧ b < w.heap.size) A2 n c2 q g4 1 45 #[.slice bA bn bcp, .bool fin, .int .u64 cnt] ⟨rows, fin, cnt⟩ ho hb5 ⟨bA, bn, bcp, rfl, hbn, hbc, Lay.rd_below (Lay.rd_weak (fun b h1 h2 => ⟨⟨h1, h2⟩, hne b ⟨h1, h2⟩⟩) HRB.out) hT⟩ (fun b hb => Nat.lt_of_lt_of_le hb.2 hT.size) (by omega) (by unfold maxLen; omega) (by omega)
                have hrr : ∀ j, (Value.slice A2 n c2).ownBlock = some j → w.heap.size + 3 ≤ j := fun j e => (Lay.own_base ho j e).1
                exact ⟨_, w8, exec_append (.tmp 24) (.tmp 26) 27 rfl rfl rfl hrun, ⟨A6, c6, rfl⟩, WithS.on5 (fun _ _ _ => rfl) d9 hS hgr hrr (by omega) ⟨by omega, by omega, by omega⟩ ⟨A6, c6, rfl, hown⟩⟩
              try simp only [Act.put, sA, sZ, sS]
              obtain ⟨A5, c5, rfl⟩ := hVv5
              refine Ps.st (i := 8) (d := some 30) (u := _) rfl rfl (StepS.pure (WithS.pass (by decide)) rfl fun w9 => by go_simp; try rfl) ?_
              try simp only [Act.put, sA, sZ, sS]
              refine Ps.st (i := 9) (d := none) (u := undef) rfl rfl ?yw5q_10 ?rw5q_10
              case yw5q_10 =>
                refine StepS.store [5] (by kernel_rfl) (by rfl) (fun L9 m9 w9 hSh hAt hDn hS => ?_)
                have hv := (hAt 5 (by simp)).2
                have hb := hS.2.1
                have z0 := hb.frozen 2
                have hcell := hb.cell 2
                have hS2 := WithS.on9 (u := .slice A5 (n + 1) c5) (fun _ => rfl) (by omega) ⟨by omega, by omega, Nat.le_refl _⟩ (fun h => absurd h.2 (by omega)) hDn (hAt 5 (by simp)).1 hS (by rw [hv]; rfl)
                refine ⟨w9.setCell ⟨w.heap.size, 2, none⟩ (.slice A5 (n + 1) c5), ?_, hS2⟩
                clear hS hS2 hv hb
                simp only [hDn] at hcell
                clear hDn
                go_simp
              try simp only [Act.put]
              refine Ps.st (i := 10) (d := some 31) (u := _) rfl rfl (StepS.pure (WithS.pass (by decide)) rfl fun w9 => by go_simp; try rfl) ?_
              try simp only [Act.put, sA, sZ, sS]
              refine Ps.st (i := 11) (d := none) (u := undef) rfl rfl ?yw5q_12 ?rw5q_12
              case yw5q_12 =>
                refine StepS.store [5, 9] (by kernel_rfl) (by rfl) (fun L9 m9 w9 hSh hAt hDn hS => ?_)
                have hb := hS.2.1
                have z0 := hb.frozen 6
                have hcell := hb.cell 6
                have hS2 := WithS.on11 (u := .bool fin) (fun _ => rfl) (by omega) ⟨by omega, by omega, Nat.le_refl _⟩ (fun h => absurd h.2 (by omega)) hDn (hAt 9 (by simp)).1 (hAt 5 (by simp)).1 hS
                refine ⟨w9.setCell ⟨w.heap.size, 6, none⟩ (.bool fin), ?_, hS2⟩
                clear hS hS2 hb
                simp only [hDn] at hcell
                clear hDn
                go_simp
              try simp only [Act.put]
              refine Ps.done (by kernel_rfl) (fun w5q hS => ?_) _
              obtain ⟨A6, c6, hv6, ho6⟩ : QW (w.heap.size + 3) (fun b => Fr b ∧ b < w.heap.size) (n + 1) (q ++ [⟨rows, fin, cnt⟩]) (.slice A5 (n + 1) c5) _ := hS.2.2.2.2.2.2 (by rfl)
              injection hv6 with e1 _ e2
              subst e1 e2
              refine ⟨A5, c5, ⟨.pointer (some ⟨w.heap.size, 2, none⟩), .slice A n c, .slice A2 n c2, .agg #[.slice bA bn bcp, .bool fin, .int .u64 cnt], .slice (some ⟨g4, 0, none⟩) 1 1, .pointer (some ⟨w.heap.size + 1, 1, none⟩), .bool fin, .pointer (some ⟨w.heap.size, 2, none⟩), .pointer (some ⟨w.heap.size, 6, none⟩), ?_⟩, hS.2.1, hS.2.2.2.1, ho6, hS.1⟩
              try dsimp only
        case tw5q_6_4 =>
          refine Turns.mk (d := some 26) rfl rfl (TurnS.value (V := fun v => ∃ g, v = .slice (some ⟨g, 0, none⟩) 1 1) [] (by kernel_rfl) (by rfl) (fun L9 m9 w9 hSh hAt hDn hS => ?cw5q_6_4)) (fun v4 hVv4 => ?rw5q_6_4)
          case cw5q_6_4 =>
            have d5 : Dn L9 5 = false := reach_no hSh (f := 12) (j := 5) (by kernel_rfl) hDn
            have hlt := hS.2.2.2.1.lt
            refine ⟨.slice (some ⟨w9.heap.size, 0, none⟩) 1 1, w9.alloc (.cells #[.slice bA bn bcp, .bool fin, .int .u64 cnt] 45), ?_, ⟨_, rfl⟩, WithS.on4 d5 hS (bl_al (Below.refl _ _) _) ⟨w9.heap.size, rfl, by omega, Blk.new _ _ _⟩⟩
            clear hS d5
            go_simp
          try simp only [Act.put, sA, sZ, sS]
          obtain ⟨g4, rfl⟩ := hVv4
          refine Ps.some1 (i := 2) (by kernel_rfl) ?tw5q_13_2
          case tw5q_13_2 =>
            refine Turns.mk (d := some 24) rfl rfl (TurnS.call (V := fun v => ∃ A3 c3, v = .slice A3 n c3) ?fw5q_13_2 ?aw5q_13_2 [] (by kernel_rfl) (by rfl) (fun w9 => ?hw5q_13_2) (fun L9 m9 w9 hSh hAt hDn hS => ?cw5q_13_2)) (fun v2 hVv2 => ?rw5q_13_2)
            case hw5q_13_2 => go_simp; refine ⟨?_, ?_⟩ <;> rfl
            case cw5q_13_2 =>
              have d5 : Dn L9 5 = false := reach_no hSh (f := 12) (j := 5) (by kernel_rfl) hDn
              have hT := hS.1
              have hlt := hS.2.2.2.1.lt
              refine (rbatches_any (fun b => Fr b ∧ b < w.heap.size) A n c q w9 (Lay.rd_below (Lay.rd_weak (fun b h1 h2 => ⟨h1, h2⟩) HRD.out) hT) (by omega)).mono ?_
              rintro e w8 ⟨A3, c3, rfl, ho, q8⟩
              exact ⟨_, rfl, ⟨A3, c3, rfl⟩, WithS.on2 d5 hS q8 ⟨A3, c3, rfl, Lay.own_lessB (Lay.own_weak (fun b hb _ => hb.1) ho) (by omega)⟩⟩
            try simp only [Act.put, sA, sZ, sS]
            obtain ⟨A2, c2, rfl⟩ := hVv2
            refine Ps.some1 (i := 5) (by kernel_rfl) ?tw5q_14_5
            case tw5q_14_5 =>
              refine Turns.mk (d := some 27) rfl rfl (TurnS.value (V := fun v => ∃ A3 c3, v = .slice A3 (n + 1) c3) [2, 4] (by kernel_rfl) (by rfl) (fun L9 m9 w9 hSh hAt hDn hS => ?cw5q_14_5)) (fun v5 hVv5 => ?rw5q_14_5)
              case cw5q_14_5 =>
                have d9 : Dn L9 9 = false := reach_no hSh (f := 12) (j := 9) (by kernel_rfl) hDn
                have hT := hS.1
                obtain ⟨A3, c3, hv, ho⟩ := hS.2.2.2.2.1 hDn (hAt 2 (by simp)).1
                obtain ⟨g5, hv4, hg5, hb5⟩ := hS.2.2.2.2.2.1 hDn (hAt 4 (by simp)).1
                obtain ⟨rfl, rfl⟩ : A2 = A3 ∧ c2 = c3 := by have h9 : Value.slice A2 n c2 = .slice A3 n c3 := (hAt 2 (by simp)).2.symm.trans hv; simpa using h9
                obtain rfl : g4 = g5 := by have h9 : Value.slice (some ⟨g4, 0, none⟩) 1 1 = .slice (some ⟨g5, 0, none⟩) 1 1 := (hAt 4 (by simp)).2.symm.trans hv4; simpa using h9
                have hlt := hS.2.2.2.1.lt
                have hne : ∀ b, (fun b => Fr b ∧ b < w.heap.size) b → (Value.slice A2 n c2).ownBlock ≠ some b := fun b hb e => by have := (Lay.own_base ho b e).1; have := hb.2; omega
                obtain ⟨A6, c6, w8, hrun, hown, hgr, hat⟩ := run_appL (L := LB3) (e := 45) (P := Try.prog) (w := w9) 27 27 _ 3 40 Try.underlying27 infoB rfl rfl (by decide) (w.heap.size + 3) (fun b => Fr b ∧ b < w.heap.size) A2 n c2 q g4 1 45 #[.slice bA bn bcp, .bool fin, .int .u64 cnt] ⟨rows, fin, cnt⟩ ho hb5 ⟨bA, bn, bcp, rfl, hbn, hbc, Lay.rd_below (Lay.rd_weak (fun b h1 h2 => ⟨⟨h1, h2⟩, hne b ⟨h1, h2⟩⟩) HRB.out) hT⟩ (fun b hb => Nat.lt_of_lt_of_le hb.2 hT.size) (by omega) (by unfold maxLen; omega) (by omega)
                have hrr : ∀ j, (Value.slice A2 n c2).ownBlock = some j → w.heap.size + 3 ≤ j := fun j e => (Lay.own_base ho j e).1
                exact ⟨_, w8, exec_append (.tmp 24) (.tmp 26) 27 rfl rfl rfl hrun, ⟨A6, c6, rfl⟩, WithS.on5 (fun _ _ _ => rfl) d9 hS hgr hrr (by omega) ⟨by omega, by omega, by omega⟩ ⟨A6, c6, rfl, hown⟩⟩
              try simp only [Act.put, sA, sZ, sS]
              obtain ⟨A5, c5, rfl⟩ := hVv5
              refine Ps.st (i := 8) (d := some 30) (u := _) rfl rfl (StepS.pure (WithS.pass (by decide)) rfl fun w9 => by go_simp; try rfl) ?_
              try simp only [Act.put, sA, sZ, sS]
              refine Ps.st (i := 9) (d := none) (u := undef) rfl rfl ?yw5q_16 ?rw5q_16
              case yw5q_16 =>
                refine StepS.store [5] (by kernel_rfl) (by rfl) (fun L9 m9 w9 hSh hAt hDn hS => ?_)
                have hv := (hAt 5 (by simp)).2
                have hb := hS.2.1
                have z0 := hb.frozen 2
                have hcell := hb.cell 2
                have hS2 := WithS.on9 (u := .slice A5 (n + 1) c5) (fun _ => rfl) (by omega) ⟨by omega, by omega, Nat.le_refl _⟩ (fun h => absurd h.2 (by omega)) hDn (hAt 5 (by simp)).1 hS (by rw [hv]; rfl)
                refine ⟨w9.setCell ⟨w.heap.size, 2, none⟩ (.slice A5 (n + 1) c5), ?_, hS2⟩
                clear hS hS2 hv hb
                simp only [hDn] at hcell
                clear hDn
                go_simp
              try simp only [Act.put]
              refine Ps.st (i := 10) (d := some 31) (u := _) rfl rfl (StepS.pure (WithS.pass (by decide)) rfl fun w9 => by go_simp; try rfl) ?_
              try simp only [Act.put, sA, sZ, sS]
              refine Ps.st (i := 11) (d := none) (u := undef) rfl rfl ?yw5q_18 ?rw5q_18
              case yw5q_18 =>
                refine StepS.store [5, 9] (by kernel_rfl) (by rfl) (fun L9 m9 w9 hSh hAt hDn hS => ?_)
                have hb := hS.2.1
                have z0 := hb.frozen 6
                have hcell := hb.cell 6
                have hS2 := WithS.on11 (u := .bool fin) (fun _ => rfl) (by omega) ⟨by omega, by omega, Nat.le_refl _⟩ (fun h => absurd h.2 (by omega)) hDn (hAt 9 (by simp)).1 (hAt 5 (by simp)).1 hS
                refine ⟨w9.setCell ⟨w.heap.size, 6, none⟩ (.bool fin), ?_, hS2⟩
                clear hS hS2 hb
                simp only [hDn] at hcell
                clear hDn
                go_simp
              try simp only [Act.put]
              refine Ps.done (by kernel_rfl) (fun w5q hS => ?_) _
              obtain ⟨A6, c6, hv6, ho6⟩ : QW (w.heap.size + 3) (fun b => Fr b ∧ b < w.heap.size) (n + 1) (q ++ [⟨rows, fin, cnt⟩]) (.slice A5 (n + 1) c5) _ := hS.2.2.2.2.2.2 (by rfl)
              injection hv6 with e1 _ e2
              subst e1 e2
              refine ⟨A5, c5, ⟨.pointer (some ⟨w.heap.size, 2, none⟩), .slice A n c, .slice A2 n c2, .agg #[.slice bA bn bcp, .bool fin, .int .u64 cnt], .slice (some ⟨g4, 0, none⟩) 1 1, .pointer (some ⟨w.heap.size + 1, 1, none⟩), .bool fin, .pointer (some ⟨w.heap.size, 2, none⟩), .pointer (some ⟨w.heap.size, 6, none⟩), ?_⟩, hS.2.1, hS.2.2.2.1, ho6, hS.1⟩
              try dsimp only
      case kpsw5q =>
        intro a' w6 hF
        obtain ⟨A5, c5, ⟨v22, v23, v24, v25, v26, v28, v29, v30, v31, rfl⟩, hb1, hb3, ho, hq⟩ := hF
        simp only [Act.put, sA, sZ, sS]
        have hcap := Lay.own_caps ho
        have HB1 := Lib.hid hb1
        have HB3 := Lib.hid hb3
        have HO := Lib.hid ho
        have HQ := Lib.hid hq
        have HC := Lib.hid hcap
        clear hb1 hb3 ho hq hcap HK1 HK2 HK3
        go_wp2_with (first | (refine wpList_load_blk rfl 29 (.tmp 2) rfl w.heap.size rfl 29 _ _ HB1.out Try.underlying29 rfl senderI ?_) | (refine wpList_store_blk rfl 29 (.tmp 4) (.tmp 32) rfl (w.heap.size + 2) 29 _ #[.int .u32 ses, .int .u64 base, .slice A5 (n + 1) c5, .int .u64 sent, .int .u64 lim, .int .i64 timer, .bool fin] rfl rfl HB3.out rfl senderI (by simp [Value.oneCell']) ?_; intro wz hZ gz))
        have hrd := Lay.own_rd (F := fun k => Fr k ∨ w.heap.size ≤ k) (Lay.own_same HO.out (fun k hk => gz.block k (Lay.own_base HO.out k hk).2 (fun e => by injection e with e; have := (Lay.own_base HO.out k hk).1; omega)) (fun k hk _ hl => gz.block k hl (fun e => by injection e with e; have := hk.2; omega))) (fun k h1 _ => .inr (by omega)) (fun k hk _ => .inl hk.1)
        exact bodyPost_ret (res2 Try.results105 rfl rfl hZ Try.underlying29 rfl senderI) rfl (.inr ⟨rfl, A5, c5, rfl, hrd, HC.out.1, HC.out.2, bl_gr HQ.out gz (by omega)⟩)
    · obtain rfl : E = 6 := by rw [HE2.out, if_pos (by have h := HEf3.out; simp at h; omega)]
      have HK3 := Lib.hid (HK3.out.ca HW17.out)
      have HQ3 := Lib.hid (bl_ca HQ3.out HW17.out)
      go_wp2_with (refine wpList_store_blk rfl 29 (.tmp 4) (.tmp 21) rfl (w.heap.size + 2) 29 _ #[.int .u32 0, .int .u64 0, .slice none 0 0, .int .u64 0, .int .u64 0, .int .i64 0, .bool false] rfl rfl HK3.out rfl senderI (by simp [Value.oneCell']) ?_; intro wz hZ gz)
      exact bodyPost_ret (res2 Try.results105 rfl rfl hZ Try.underlying29 rfl senderI) rfl (with_no (by decide) (bl_gr HQ3.out gz (by omega)))
  · obtain rfl : E = 322 := HE.out
    go_enter Try.func105, Try.ntmps105
    go_wp2_with (refine wpList_store_blk rfl 29 (.tmp 4) (.tmp 9) rfl (w.heap.size + 2) 29 _ #[.int .u32 0, .int .u64 0, .slice none 0 0, .int .u64 0, .int .u64 0, .int .i64 0, .bool false] rfl rfl HK3.out rfl senderI (by simp [Value.oneCell']) ?_; intro wz hZ gz)
    exact bodyPost_ret (res2 Try.results105 rfl rfl hZ Try.underlying29 rfl senderI) rfl (with_no (by decide) (bl_gr HQ3.out gz (by omega)))
end Go.Proofs.Ytojghgbaiiajfaa
