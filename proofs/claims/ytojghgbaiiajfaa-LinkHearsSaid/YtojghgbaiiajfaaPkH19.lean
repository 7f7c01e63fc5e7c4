/- link.Hear, of what changes nothing. Conditions: the rows read as these batches. -/
import Derived.Test.YtojghgbaiiajfaaPkH18
import Derived.WalkMore
import Derived.Deep.LoopGhost
import Derived.Shelf.Abstract
namespace Go.Proofs.Ytojghgbaiiajfaa
open Go.RowKit
theorem own_form2 {α : Type} {L : Lay α} {e : TypeId} {w : World} {B n c : Nat} {G : Nat → Prop} {A : Option Addr} {xs : List α} (h : L.own e w B G A n c xs) : A = none ∨ ∃ g, A = some ⟨g, 0, none⟩ := by
 obtain ⟨hl, cs, hr, ho⟩ := h
 rcases ho.2 with ⟨e, _⟩ | ⟨g, cap, _, e, _⟩
 · injection e with e1 _ _; exact .inl e1
 · injection e with e1 _ _; exact .inr ⟨g, e1⟩
theorem mine_own {α : Type} {L : Lay α} {e : TypeId} {w : World} {B n c : Nat} {G : Nat → Prop} {A : Option Addr} {xs : List α} (h : L.own e w B G A n c xs) : Mine w B A (n * L.size) := by
 rintro ad rfl
 rcases own_form2 h with h1 | ⟨g, h1⟩
 · cases h1
 · injection h1 with h1
   subst h1
   have hb := Lay.own_base h g (by simp [Value.ownBlock])
   exact ⟨g, 0, rfl, hb.1, hb.2, own_cells h g rfl⟩
/-- link.hears' answer, with its parts -/
def HearsO (Fr : Nat → Prop) (r : RC) (E : Int) (r2 : RC) (X : Nat → Prop) (Y : World → Prop) (w : World) (C : Array Value) (N : Int) (w' : World) : Prop :=
 if recB r then Chg X w w' ∧ Y w' ∧ ((E ≠ 0 ∧ C = zeroR.cells none 0 0 none 0 0 ∧ N = E) ∨ (E = 0 ∧ N = 0 ∧ ∃ A3 n3 c3 A4 m4 d4, C = r2.cells A3 n3 c3 A4 m4 d4 ∧ RecO w' (w.heap.size + 2) (fun k => k < w'.heap.size ∧ (Fr k ∨ w.heap.size + 2 ≤ k)) A3 n3 c3 A4 m4 d4 r2))
 else C = zeroR.cells none 0 0 none 0 0 ∧ N = 320 ∧ Below w.heap.size w w'
theorem hears_o {Fr : Nat → Prop} {r : RC} {E : Int} {r2 : RC} {X : Nat → Prop} {Y : World → Prop} {w w' : World} {e : Ending} (h : HearsC Fr r E r2 X Y w e w') : ∃ (t : RC) (A : Option Addr) (n c : Nat) (A2 : Option Addr) (m d : Nat) (N : Int), e = .returned (.tuple #[.agg (t.cells A n c A2 m d), .int .i64 N]) ∧ HearsO Fr r E r2 X Y w (t.cells A n c A2 m d) N w' := by
 unfold HearsC at h
 cases hs : recB r
 · rw [hs] at h
   refine ⟨zeroR, none, 0, 0, none, 0, 0, 320, h.1, ?_⟩
   unfold HearsO
   rw [hs]
   exact ⟨rfl, rfl, h.2⟩
 · rw [hs] at h
   obtain ⟨h1, h2, h3, h4⟩ := h
   by_cases hE : E = 0
   · obtain ⟨A3, n3, c3, A4, m4, d4, he, ho⟩ := h4 hE
     refine ⟨r2, A3, n3, c3, A4, m4, d4, 0, he, ?_⟩
     unfold HearsO
     rw [hs]
     exact ⟨h1, h2, .inr ⟨hE, rfl, A3, n3, c3, A4, m4, d4, rfl, ho⟩⟩
   · refine ⟨zeroR, none, 0, 0, none, 0, 0, E, h3 hE, ?_⟩
     unfold HearsO
     rw [hs]
     exact ⟨h1, h2, .inl ⟨hE, rfl, rfl⟩⟩
/-- the caller has laid blocks of its own and stores the answer into one of them -/
theorem HearsO.out {Fr : Nat → Prop} {r : RC} {E : Int} {r2 : RC} {X X' : Nat → Prop} {Y : World → Prop} {w w1 w2 w3 : World} {C : Array Value} {N : Int} {k : Nat} (h : HearsO Fr r E r2 X Y w1 C N w2) (b1 : Below w.heap.size w w1) (gz : w2.grownBy w3 (some k))
 (hFr : ∀ b, Fr b → b < k) (hk : w.heap.size ≤ k) (hk1 : k < w1.heap.size) (h2 : w.heap.size + 2 ≤ w1.heap.size) (hX : ∀ b, X b → b < w.heap.size → X' b) (hY : ∀ w1 w2, Y w1 → w1.grownBy w2 (some k) → Y w2) : HearsO Fr r E r2 X' Y w C N w3 := by
 unfold HearsO at h ⊢
 cases hs : recB r
 · rw [hs] at h
   exact ⟨h.1, h.2.1, bl_gr (bl_ca b1 (h.2.2)) gz hk⟩
 · rw [hs] at h
   obtain ⟨hc, hy, h3⟩ := h
   have hs1 := b1.size
   have hC : Chg X' w w2 := ⟨hc.os.trans b1.os, hc.tape.trans b1.tape, hc.output.trans b1.output, Nat.le_trans hs1 hc.size, fun b hb hx => (hc.block b (by omega) (fun h => hx (hX b h hb))).trans (b1.block b hb)⟩
   refine ⟨hC.grown gz (fun j e => .inr (by injection e with e; omega)), hY _ _ hy gz, ?_⟩
   rcases h3 with h3 | ⟨hE, hN, A3, n3, c3, A4, m4, d4, hC2, ho⟩
   · exact .inl h3
   · exact .inr ⟨hE, hN, A3, n3, c3, A4, m4, d4, hC2, ho.grown gz (by omega) (by omega) (fun j hj => ⟨hj.2.elim (fun h => by have := hFr j h; omega) (fun h => by omega), Nat.lt_of_lt_of_le hj.1 gz.size, hj.2.elim .inl (fun h => .inr (by omega))⟩)⟩
theorem HearsO.blk {Fr : Nat → Prop} {r : RC} {E : Int} {r2 : RC} {X : Nat → Prop} {Y : World → Prop} {w w' : World} {C : Array Value} {N : Int} {g : Nat} {t : TypeId} {cs : Array Value} (h : HearsO Fr r E r2 X Y w C N w') (hb : Blk w g t cs) (hx : ¬ X g) : Blk w' g t cs := by
 unfold HearsO at h
 cases hs : recB r
 · rw [hs] at h
   exact hb.ca h.2.2
 · rw [hs] at h
   exact hb.chg h.1 hx
/-- a packet that a receiver looks at -/
def heardA (r : RC) (pk : PK) : Bool := checkP pk && (decide (pk.kind = 1) && decide (pk.ses = r.ses))
set_option maxRecDepth 100000 in
set_option maxHeartbeats 16000000 in
theorem hear_do (Fr : Nat → Prop) (r r2 : RC) (A : Option Addr) (n c : Nat) (A2 : Option Addr) (m d : Nat) (pk : PK) (pA : Option Addr) (pn pc : Nat) (w : World) (hFr : ∀ k, Fr k → k < w.heap.size) (h : LH4.rd w Fr A n r.ahead) (h2 : LB3.rd w Fr A2 m r.buf) (hr : LR.rd w Fr pA pn pk.b.rows) (hn : n ≤ 9223372036854775807) (hm : m ≤ 9223372036854775807)
 (hD : ∀ w0, Blk w0 (w.heap.size + 1) 47 (pk.cells pA pn pc) → LR.rd w0 Fr pA pn pk.b.rows → (∀ k, Fr k → k < w0.heap.size) → DoR 75 #[.pointer (some ⟨w.heap.size + 1, 0, none⟩)] w0 Fr r 0 r2 noX noY) :
 Calls Try.prog 29 #[.agg (r.cells A n c A2 m d), .agg (pk.cells pA pn pc)] w fun e w' => ∃ (t : RC) (A' : Option Addr) (n' c' : Nat) (B' : Option Addr) (m' d' : Nat) (N : Int), e = .returned (.tuple #[.agg (t.cells A' n' c' B' m' d'), .int .i64 N]) ∧ HearsO Fr r 0 r2 noX noY w (t.cells A' n' c' B' m' d') N w' := by
 have q1 := bl_al (Below.refl w.heap.size w) (.cells (r.cells A n c A2 m d) 36)
 have q2 := bl_al (Below.refl (w.alloc (.cells (r.cells A n c A2 m d) 36)).heap.size (w.alloc (.cells (r.cells A n c A2 m d) 36))) (.cells (pk.cells pA pn pc) 47)
 have q12 := bl_ca q1 q2
 have hsz2 : ((w.alloc (.cells (r.cells A n c A2 m d) 36)).alloc (.cells (pk.cells pA pn pc) 47)).heap.size = w.heap.size + 2 := by simp only [World.size_alloc]
 have HS2 := (Blk.new w 36 (r.cells A n c A2 m d)).ca q2
 have HP2 : Blk ((w.alloc (.cells (r.cells A n c A2 m d) 36)).alloc (.cells (pk.cells pA pn pc) 47)) (w.heap.size + 1) 47 (pk.cells pA pn pc) := Blk.mk' (by simp only [World.size_alloc])
 generalize hw2 : (w.alloc (.cells (r.cells A n c A2 m d) 36)).alloc (.cells (pk.cells pA pn pc) 47) = w2 at *
 have q3 := bl_al (Below.refl w2.heap.size w2) (.cells (zeroR.cells none 0 0 none 0 0) 36)
 have HZ := Lib.hid (show Blk (w2.alloc (.cells (zeroR.cells none 0 0 none 0 0) 36)) (w.heap.size + 2) 36 (zeroR.cells none 0 0 none 0 0) from by rw [← hsz2]; exact Blk.new _ _ _)
 have HB := Lib.hid (bl_ca q12 q3)
 have hsz : (w2.alloc (.cells (zeroR.cells none 0 0 none 0 0) 36)).heap.size = w.heap.size + 3 := by simp only [World.size_alloc]; omega
 have HSE := Lib.hid (hears_any Fr r A n c A2 m d 75 #[.pointer (some ⟨w.heap.size + 1, 0, none⟩)] 0 r2 noX noY _ (Lay.rd_below (Lay.rd_below h q12) q3) (Lay.rd_below (Lay.rd_below h2 q12) q3) (fun k h => by have := hFr k h; omega) hn hm (Go.Proofs.enters_of Try.func75 (by kernel_rfl) rfl)
  (hD _ (HP2.ca q3) (Lay.rd_below (Lay.rd_below hr q12) q3) (fun k h => by have := hFr k h; omega)) (fun k h => h.elim) (fun _ _ h _ => h))
 have HS := Lib.hid (HS2.ca q3)
 subst hw2
 clear h h2 hr hD q1 q2 q12 q3 HS2 HP2 hsz2
 go_enter Try.func29, Try.ntmps29
 go_wp2_with (refine wpList_load_blk rfl 36 (.tmp 2) rfl w.heap.size rfl 36 _ (r.cells A n c A2 m d) HS.out rfl rfl receiverI ?_)
 refine HSE.out.mono ?_
 clear HSE
 rintro e w4 h4
 obtain ⟨t, A', n', c', B', m', d', N, rfl, ho⟩ := hears_o h4
 have HZ4 := Lib.hid (ho.blk HZ.out (fun h => h))
 have HO := Lib.hid ho
 clear h4 ho HS HZ
 go_wp2_with (refine wpList_store_blk rfl 36 (.tmp 4) (.tmp 9) rfl (w.heap.size + 2) 36 _ (t.cells A' n' c' B' m' d') rfl rfl HZ4.out rfl receiverI (by obtain ⟨s1, s2, s3, s4, s5, s6⟩ := t; simp [Value.oneCell', RC.cells]) ?_; intro wz hZ gz)
 exact bodyPost_ret (res2 Try.results29 rfl rfl hZ Try.underlying36 rfl receiverI) rfl ⟨t, A', n', c', B', m', d', N, rfl, HO.out.out HB.out gz (fun k h => by have := hFr k h; omega) (by omega) (by omega) (by omega) (fun b h _ => h.elim) (fun _ _ h _ => h)⟩
end Go.Proofs.Ytojghgbaiiajfaa
/- link.takes. Conditions: the rows read as these; the receiver may be. -/
namespace Go.Proofs.Ytojghgbaiiajfaa
open Go.RowKit

/-- what is handed over: a test of a held batch -/
def TestH (D : FuncId) (cap : Array Value) (f : HC → Bool) (G : World → Prop) : Prop :=
 ∀ (q : HC) (B : Option Addr) (k d : Nat) (W : World), G W → Calls Try.prog D (#[.agg #[.int .u64 q.seq, .slice B k d, .bool q.b.fin, .int .u64 q.b.cnt]] ++ cap) W fun e w' => e = .returned (.bool (f q)) ∧ Below W.heap.size W w'
set_option maxRecDepth 100000 in
set_option maxHeartbeats 4000000 in
theorem indexH (F : Nat → Prop) (A : Option Addr) (m c : Nat) (xs : List HC) (D : FuncId) (cap : Array Value) (f : HC → Bool) (w : World) (h : LH4.rd w F A m xs) (hm : m ≤ 9223372036854775807)
 (hent : ∀ (args : Array Value) (w : World), (callFunc D args).run Try.prog w = .ok (.enter D args) w) (hD : TestH D cap f (fun W => Below w.heap.size w W)) :
 Calls Try.prog 120 #[.slice A m c, .func (.func D) #[] cap] w fun e w' => e = .returned (.int .i64 (idxL f xs)) ∧ Below w.heap.size w w' := by
 have HL := Lib.hid h.1
 have HEN := hent
 have HD := Lib.hid hD
 clear hent hD
 go_enter Try.func120, Try.ntmps120
 go_wp2_with fail
 go_loopg [8] m (fun g a wr => ∃ i : Nat, i + g = m ∧ a = .int .i64 i ∧ (∀ (k : Nat) (q : HC), k < i → xs[k]? = some q → f q = false) ∧ Below w.heap.size w wr)
 case atStart => exact ⟨0, by omega, rfl, fun k q hk => by omega, Below.refl _ _⟩
 case round =>
  obtain ⟨i, hig, rfl, hlo, bb⟩ := hrel
  have HLO := Lib.hid hlo
  have HBB := Lib.hid bb
  clear hlo
  by_cases hlt : i < m
  · have hi1 : (i : Int) < (m : Int) := by omega
    obtain ⟨p, q, B, k, d, rfl, hx, s1⟩ := LH4_at (Lay.rd_below h bb) hlt
    have e0 := s1.c0
    have e1 := s1.c1
    have e2 := s1.c2
    have e3 := s1.c3
    have HX := Lib.hid hx
    have HKC := Lib.hid (HD.out q B k d wr bb )
    clear hx s1 bb
    cases hq : f q
    · rw [hq] at HKC
      have HF := Lib.hid (show ∀ (k : Nat) (r : HC), k < i + 1 → xs[k]? = some r → f r = false from fun k r hk hr => by
       rcases Nat.lt_or_ge k i with h1 | h1
       · exact HLO.out k r h1 hr
       · obtain rfl : k = i := by omega
         have h2 := HX.out
         rw [hr] at h2
         injection h2 with h2
         subst h2
         exact hq)
      clear hq
      go_wp2_with fail
      refine HKC.out.mono ?_
      rintro e w2 ⟨rfl, q2⟩
      have b2 := bl_ca HBB.out q2
      clear q2
      go_wp2
      go_roundg (gk - 1)
      · exact ⟨i + 1, by omega, by go_num, HF.out, b2⟩
      · omega
    · rw [hq] at HKC
      have HF := Lib.hid (idxL_at HX.out hq HLO.out)
      clear hq
      go_wp2_with fail
      refine HKC.out.mono ?_
      rintro e w2 ⟨rfl, q2⟩
      have b2 := bl_ca HBB.out q2
      clear q2
      go_wp2
      go_ret
      exact ⟨ret_int (by rw [HF.out]), b2⟩
  · obtain rfl : i = m := by omega
    have hi1 : (i : Int) ≤ (i : Int) := by omega
    have HF := Lib.hid (idxL_no (fun k q hk => HLO.out k q (by rw [← HL.out]; exact hk)))
    clear bb
    go_wp2
    go_ret
    exact ⟨ret_int (by rw [HF.out]), HBB.out⟩
set_option maxRecDepth 100000 in
theorem containsH (F : Nat → Prop) (A : Option Addr) (m c : Nat) (xs : List HC) (D : FuncId) (cap : Array Value) (f : HC → Bool) (w : World) (h : LH4.rd w F A m xs) (hm : m ≤ 9223372036854775807)
 (hent : ∀ (args : Array Value) (w : World), (callFunc D args).run Try.prog w = .ok (.enter D args) w) (hD : TestH D cap f (fun W => Below w.heap.size w W)) :
 Calls Try.prog 107 #[.slice A m c, .func (.func D) #[] cap] w fun e w' => e = .returned (.bool (xs.any f)) ∧ Below w.heap.size w w' := by
 have HI := Lib.hid (indexH F A m c xs D cap f w h hm hent hD)
 have HE := Lib.hid (idxL_has f xs)
 clear h hent hD
 generalize idxL f xs = z at *
 go_enter Try.func107, Try.ntmps107
 go_wp2_with fail
 refine HI.out.mono ?_
 rintro e w2 ⟨rfl, q2⟩
 have HQ := Lib.hid q2
 clear q2
 go_wp2
 go_ret
 exact ⟨ret_bool (by rw [← HE.out]), HQ.out⟩

/-- does a held batch stand against one of a number? -/
def againstB (b : BC) (seq : Int) (h : HC) : Bool := (decide (h.seq = seq) || (h.b.fin && decide (h.seq < seq))) || (b.fin && decide (seq < h.seq))
def takesB (r : RC) (b : BC) (seq : Int) : Bool := !(((r.over || endsB r.buf) || decide (seq < r.next)) || decide (limR r < seq)) && !(r.ahead.any (againstB b seq))
set_option maxRecDepth 100000 in
set_option maxHeartbeats 16000000 in
theorem takes1_any (b : BC) (seq : Int) (p5 p4 : Nat) (bA : Option Addr) (bn bc : Nat) (w0 : World) (h5 : Blk w0 p5 26 #[.int .u64 seq]) (h4 : Blk w0 p4 45 #[.slice bA bn bc, .bool b.fin, .int .u64 b.cnt]) :
 TestH 108 #[.pointer (some ⟨p5, 0, none⟩), .pointer (some ⟨p4, 0, none⟩)] (againstB b seq) (fun W => Below w0.heap.size w0 W) := by
 intro q B k d W hW
 have q1 := bl_al (Below.refl W.heap.size W) (.cells #[.int .u64 q.seq, .slice B k d, .bool q.b.fin, .int .u64 q.b.cnt] 81)
 have HQ1 := Lib.hid q1
 have HN := Lib.hid (Blk.new W 81 #[.int .u64 q.seq, .slice B k d, .bool q.b.fin, .int .u64 q.b.cnt])
 have H5 := Lib.hid ((h5.ca hW).ca q1)
 have H4 := Lib.hid ((h4.ca hW).ca q1)
 clear q1 h5 h4 hW
 obtain ⟨gg, hgg⟩ : ∃ gg, gg = W.heap.size := ⟨_, rfl⟩
 rw [← hgg] at HN
 obtain ⟨RR, hRR⟩ : ∃ RR, RR = againstB b seq q := ⟨_, rfl⟩
 rw [← hRR]
 have HRR := Lib.hid hRR
 clear hRR
 show Calls Try.prog 108 #[.agg #[.int .u64 q.seq, .slice B k d, .bool q.b.fin, .int .u64 q.b.cnt], .pointer (some ⟨p5, 0, none⟩), .pointer (some ⟨p4, 0, none⟩)] W _
 go_enter Try.func108, Try.ntmps108
 go_upto_region 1 with fail
 rw [← hgg]
 generalize W.alloc (.cells #[.int .u64 q.seq, .slice B k d, .bool q.b.fin, .int .u64 q.b.cnt] 81) = w1 at *
 clear hgg
 refine wp_region_ps0 .text (S := fun _ _ w' => Below w1.heap.size w1 w') (by kernel_rfl) ?spswg1 ?ppswg1
 case spswg1 =>
  exact (Below.refl w1.heap.size w1)
 refine Pz 0 (some 5) (.pointer (some ⟨gg, 0, none⟩)) rfl rfl (by exact StepS.pure nP rfl fun _ => rfl) ?_
 try simp only [Act.put, sA, sZ, sS]
 refine Pz 1 (some 6) (.int .u64 (q.seq)) rfl rfl ?ywg1_3 ?rwg1_3
 case ywg1_3 =>
  refine StepS.read [] (by kernel_rfl) nP (by rfl) (fun L9 m9 w9 hSh hAt hDn hS => ?_)
  have hT : Below _ _ w9 := hS
  have x0 : w9.cell? ⟨gg, 0, none⟩ = some (.int .u64 (q.seq)) := (HN.out.ca hT).cell 0
  clear hT hS
  go_simp
  try rfl
 try simp only [Act.put, sA, sZ, sS]
 refine Pz 2 (some 7) (.int .u64 (seq)) rfl rfl ?ywg1_4 ?rwg1_4
 case ywg1_4 =>
  refine StepS.read [] (by kernel_rfl) nP (by rfl) (fun L9 m9 w9 hSh hAt hDn hS => ?_)
  have hT : Below _ _ w9 := hS
  have x0 : w9.cell? ⟨p5, 0, none⟩ = some (.int .u64 (seq)) := (H5.out.ca hT).cell 0
  clear hT hS
  go_simp
  try rfl
 try simp only [Act.put, sA, sZ, sS]
 refine Pz 3 (some 8) (.bool (decide (q.seq = seq))) rfl rfl (by exact StepS.pure nP rfl fun _ => rfl) ?_
 try simp only [Act.put, sA, sZ, sS]
 obtain ⟨bS, hb9⟩ : ∃ zb : Bool, zb = (decide (q.seq = seq)) := ⟨_, rfl⟩
 have HEbS := Lib.hid hb9
 clear hb9
 refine Pz 4 (some 9) (.bool (bS)) rfl rfl ?ywg1_6 ?rwg1_6
 case ywg1_6 =>
  refine StepS.pure nP (by rfl) (fun w9 => ?_)
  have e9 : (decide (q.seq = seq)) = bS := by rw [HEbS.out]
  rw [← e9]
  clear e9
  first | rfl | (go_simp; done) | (go_simp; rfl)
 try simp only [Act.put, sA, sZ, sS]
 refine Pz 5 (some 10) (cond bS (undef) (.pointer (some ⟨gg, 1, none⟩))) rfl rfl (by cases bS; (exact StepS.pure nP rfl fun _ => rfl); exact StepS.skip nP rfl) ?_
 try simp only [Act.put, sA, sZ, sS]
 refine Pz 6 (some 11) (cond bS (undef) (.pointer (some ⟨gg, 2, none⟩))) rfl rfl (by cases bS; (exact StepS.pure nP rfl fun _ => rfl); exact StepS.skip nP rfl) ?_
 try simp only [Act.put, sA, sZ, sS]
 refine Pz 7 (some 12) (cond bS (undef) (.bool (q.b.fin))) rfl rfl ?ywg1_9 ?rwg1_9
 case ywg1_9 =>
  cases bS
  · skip
    refine StepS.read [] (by kernel_rfl) nP (by rfl) (fun L9 m9 w9 hSh hAt hDn hS => ?_)
    have hT : Below _ _ w9 := hS
    have x0 : w9.cell? ⟨gg, 2, none⟩ = some (.bool (q.b.fin)) := (HN.out.ca hT).cell 2
    clear hT hS
    go_simp
    try rfl
  · exact StepS.skip nP (by rfl)
 try simp only [Act.put, sA, sZ, sS]
 obtain ⟨bF, hb9⟩ : ∃ zb : Bool, zb = (q.b.fin) := ⟨_, rfl⟩
 have HEbF := Lib.hid hb9
 clear hb9
 refine Pz 8 (some 13) (cond bS (undef) (.bool (bF))) rfl rfl ?ywg1_10 ?rwg1_10
 case ywg1_10 =>
  cases bS
  · skip
    refine StepS.pure nP (by rfl) (fun w9 => ?_)
    have e9 : (q.b.fin) = bF := by rw [HEbF.out]
    rw [← e9]
    clear e9
    first | rfl | (go_simp; done) | (go_simp; rfl)
  · exact StepS.skip nP (by rfl)
 try simp only [Act.put, sA, sZ, sS]
 refine Pz 9 (some 14) (cond bS (undef) (cond bF (.int .u64 (seq)) (undef))) rfl rfl ?ywg1_11 ?rwg1_11
 case ywg1_11 =>
  cases bS
  · skip
    cases bF
    · exact StepS.skip nP (by rfl)
    · skip
      refine StepS.read [] (by kernel_rfl) nP (by rfl) (fun L9 m9 w9 hSh hAt hDn hS => ?_)
      have hT : Below _ _ w9 := hS
      have x0 : w9.cell? ⟨p5, 0, none⟩ = some (.int .u64 (seq)) := (H5.out.ca hT).cell 0
      clear hT hS
      go_simp
      try rfl
  · exact StepS.skip nP (by rfl)
 try simp only [Act.put, sA, sZ, sS]
 refine Pz 10 (some 15) (cond bS (undef) (cond bF (.pointer (some ⟨gg, 0, none⟩)) (undef))) rfl rfl (by cases bS; (cases bF; exact StepS.skip nP rfl; exact StepS.pure nP rfl fun _ => rfl); exact StepS.skip nP rfl) ?_
 try simp only [Act.put, sA, sZ, sS]
 refine Pz 11 (some 16) (cond bS (undef) (cond bF (.int .u64 (q.seq)) (undef))) rfl rfl ?ywg1_13 ?rwg1_13
 case ywg1_13 =>
  cases bS
  · skip
    cases bF
    · exact StepS.skip nP (by rfl)
    · skip
      refine StepS.read [] (by kernel_rfl) nP (by rfl) (fun L9 m9 w9 hSh hAt hDn hS => ?_)
      have hT : Below _ _ w9 := hS
      have x0 : w9.cell? ⟨gg, 0, none⟩ = some (.int .u64 (q.seq)) := (HN.out.ca hT).cell 0
      clear hT hS
      go_simp
      try rfl
  · exact StepS.skip nP (by rfl)
 try simp only [Act.put, sA, sZ, sS]
 refine Pz 12 (some 17) (cond bS (undef) (cond bF (.bool (decide (q.seq < seq))) (undef))) rfl rfl (by cases bS; (cases bF; exact StepS.skip nP rfl; exact StepS.pure nP rfl fun _ => rfl); exact StepS.skip nP rfl) ?_
 try simp only [Act.put, sA, sZ, sS]
 refine Pz 13 (some 18) (cond bS (undef) (.bool (bF && (decide (q.seq < seq))))) rfl rfl ?ywg1_15 ?rwg1_15
 case ywg1_15 =>
  cases bS
  · skip
    refine StepS.pure nP (by rfl) (fun w9 => ?_)
    cases bF <;> (first | rfl | (go_simp; done) | (go_simp; rfl))
  · exact StepS.skip nP (by rfl)
 try simp only [Act.put, sA, sZ, sS]
 refine Pz 14 (some 19) (.bool (bS || (bF && (decide (q.seq < seq))))) rfl rfl ?ywg1_16 ?rwg1_16
 case ywg1_16 =>
  refine StepS.pure nP (by rfl) (fun w9 => ?_)
  cases bS <;> (first | rfl | (go_simp; done) | (go_simp; rfl))
 try simp only [Act.put, sA, sZ, sS]
 obtain ⟨bM, hb9⟩ : ∃ zb : Bool, zb = ((decide (q.seq = seq)) || ((q.b.fin) && (decide (q.seq < seq)))) := ⟨_, rfl⟩
 have HEbM := Lib.hid hb9
 clear hb9
 refine Pz 15 (some 20) (.bool (bM)) rfl rfl ?ywg1_17 ?rwg1_17
 case ywg1_17 =>
  refine StepS.pure nP (by rfl) (fun w9 => ?_)
  have e9 : (bS || (bF && (decide (q.seq < seq)))) = bM := by rw [HEbM.out, HEbS.out, HEbF.out]
  rw [← e9]
  clear e9
  first | rfl | (go_simp; done) | (go_simp; rfl)
 try simp only [Act.put, sA, sZ, sS]
 refine Pz 16 (some 21) (cond bM (undef) (.pointer (some ⟨p4, 1, none⟩))) rfl rfl (by cases bM; (exact StepS.pure nP rfl fun _ => rfl); exact StepS.skip nP rfl) ?_
 try simp only [Act.put, sA, sZ, sS]
 refine Pz 17 (some 22) (cond bM (undef) (.bool (b.fin))) rfl rfl ?ywg1_19 ?rwg1_19
 case ywg1_19 =>
  cases bM
  · skip
    refine StepS.read [] (by kernel_rfl) nP (by rfl) (fun L9 m9 w9 hSh hAt hDn hS => ?_)
    have hT : Below _ _ w9 := hS
    have x0 : w9.cell? ⟨p4, 1, none⟩ = some (.bool (b.fin)) := (H4.out.ca hT).cell 1
    clear hT hS
    go_simp
    try rfl
  · exact StepS.skip nP (by rfl)
 try simp only [Act.put, sA, sZ, sS]
 obtain ⟨bG, hb9⟩ : ∃ zb : Bool, zb = (b.fin) := ⟨_, rfl⟩
 have HEbG := Lib.hid hb9
 clear hb9
 refine Pz 18 (some 23) (cond bM (undef) (.bool (bG))) rfl rfl ?ywg1_20 ?rwg1_20
 case ywg1_20 =>
  cases bM
  · skip
    refine StepS.pure nP (by rfl) (fun w9 => ?_)
    have e9 : (b.fin) = bG := by rw [HEbG.out]
    rw [← e9]
    clear e9
    first | rfl | (go_simp; done) | (go_simp; rfl)
  · exact StepS.skip nP (by rfl)
 try simp only [Act.put, sA, sZ, sS]
 refine Pz 19 (some 24) (cond bM (undef) (cond bG (.pointer (some ⟨gg, 0, none⟩)) (undef))) rfl rfl (by cases bM; (cases bG; exact StepS.skip nP rfl; exact StepS.pure nP rfl fun _ => rfl); exact StepS.skip nP rfl) ?_
 try simp only [Act.put, sA, sZ, sS]
 refine Pz 20 (some 25) (cond bM (undef) (cond bG (.int .u64 (q.seq)) (undef))) rfl rfl ?ywg1_22 ?rwg1_22
 case ywg1_22 =>
  cases bM
  · skip
    cases bG
    · exact StepS.skip nP (by rfl)
    · skip
      refine StepS.read [] (by kernel_rfl) nP (by rfl) (fun L9 m9 w9 hSh hAt hDn hS => ?_)
      have hT : Below _ _ w9 := hS
      have x0 : w9.cell? ⟨gg, 0, none⟩ = some (.int .u64 (q.seq)) := (HN.out.ca hT).cell 0
      clear hT hS
      go_simp
      try rfl
  · exact StepS.skip nP (by rfl)
 try simp only [Act.put, sA, sZ, sS]
 refine Pz 21 (some 26) (cond bM (undef) (cond bG (.int .u64 (seq)) (undef))) rfl rfl ?ywg1_23 ?rwg1_23
 case ywg1_23 =>
  cases bM
  · skip
    cases bG
    · exact StepS.skip nP (by rfl)
    · skip
      refine StepS.read [] (by kernel_rfl) nP (by rfl) (fun L9 m9 w9 hSh hAt hDn hS => ?_)
      have hT : Below _ _ w9 := hS
      have x0 : w9.cell? ⟨p5, 0, none⟩ = some (.int .u64 (seq)) := (H5.out.ca hT).cell 0
      clear hT hS
      go_simp
      try rfl
  · exact StepS.skip nP (by rfl)
 try simp only [Act.put, sA, sZ, sS]
 refine Pz 22 (some 27) (cond bM (undef) (cond bG (.bool (decide (seq < q.seq))) (undef))) rfl rfl (by cases bM; (cases bG; exact StepS.skip nP rfl; exact StepS.pure nP rfl fun _ => rfl); exact StepS.skip nP rfl) ?_
 try simp only [Act.put, sA, sZ, sS]
 refine Pz 23 (some 28) (cond bM (undef) (.bool (bG && (decide (seq < q.seq))))) rfl rfl ?ywg1_25 ?rwg1_25
 case ywg1_25 =>
  cases bM
  · skip
    refine StepS.pure nP (by rfl) (fun w9 => ?_)
    cases bG <;> (first | rfl | (go_simp; done) | (go_simp; rfl))
  · exact StepS.skip nP (by rfl)
 try simp only [Act.put, sA, sZ, sS]
 obtain ⟨bR, hb9⟩ : ∃ zb : Bool, zb = (((decide (q.seq = seq)) || ((q.b.fin) && (decide (q.seq < seq)))) || ((b.fin) && (decide (seq < q.seq)))) := ⟨_, rfl⟩
 have HEbR := Lib.hid hb9
 clear hb9
 refine Pz 24 (some 29) (.bool (bR)) rfl rfl ?ywg1_26 ?rwg1_26
 case ywg1_26 =>
  refine StepS.pure nP (by rfl) (fun w9 => ?_)
  have e9 : (bM || (bG && (decide (seq < q.seq)))) = bR := by rw [HEbR.out, HEbM.out, HEbG.out]
  rw [← e9]
  clear e9
  cases bM <;> (first | rfl | (go_simp; done) | (go_simp; rfl))
 try simp only [Act.put, sA, sZ, sS]
 refine Pz 25 (some 4) (.bool (bR)) rfl rfl (by exact StepS.pure nP rfl fun _ => rfl) ?_
 try simp only [Act.put, sA, sZ, sS]
 refine Ps.done (by kernel_rfl) (fun wg1 hS => ?_) _
 try generalize (cond bS (undef) (cond bF (.pointer (some ⟨gg, 0, none⟩)) (undef)) : Value) = zz28
 try generalize (cond bM (undef) (cond bG (.pointer (some ⟨gg, 0, none⟩)) (undef)) : Value) = zz29
 try generalize (cond bS (undef) (cond bF (.bool (decide (q.seq < seq))) (undef)) : Value) = zz30
 try generalize (cond bM (undef) (cond bG (.bool (decide (seq < q.seq))) (undef)) : Value) = zz31
 try generalize (cond bM (undef) (.bool (bG && (decide (seq < q.seq)))) : Value) = zz32
 try generalize (cond bS (undef) (.bool (bF && (decide (q.seq < seq)))) : Value) = zz33
 try generalize (cond bM (undef) (cond bG (.int .u64 (q.seq)) (undef)) : Value) = zz34
 try generalize (cond bS (undef) (cond bF (.int .u64 (q.seq)) (undef)) : Value) = zz35
 try generalize (cond bS (undef) (cond bF (.int .u64 (seq)) (undef)) : Value) = zz36
 try generalize (cond bM (undef) (cond bG (.int .u64 (seq)) (undef)) : Value) = zz37
 try generalize (cond bM (undef) (.pointer (some ⟨p4, 1, none⟩)) : Value) = zz38
 try generalize (cond bS (undef) (.pointer (some ⟨gg, 1, none⟩)) : Value) = zz39
 try generalize (cond bS (undef) (.pointer (some ⟨gg, 2, none⟩)) : Value) = zz40
 try generalize (.bool (bS || (bF && (decide (q.seq < seq)))) : Value) = zz41
 try generalize (cond bS (undef) (.bool (q.b.fin)) : Value) = zz42
 try generalize (cond bM (undef) (.bool (b.fin)) : Value) = zz43
 try generalize (cond bS (undef) (.bool (bF)) : Value) = zz44
 try generalize (cond bM (undef) (.bool (bG)) : Value) = zz45
 have HQ2 := Lib.hid (show Below w1.heap.size w1 wg1 from hS)
 clear hS
 obtain ⟨w2, rfl⟩ : ∃ x, x = wg1 := ⟨_, rfl⟩
 go_wp2
 go_ret
 exact ⟨ret_bool (by rw [HRR.out, HEbR.out]; rfl), bl_ca HQ1.out HQ2.out⟩
set_option maxRecDepth 100000 in
set_option maxHeartbeats 16000000 in
theorem takes_any (F F2 : Nat → Prop) (r : RC) (A : Option Addr) (n c : Nat) (A2 : Option Addr) (m d : Nat) (b : BC) (bA : Option Addr) (bn bc : Nat) (seq : Int) (w : World) (h : LH4.rd w F A n r.ahead) (h2 : LB3.rd w F2 A2 m r.buf) (hn : n ≤ 9223372036854775807) (hm : m ≤ 9223372036854775807) (hok : recB r = true) :
 Calls Try.prog 76 #[.agg (r.cells A n c A2 m d), .agg #[.slice bA bn bc, .bool b.fin, .int .u64 b.cnt], .int .u64 seq] w fun e w' => e = .returned (.bool (takesB r b seq)) ∧ Below w.heap.size w w' := by
 have q1 := bl_al (Below.refl w.heap.size w) (.cells (r.cells A n c A2 m d) 36)
 have q2 := bl_al (Below.refl (w.alloc (.cells (r.cells A n c A2 m d) 36)).heap.size (w.alloc (.cells (r.cells A n c A2 m d) 36))) (.cells #[.slice bA bn bc, .bool b.fin, .int .u64 b.cnt] 45)
 have q3 := bl_al (Below.refl ((w.alloc (.cells (r.cells A n c A2 m d) 36)).alloc (.cells #[.slice bA bn bc, .bool b.fin, .int .u64 b.cnt] 45)).heap.size ((w.alloc (.cells (r.cells A n c A2 m d) 36)).alloc (.cells #[.slice bA bn bc, .bool b.fin, .int .u64 b.cnt] 45))) (.cells #[.int .u64 seq] 26)
 have hq := bl_ca q1 (bl_ca q2 q3)
 have hq2 := bl_ca q2 q3
 have HR1 := Lib.hid ((Blk.new w 36 (r.cells A n c A2 m d)).ca hq2)
 have HB1 := Lib.hid (show Blk (((w.alloc (.cells (r.cells A n c A2 m d) 36)).alloc (.cells #[.slice bA bn bc, .bool b.fin, .int .u64 b.cnt] 45)).alloc (.cells #[.int .u64 seq] 26)) (w.heap.size + 1) 45 #[.slice bA bn bc, .bool b.fin, .int .u64 b.cnt] from Blk.ca (Blk.mk' (by simp only [World.size_alloc])) q3)
 have HS1 := Lib.hid (show Blk (((w.alloc (.cells (r.cells A n c A2 m d) 36)).alloc (.cells #[.slice bA bn bc, .bool b.fin, .int .u64 b.cnt] 45)).alloc (.cells #[.int .u64 seq] 26)) (w.heap.size + 2) 26 #[.int .u64 seq] from Blk.mk' (by simp only [World.size_alloc]))
 have HRA := Lib.hid (Lay.rd_below (Lay.rd_below h q1) hq2)
 have HRB := Lib.hid (Lay.rd_below (Lay.rd_below h2 q1) hq2)
 have HQ := Lib.hid hq
 have hbl := Lay.rd_len h2
 have hrs := recB_len hok
 have hrm : (r.buf.length : Int) ≤ r.room ∧ r.room ≤ 8 := by
  unfold recB recA at hok
  simp only [Bool.and_eq_true, decide_eq_true_eq] at hok
  omega
 clear h h2 q1 q2 q3 hq hq2 hok
 obtain ⟨RR, hRR⟩ : ∃ RR, RR = takesB r b seq := ⟨_, rfl⟩
 rw [← hRR]
 have HRR := Lib.hid hRR
 clear hRR
 obtain ⟨ses, next, ahead, buf, room, over⟩ := r
 dsimp only at hbl hrs hrm
 obtain ⟨en, hen⟩ : ∃ en, en = endsB buf := ⟨_, rfl⟩
 have HEN := Lib.hid hen
 clear hen
 obtain ⟨lm, hlm⟩ : ∃ lm, lm = limR ⟨ses, next, ahead, buf, room, over⟩ := ⟨_, rfl⟩
 have HLM := Lib.hid hlm
 clear hlm
 go_enter Try.func76, Try.ntmps76
 go_wp2_with fail
 generalize ((w.alloc (.cells (RC.cells ⟨ses, next, ahead, buf, room, over⟩ A n c A2 m d) 36)).alloc (.cells #[.slice bA bn bc, .bool b.fin, .int .u64 b.cnt] 45)).alloc (.cells #[.int .u64 seq] 26) = w1 at *
 refine wp_region_ps (S := fun _ _ w' => Below w1.heap.size w1 w') (by kernel_rfl) ?spswg46 ?ppswg46
 case spswg46 =>
  exact (Below.refl w1.heap.size w1).drew
 refine Pz 0 (some 7) (.pointer (some ⟨w.heap.size, 5, none⟩)) rfl rfl (by exact StepS.pure nP rfl fun _ => rfl) ?_
 try simp only [Act.put, sA, sZ, sS]
 refine Pz 1 (some 8) (.bool (over)) rfl rfl ?ywg46_48 ?rwg46_48
 case ywg46_48 =>
  refine StepS.read [] (by kernel_rfl) nP (by rfl) (fun L9 m9 w9 hSh hAt hDn hS => ?_)
  have hT : Below _ _ w9 := hS
  have x0 : w9.cell? ⟨w.heap.size, 5, none⟩ = some (.bool (over)) := (HR1.out.ca hT).cell 5
  clear hT hS
  go_simp
  try rfl
 try simp only [Act.put, sA, sZ, sS]
 obtain ⟨bO, hb9⟩ : ∃ zb : Bool, zb = (over) := ⟨_, rfl⟩
 have HEbO := Lib.hid hb9
 clear hb9
 refine Pz 2 (some 9) (.bool (bO)) rfl rfl ?ywg46_49 ?rwg46_49
 case ywg46_49 =>
  refine StepS.pure nP (by rfl) (fun w9 => ?_)
  have e9 : (over) = bO := by rw [HEbO.out]
  rw [← e9]
  clear e9
  first | rfl | (go_simp; done) | (go_simp; rfl)
 try simp only [Act.put, sA, sZ, sS]
 refine Pz 3 (some 10) (cond bO (undef) (.pointer (some ⟨w.heap.size, 3, none⟩))) rfl rfl (by cases bO; (exact StepS.pure nP rfl fun _ => rfl); exact StepS.skip nP rfl) ?_
 try simp only [Act.put, sA, sZ, sS]
 refine Pz 4 (some 11) (cond bO (undef) (.slice A2 m d)) rfl rfl ?ywg46_51 ?rwg46_51
 case ywg46_51 =>
  cases bO
  · skip
    refine StepS.read [] (by kernel_rfl) nP (by rfl) (fun L9 m9 w9 hSh hAt hDn hS => ?_)
    have hT : Below _ _ w9 := hS
    have x0 : w9.cell? ⟨w.heap.size, 3, none⟩ = some (.slice A2 m d) := (HR1.out.ca hT).cell 3
    clear hT hS
    go_simp
    try rfl
  · exact StepS.skip nP (by rfl)
 try simp only [Act.put, sA, sZ, sS]
 refine Pz 5 (some 12) (cond bO (undef) (.bool (en))) rfl rfl ?ywg46_52 ?rwg46_52
 case ywg46_52 =>
  cases bO
  · skip
    refine StepS.call ?fwg46_52 ?awg46_52 [] (by kernel_rfl) (by rfl) (fun w9 => ?hwg46_52) (fun L9 m9 w9 hSh hAt hDn hS => ?cwg46_52)
    case hwg46_52 => go_simp; refine ⟨?_, ?_⟩ <;> rfl
    case cwg46_52 =>
     have hT : Below _ _ w9 := hS
     refine (ends_any _ A2 m d buf w9 (Lay.rd_below HRB.out hT) hm).mono ?_
     rintro e w8 ⟨rfl, rfl⟩
     exact ⟨congrArg (fun b => Ending.returned (Value.bool b)) HEN.out.symm, hT⟩
  · exact StepS.skip nP (by rfl)
 try simp only [Act.put, sA, sZ, sS]
 refine Pz 6 (some 13) (.bool (bO || en)) rfl rfl ?ywg46_53 ?rwg46_53
 case ywg46_53 =>
  refine StepS.pure nP (by rfl) (fun w9 => ?_)
  cases bO <;> (first | rfl | (go_simp; done) | (go_simp; rfl))
 try simp only [Act.put, sA, sZ, sS]
 obtain ⟨bE, hb9⟩ : ∃ zb : Bool, zb = ((over) || en) := ⟨_, rfl⟩
 have HEbE := Lib.hid hb9
 clear hb9
 refine Pz 7 (some 14) (.bool (bE)) rfl rfl ?ywg46_54 ?rwg46_54
 case ywg46_54 =>
  refine StepS.pure nP (by rfl) (fun w9 => ?_)
  have e9 : (bO || en) = bE := by rw [HEbE.out, HEbO.out]
  rw [← e9]
  clear e9
  first | rfl | (go_simp; done) | (go_simp; rfl)
 try simp only [Act.put, sA, sZ, sS]
 refine Pz 8 (some 15) (cond bE (undef) (.int .u64 (seq))) rfl rfl ?ywg46_55 ?rwg46_55
 case ywg46_55 =>
  cases bE
  · skip
    refine StepS.read [] (by kernel_rfl) nP (by rfl) (fun L9 m9 w9 hSh hAt hDn hS => ?_)
    have hT : Below _ _ w9 := hS
    have x0 : w9.cell? ⟨w.heap.size + 2, 0, none⟩ = some (.int .u64 (seq)) := (HS1.out.ca hT).cell 0
    clear hT hS
    go_simp
    try rfl
  · exact StepS.skip nP (by rfl)
 try simp only [Act.put, sA, sZ, sS]
 refine Pz 9 (some 16) (cond bE (undef) (.pointer (some ⟨w.heap.size, 1, none⟩))) rfl rfl (by cases bE; (exact StepS.pure nP rfl fun _ => rfl); exact StepS.skip nP rfl) ?_
 try simp only [Act.put, sA, sZ, sS]
 refine Pz 10 (some 17) (cond bE (undef) (.int .u64 (next))) rfl rfl ?ywg46_57 ?rwg46_57
 case ywg46_57 =>
  cases bE
  · skip
    refine StepS.read [] (by kernel_rfl) nP (by rfl) (fun L9 m9 w9 hSh hAt hDn hS => ?_)
    have hT : Below _ _ w9 := hS
    have x0 : w9.cell? ⟨w.heap.size, 1, none⟩ = some (.int .u64 (next)) := (HR1.out.ca hT).cell 1
    clear hT hS
    go_simp
    try rfl
  · exact StepS.skip nP (by rfl)
 try simp only [Act.put, sA, sZ, sS]
 refine Pz 11 (some 18) (cond bE (undef) (.bool (decide (seq < next)))) rfl rfl (by cases bE; (exact StepS.pure nP rfl fun _ => rfl); exact StepS.skip nP rfl) ?_
 try simp only [Act.put, sA, sZ, sS]
 refine Pz 12 (some 19) (.bool (bE || (decide (seq < next)))) rfl rfl ?ywg46_59 ?rwg46_59
 case ywg46_59 =>
  refine StepS.pure nP (by rfl) (fun w9 => ?_)
  cases bE <;> (first | rfl | (go_simp; done) | (go_simp; rfl))
 try simp only [Act.put, sA, sZ, sS]
 obtain ⟨bN, hb9⟩ : ∃ zb : Bool, zb = (((over) || en) || (decide (seq < next))) := ⟨_, rfl⟩
 have HEbN := Lib.hid hb9
 clear hb9
 refine Pz 13 (some 20) (.bool (bN)) rfl rfl ?ywg46_60 ?rwg46_60
 case ywg46_60 =>
  refine StepS.pure nP (by rfl) (fun w9 => ?_)
  have e9 : (bE || (decide (seq < next))) = bN := by rw [HEbN.out, HEbE.out]
  rw [← e9]
  clear e9
  first | rfl | (go_simp; done) | (go_simp; rfl)
 try simp only [Act.put, sA, sZ, sS]
 refine Pz 14 (some 21) (cond bN (undef) (.int .u64 (seq))) rfl rfl ?ywg46_61 ?rwg46_61
 case ywg46_61 =>
  cases bN
  · skip
    refine StepS.read [] (by kernel_rfl) nP (by rfl) (fun L9 m9 w9 hSh hAt hDn hS => ?_)
    have hT : Below _ _ w9 := hS
    have x0 : w9.cell? ⟨w.heap.size + 2, 0, none⟩ = some (.int .u64 (seq)) := (HS1.out.ca hT).cell 0
    clear hT hS
    go_simp
    try rfl
  · exact StepS.skip nP (by rfl)
 try simp only [Act.put, sA, sZ, sS]
 refine Pz 15 (some 22) (cond bN (undef) (.agg #[.int .u32 (ses), .int .u64 (next), .slice A n c, .slice A2 m d, .int .i64 (room), .bool (over)])) rfl rfl ?ywg46_62 ?rwg46_62
 case ywg46_62 =>
  cases bN
  · skip
    refine StepS.read [] (by kernel_rfl) nP (by rfl) (fun L9 m9 w9 hSh hAt hDn hS => ?_)
    have hT : Below _ _ w9 := hS
    have x0 : w9.cell? ⟨w.heap.size, 0, none⟩ = some (.int .u32 (ses)) := (HR1.out.ca hT).cell 0
    have x1 : w9.cell? ⟨w.heap.size, 1, none⟩ = some (.int .u64 (next)) := (HR1.out.ca hT).cell 1
    have x2 : w9.cell? ⟨w.heap.size, 2, none⟩ = some (.slice A n c) := (HR1.out.ca hT).cell 2
    have x3 : w9.cell? ⟨w.heap.size, 3, none⟩ = some (.slice A2 m d) := (HR1.out.ca hT).cell 3
    have x4 : w9.cell? ⟨w.heap.size, 4, none⟩ = some (.int .i64 (room)) := (HR1.out.ca hT).cell 4
    have x5 : w9.cell? ⟨w.heap.size, 5, none⟩ = some (.bool (over)) := (HR1.out.ca hT).cell 5
    clear hT hS
    go_simp
    try rfl
  · exact StepS.skip nP (by rfl)
 try simp only [Act.put, sA, sZ, sS]
 refine Pz 16 (some 23) (cond bN (undef) (.int .u64 (lm))) rfl rfl ?ywg46_63 ?rwg46_63
 case ywg46_63 =>
  cases bN
  · skip
    refine StepS.call ?fwg46_63 ?awg46_63 [] (by kernel_rfl) (by rfl) (fun w9 => ?hwg46_63) (fun L9 m9 w9 hSh hAt hDn hS => ?cwg46_63)
    case hwg46_63 => go_simp; refine ⟨?_, ?_⟩ <;> rfl
    case cwg46_63 =>
     have hT : Below _ _ w9 := hS
     refine (limit_any ⟨ses, next, ahead, buf, room, over⟩ A n c A2 m d w9 hbl hrs.2.2.1 (by dsimp only; omega) (by dsimp only; omega) hrm.2).mono ?_
     rintro e w8 ⟨rfl, q8⟩
     exact ⟨congrArg (fun b => Ending.returned (Value.int .u64 b)) HLM.out.symm, bl_ca hT q8⟩
  · exact StepS.skip nP (by rfl)
 try simp only [Act.put, sA, sZ, sS]
 refine Pz 17 (some 24) (cond bN (undef) (.bool (decide (lm < seq)))) rfl rfl (by cases bN; (exact StepS.pure nP rfl fun _ => rfl); exact StepS.skip nP rfl) ?_
 try simp only [Act.put, sA, sZ, sS]
 obtain ⟨bT, hb9⟩ : ∃ zb : Bool, zb = ((((over) || en) || (decide (seq < next))) || (decide (lm < seq))) := ⟨_, rfl⟩
 have HEbT := Lib.hid hb9
 clear hb9
 refine Pz 18 (some 25) (.bool (bT)) rfl rfl ?ywg46_65 ?rwg46_65
 case ywg46_65 =>
  refine StepS.pure nP (by rfl) (fun w9 => ?_)
  have e9 : (bN || (decide (lm < seq))) = bT := by rw [HEbT.out, HEbN.out]
  rw [← e9]
  clear e9
  cases bN <;> (first | rfl | (go_simp; done) | (go_simp; rfl))
 try simp only [Act.put, sA, sZ, sS]
 refine Ps.done (by kernel_rfl) (fun wg46 hS => ?_) _
 try generalize (cond bN (undef) (.agg #[.int .u32 (ses), .int .u64 (next), .slice A n c, .slice A2 m d, .int .i64 (room), .bool (over)]) : Value) = zz66
 try generalize (cond bE (undef) (.pointer (some ⟨w.heap.size, 1, none⟩)) : Value) = zz67
 try generalize (cond bO (undef) (.pointer (some ⟨w.heap.size, 3, none⟩)) : Value) = zz68
 try generalize (cond bE (undef) (.bool (decide (seq < next))) : Value) = zz69
 try generalize (cond bN (undef) (.bool (decide (lm < seq))) : Value) = zz70
 try generalize (.bool (bE || (decide (seq < next))) : Value) = zz71
 try generalize (cond bE (undef) (.int .u64 (next)) : Value) = zz72
 try generalize (cond bE (undef) (.int .u64 (seq)) : Value) = zz73
 try generalize (cond bN (undef) (.int .u64 (seq)) : Value) = zz74
 try generalize (cond bN (undef) (.int .u64 (lm)) : Value) = zz75
 try generalize (cond bO (undef) (.slice A2 m d) : Value) = zz76
 try generalize (cond bO (undef) (.bool (en)) : Value) = zz77
 try generalize (.bool (bO || en) : Value) = zz78
 have HT2 := Lib.hid (show Below w1.heap.size w1 wg46 from hS)
 clear hS
 obtain ⟨w2, rfl⟩ : ∃ x, x = wg46 := ⟨_, rfl⟩
 have HQ2 := Lib.hid (bl_ca HQ.out HT2.out)
 cases bT
 · have HR2 := Lib.hid (HR1.out.ca HT2.out)
   have HC := Lib.hid (containsH F A n c ahead 108 #[.pointer (some ⟨w.heap.size + 2, 0, none⟩), .pointer (some ⟨w.heap.size + 1, 0, none⟩)] (againstB b seq) w2 (Lay.rd_below HRA.out HT2.out) hn (Go.Proofs.enters_of Try.func108 (by kernel_rfl) rfl) (takes1_any b seq (w.heap.size + 2) (w.heap.size + 1) bA bn bc w2 (HS1.out.ca HT2.out) (HB1.out.ca HT2.out)))
   have y2 : w2.cell? ⟨w.heap.size, 2, none⟩ = some (.slice A n c) := HR2.out.cell 2
   clear HR2 HR1 HB1 HS1 HRA HRB
   go_wp2_with fail
   refine HC.out.mono ?_
   rintro e w3 ⟨rfl, q3⟩
   have HQ3 := Lib.hid (bl_ca HQ2.out q3)
   clear q3 y2 HC
   go_wp2
   go_ret
   exact ⟨ret_bool (by rw [HRR.out]; unfold takesB; dsimp only; rw [← HLM.out, ← HEN.out, ← HEbT.out]; rfl), HQ3.out⟩
 · go_wp2
   go_ret
   exact ⟨ret_bool (by rw [HRR.out]; unfold takesB; dsimp only; rw [← HLM.out, ← HEN.out, ← HEbT.out]; rfl), HQ2.out⟩
end Go.Proofs.Ytojghgbaiiajfaa
/- slices.BinarySearchFunc over held batches in order. Conditions: the slice reads as these. -/
namespace Go.Proofs.Ytojghgbaiiajfaa
open Go.RowKit
set_option maxRecDepth 100000 in
theorem cmp_any (q : HC) (B : Option Addr) (k d : Nat) (seq : Int) (W : World) :
 Calls Try.prog 78 #[.agg #[.int .u64 q.seq, .slice B k d, .bool q.b.fin, .int .u64 q.b.cnt], .int .u64 seq] W fun e w' => e = .returned (.int .i64 (if q.seq < seq then -1 else 1)) ∧ Below W.heap.size W w' := by
 have q1 := bl_al (Below.refl W.heap.size W) (.cells #[.int .u64 q.seq, .slice B k d, .bool q.b.fin, .int .u64 q.b.cnt] 81)
 have HQ1 := Lib.hid q1
 have x0 : (W.alloc (.cells #[.int .u64 q.seq, .slice B k d, .bool q.b.fin, .int .u64 q.b.cnt] 81)).cell? ⟨W.heap.size, 0, none⟩ = some (.int .u64 q.seq) := (Blk.new W 81 #[.int .u64 q.seq, .slice B k d, .bool q.b.fin, .int .u64 q.b.cnt]).cell 0
 clear q1
 by_cases hlt : q.seq < seq
 · go_enter Try.func78, Try.ntmps78
   go_wp2
   go_ret
   exact ⟨rfl, HQ1.out⟩
 · go_enter Try.func78, Try.ntmps78
   go_wp2
   go_ret
   exact ⟨rfl, HQ1.out⟩
set_option maxRecDepth 100000 in
set_option maxHeartbeats 16000000 in
theorem bsearch_any (F : Nat → Prop) (A : Option Addr) (n c : Nat) (xs : List HC) (seq : Int) (p : Nat) (w : World) (h : LH4.rd w F A n xs) (hn : n ≤ 1000) (hp : p ≤ n) (hlo : ∀ (k : Nat) x, k < p → xs[k]? = some x → x.seq < seq) (hhi : ∀ (k : Nat) x, p ≤ k → xs[k]? = some x → seq ≤ x.seq) :
 Calls Try.prog 77 #[.slice A n c, .int .u64 seq, .func (.func 78) #[] #[]] w fun e w' => e = .returned (.tuple #[.int .i64 p, .bool false]) ∧ Below w.heap.size w w' := by
 have HH := Lib.hid h
 have HLO := Lib.hid hlo
 have HHI := Lib.hid hhi
 have HEN := Go.Proofs.enters_of (P := Try.prog) Try.func78 (by kernel_rfl) rfl
 clear h hlo hhi
 go_enter Try.func77, Try.ntmps77
 go_wp2_with fail
 go_loopg [9, 10] n (fun kx s9 s10 wr => ∃ lo hi : Nat, s9 = .int .i64 lo ∧ s10 = .int .i64 hi ∧ lo ≤ p ∧ p ≤ hi ∧ hi ≤ n ∧ hi - lo ≤ kx ∧ Below w.heap.size w wr)
 case atStart => exact ⟨0, n, rfl, rfl, by omega, by omega, by omega, by omega, Below.refl _ _⟩
 case round =>
  obtain ⟨lo, hi, rfl, rfl, hlp, hph, hin, hg, bb⟩ := hrel
  have HBB := Lib.hid bb
  by_cases hlt : lo < hi
  · obtain ⟨ad, x, B, k, d, rfl, hx, s1⟩ := LH4_at (i := (lo + hi) / 2) (Lay.rd_below HH.out bb) (by omega)
    have e0 := s1.c0
    have e1 := s1.c1
    have e2 := s1.c2
    have e3 := s1.c3
    have HX := Lib.hid hx
    have HC := Lib.hid (cmp_any x B k d seq wr)
    clear s1 hx bb
    by_cases hyx : x.seq < seq
    · rw [if_pos hyx] at HC
      have hmp : (lo + hi) / 2 < p := by
       rcases Nat.lt_or_ge ((lo + hi) / 2) p with h1 | h1
       · exact h1
       · exact absurd hyx (by have := HHI.out _ _ h1 HX.out; omega)
      clear hyx
      go_wp2_with fail
      refine HC.out.mono ?_
      rintro e w2 ⟨rfl, q2⟩
      have HB2 := Lib.hid (bl_ca HBB.out q2)
      clear q2 e0 e1 e2 e3 HC
      go_wp2
      go_roundg (hi - ((lo + hi) / 2 + 1))
      case measure => omega
      case rel => exact ⟨(lo + hi) / 2 + 1, hi, by rw [show ((lo : Int) + (hi : Int)) / 2 + 1 = (((lo + hi) / 2 + 1 : Nat) : Int) by omega], rfl, by omega, by omega, hin, Nat.le_refl _, HB2.out⟩
    · rw [if_neg hyx] at HC
      have hmp : p ≤ (lo + hi) / 2 := by
       rcases Nat.lt_or_ge ((lo + hi) / 2) p with h1 | h1
       · exact absurd (HLO.out _ _ h1 HX.out) hyx
       · exact h1
      clear hyx
      go_wp2_with fail
      refine HC.out.mono ?_
      rintro e w2 ⟨rfl, q2⟩
      have HB2 := Lib.hid (bl_ca HBB.out q2)
      clear q2 e0 e1 e2 e3 HC
      go_wp2
      go_roundg ((lo + hi) / 2 - lo)
      case measure => omega
      case rel => exact ⟨lo, (lo + hi) / 2, rfl, by rw [show ((lo : Int) + (hi : Int)) / 2 = (((lo + hi) / 2 : Nat) : Int) by omega], by omega, by omega, by omega, Nat.le_refl _, HB2.out⟩
  · obtain rfl : hi = lo := by omega
    obtain rfl : hi = p := by omega
    by_cases hpn : hi < n
    · obtain ⟨ad, x, B, k, d, rfl, hx, s1⟩ := LH4_at (i := hi) (Lay.rd_below HH.out bb) hpn
      have e0 := s1.c0
      have e1 := s1.c1
      have e2 := s1.c2
      have e3 := s1.c3
      have HC := Lib.hid (cmp_any x B k d seq wr)
      rw [if_neg (by have := HHI.out _ _ (Nat.le_refl _) hx; omega)] at HC
      clear s1 hx bb
      go_wp2_with fail
      refine HC.out.mono ?_
      rintro e w2 ⟨rfl, q2⟩
      have HB2 := Lib.hid (bl_ca HBB.out q2)
      clear q2 e0 e1 e2 e3 HC
      go_wp2
      go_ret2
      exact ⟨rfl, HB2.out⟩
    · clear bb
      go_wp2
      go_ret2
      exact ⟨rfl, HBB.out⟩
end Go.Proofs.Ytojghgbaiiajfaa
