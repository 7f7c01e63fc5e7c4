/- link.hears. Conditions: the rows read as these batches; what is handed over keeps to its contract. -/
import Derived.Test.YtojghgbaiiajfaaPkH17
import Derived.WalkLawsBesides
namespace Go.Proofs.Ytojghgbaiiajfaa
open Go.RowKit
/-- a row lies in memory of one's own, from B on: k cells that can be written -/
def Mine (w : World) (B : Nat) (A : Option Addr) (k : Nat) : Prop := ∀ ad, A = some ad → ∃ g o, ad = ⟨g, o, none⟩ ∧ B ≤ g ∧ g < w.heap.size ∧ w.there g o k
/-- what a receiver's rows say -/
structure RecO (w : World) (B : Nat) (G : Nat → Prop) (A : Option Addr) (n c : Nat) (A2 : Option Addr) (m d : Nat) (r : RC) : Prop where
 ra : LH4.rd w G A n r.ahead
 ca : n ≤ c ∧ c ≤ 9223372036854775807
 ma : Mine w B A (n * 4)
 rb : LB3.rd w G A2 m r.buf
 cb : m ≤ d ∧ d ≤ 9223372036854775807
 mb : Mine w B A2 (m * 3)
/-- what is handed over: it finds the copy of the receiver in block g, whose rows lie from B on -/
def DoR (D : FuncId) (cap : Array Value) (w0 : World) (Fr : Nat → Prop) (r : RC) (E : Int) (r2 : RC) (X : Nat → Prop) (Y : World → Prop) : Prop :=
 recB r = true → ∀ (w : World) (g B : Nat) (A : Option Addr) (n c : Nat) (A2 : Option Addr) (m d : Nat), Below w0.heap.size w0 w → w0.heap.size + 2 ≤ g → g < B → B ≤ w.heap.size → Blk w g 36 (r.cells A n c A2 m d) →
  LH4.own 81 w B Fr A n c r.ahead → LB3.own 45 w B Fr A2 m d r.buf → (∀ k, (Value.slice A n c).ownBlock = some k → (Value.slice A2 m d).ownBlock ≠ some k) →
  Calls Try.prog D (#[.pointer (some ⟨g, 0, none⟩)] ++ cap) w fun e w' => e = .returned (.int .i64 E) ∧ Chg (fun k => k = g ∨ (Value.slice A n c).ownBlock = some k ∨ (Value.slice A2 m d).ownBlock = some k ∨ X k) w w' ∧ Y w' ∧
   (E = 0 → ∃ A3 n3 c3 A4 m4 d4, Blk w' g 36 (r2.cells A3 n3 c3 A4 m4 d4) ∧ RecO w' B (fun k => k < w'.heap.size ∧ (Fr k ∨ B ≤ k)) A3 n3 c3 A4 m4 d4 r2)
/-- what link.hears answers -/
def HearsC (Fr : Nat → Prop) (r : RC) (E : Int) (r2 : RC) (X : Nat → Prop) (Y : World → Prop) (w : World) (e : Ending) (w' : World) : Prop :=
 if recB r then Chg X w w' ∧ Y w' ∧ (E ≠ 0 → e = .returned (.tuple #[.agg (zeroR.cells none 0 0 none 0 0), .int .i64 E])) ∧
  (E = 0 → ∃ A3 n3 c3 A4 m4 d4, e = .returned (.tuple #[.agg (r2.cells A3 n3 c3 A4 m4 d4), .int .i64 0]) ∧ RecO w' (w.heap.size + 2) (fun k => k < w'.heap.size ∧ (Fr k ∨ w.heap.size + 2 ≤ k)) A3 n3 c3 A4 m4 d4 r2)
 else e = .returned (.tuple #[.agg (zeroR.cells none 0 0 none 0 0), .int .i64 320]) ∧ Below w.heap.size w w'
theorem hears_no {Fr : Nat → Prop} {r : RC} {E : Int} {r2 : RC} {X : Nat → Prop} {Y : World → Prop} {w w' : World} {e : Ending} (h : recB r = false) (h1 : e = .returned (.tuple #[.agg (zeroR.cells none 0 0 none 0 0), .int .i64 320])) (h2 : Below w.heap.size w w') : HearsC Fr r E r2 X Y w e w' := by
 unfold HearsC
 rw [h]
 exact ⟨h1, h2⟩
theorem hears_yes {Fr : Nat → Prop} {r : RC} {E : Int} {r2 : RC} {X : Nat → Prop} {Y : World → Prop} {w w' : World} {e : Ending} (h : recB r = true) (hc : Chg X w w') (hy : Y w') (h1 : E ≠ 0 → e = .returned (.tuple #[.agg (zeroR.cells none 0 0 none 0 0), .int .i64 E]))
 (h2 : E = 0 → ∃ A3 n3 c3 A4 m4 d4, e = .returned (.tuple #[.agg (r2.cells A3 n3 c3 A4 m4 d4), .int .i64 0]) ∧ RecO w' (w.heap.size + 2) (fun k => k < w'.heap.size ∧ (Fr k ∨ w.heap.size + 2 ≤ k)) A3 n3 c3 A4 m4 d4 r2) : HearsC Fr r E r2 X Y w e w' := by
 unfold HearsC
 rw [h]
 exact ⟨hc, hy, h1, h2⟩
theorem there_heap {w w' : World} {g o k : Nat} (h : w.there g o k) (e : w'.heap[g]? = w.heap[g]?) : w'.there g o k := fun j hj =>
 ⟨by rw [World.cell?_of_block e]; exact (h j hj).1, by rw [World.frozen?_of_block e]; exact (h j hj).2⟩
theorem Mine.grown {w w' : World} {B k g : Nat} {A : Option Addr} (h : Mine w B A k) (q : w.grownBy w' (some g)) (hg : g < B) : Mine w' B A k := fun ad e => by
 obtain ⟨g', o, e1, h1, h2, h3⟩ := h ad e
 exact ⟨g', o, e1, h1, Nat.lt_of_lt_of_le h2 q.size, there_heap h3 (q.block g' h2 (fun e => by injection e with e; omega))⟩
theorem Mine.less {w : World} {B B' k : Nat} {A : Option Addr} (h : Mine w B A k) (hB : B' ≤ B) : Mine w B' A k := fun ad e => by
 obtain ⟨g', o, e1, h1, h2, h3⟩ := h ad e
 exact ⟨g', o, e1, Nat.le_trans hB h1, h2, h3⟩
theorem rd_grownH {α : Type} {L : Lay α} {w w' : World} {F : Nat → Prop} {A : Option Addr} {n g : Nat} {xs : List α} (h : L.rd w F A n xs) (q : w.grownBy w' (some g)) (hF : ∀ b, F b → b ≠ g) : L.rd w' F A n xs := Lay.rd_keep (fun b hb hl => q.block b hl (fun e => by injection e with e; exact hF b hb e)) h
theorem own_grownF {α : Type} {L : Lay α} {e : TypeId} {w w' : World} {B n c g : Nat} {Fr : Nat → Prop} {A : Option Addr} {xs : List α} (h : L.own e w B Fr A n c xs) (q : w.grownBy w' (some g)) (hg : g < B) (hF : ∀ b, Fr b → b ≠ g) : L.own e w' B Fr A n c xs :=
 Lay.own_same h (fun k e => q.block k (Lay.own_base h k e).2 (fun e2 => by injection e2 with e2; have := (Lay.own_base h k e).1; omega)) (fun b hb _ hl => q.block b hl (fun e2 => by injection e2 with e2; exact hF b hb e2))
theorem RecO.grown {w w' : World} {B B' g : Nat} {G G' : Nat → Prop} {A : Option Addr} {n c : Nat} {A2 : Option Addr} {m d : Nat} {r : RC} (h : RecO w B G A n c A2 m d r) (q : w.grownBy w' (some g)) (hB : B' ≤ B) (hg : g < B) (hG : ∀ k, G k → k ≠ g ∧ G' k) : RecO w' B' G' A n c A2 m d r :=
 ⟨Lay.rd_weak (fun k hk _ => (hG k hk).2) (rd_grownH h.ra q (fun k hk => (hG k hk).1)), h.ca, (h.ma.grown q hg).less hB, Lay.rd_weak (fun k hk _ => (hG k hk).2) (rd_grownH h.rb q (fun k hk => (hG k hk).1)), h.cb, (h.mb.grown q hg).less hB⟩
theorem aheadB_lenH {lim : Int} : ∀ {l : List HC} {a : Int}, aheadB lim a l = true → l = [] ∨ a + (l.length : Int) ≤ lim
 | [], _, _ => .inl rfl
 | h :: l, a, e => by
  unfold aheadB at e
  simp only [Bool.and_eq_true, decide_eq_true_eq] at e
  obtain ⟨e1, e2, _, _, e3⟩ := e
  refine .inr ?_
  rcases aheadB_lenH e3 with rfl | h9
  · simp; omega
  · simp only [List.length_cons]; omega
theorem recB_len {r : RC} (h : recB r = true) : r.buf.length ≤ 8 ∧ r.ahead.length ≤ 8 ∧ 1 ≤ r.next ∧ r.next ≤ 1099511627777 := by
 unfold recB recA at h
 simp only [Bool.and_eq_true, decide_eq_true_eq] at h
 obtain ⟨⟨_, h1, h2, h3, h4, h5, h6⟩, _, _, h7⟩ := h
 have h8 := aheadB_lenH h7
 have h9 : limR r ≤ r.next - 1 + (r.room - (r.buf.length : Int)) := by unfold limR; split <;> omega
 refine ⟨by omega, ?_, h3, h4⟩
 rcases h8 with h8 | h8
 · rw [h8]; simp
 · omega
set_option maxRecDepth 100000 in
set_option maxHeartbeats 64000000 in
theorem hears_any (Fr : Nat → Prop) (r : RC) (A : Option Addr) (n c : Nat) (A2 : Option Addr) (m d : Nat) (D : FuncId) (cap : Array Value) (E : Int) (r2 : RC) (X : Nat → Prop) (Y : World → Prop) (w : World) (h : LH4.rd w Fr A n r.ahead) (h2 : LB3.rd w Fr A2 m r.buf) (hFr : ∀ k, Fr k → k < w.heap.size) (hn : n ≤ 9223372036854775807) (hm : m ≤ 9223372036854775807)
 (hent : ∀ (args : Array Value) (w : World), (callFunc D args).run Try.prog w = .ok (.enter D args) w) (hD : DoR D cap w Fr r E r2 X Y) (hX : ∀ k, X k → k < w.heap.size) (hY : ∀ w1 w2, Y w1 → w1.grownBy w2 (some (w.heap.size + 1)) → Y w2) :
 Calls Try.prog 74 #[.agg (r.cells A n c A2 m d), .func (.func D) #[] cap] w (HearsC Fr r E r2 X Y w) := by
 have HD := Lib.hid hD
 have HX := Lib.hid hX
 have HFR := Lib.hid hFr
 have HY := Lib.hid hY
 have HEN := hent
 have HLA := Lib.hid (Lay.rd_len h)
 have HLB := Lib.hid (Lay.rd_len h2)
 have q1 := bl_al (Below.refl w.heap.size w) (.cells (r.cells A n c A2 m d) 36)
 have q2 := bl_al (Below.refl (w.alloc (.cells (r.cells A n c A2 m d) 36)).heap.size (w.alloc (.cells (r.cells A n c A2 m d) 36))) (.cells (zeroR.cells none 0 0 none 0 0) 36)
 have HS := Lib.hid ((Blk.new w 36 (r.cells A n c A2 m d)).ca q2)
 have HZ := Lib.hid (show Blk ((w.alloc (.cells (r.cells A n c A2 m d) 36)).alloc (.cells (zeroR.cells none 0 0 none 0 0) 36)) (w.heap.size + 1) 36 (zeroR.cells none 0 0 none 0 0) from Blk.mk' (by simp only [World.size_alloc]))
 have HB := Lib.hid (bl_ca q1 q2)
 have HRA := Lib.hid (Lay.rd_below (Lay.rd_below h q1) q2)
 have HRB := Lib.hid (Lay.rd_below (Lay.rd_below h2 q1) q2)
 have hsz : w.heap.size + 2 ≤ ((w.alloc (.cells (r.cells A n c A2 m d) 36)).alloc (.cells (zeroR.cells none 0 0 none 0 0) 36)).heap.size := by simp only [World.size_alloc]; omega
 have HCK := Lib.hid (crecv_any Fr Fr r A n c A2 m d _ HRA.out HRB.out hn hm)
 clear h h2 q1 q2 hent hD hX hY hFr
 obtain ⟨ses, next, ahead, buf, room, over⟩ := r
 dsimp only at HLA HLB
 obtain ⟨w1, hw1⟩ : ∃ w1, w1 = (w.alloc (.cells (RC.cells ⟨ses, next, ahead, buf, room, over⟩ A n c A2 m d) 36)).alloc (.cells (zeroR.cells none 0 0 none 0 0) 36) := ⟨_, rfl⟩
 have x0 : ((w.alloc (.cells (RC.cells ⟨ses, next, ahead, buf, room, over⟩ A n c A2 m d) 36)).alloc (.cells (zeroR.cells none 0 0 none 0 0) 36)).cell? ⟨w.heap.size, 0, none⟩ = some (.int .u32 (ses)) := HS.out.cell 0
 have x1 : ((w.alloc (.cells (RC.cells ⟨ses, next, ahead, buf, room, over⟩ A n c A2 m d) 36)).alloc (.cells (zeroR.cells none 0 0 none 0 0) 36)).cell? ⟨w.heap.size, 1, none⟩ = some (.int .u64 (next)) := HS.out.cell 1
 have x2 : ((w.alloc (.cells (RC.cells ⟨ses, next, ahead, buf, room, over⟩ A n c A2 m d) 36)).alloc (.cells (zeroR.cells none 0 0 none 0 0) 36)).cell? ⟨w.heap.size, 2, none⟩ = some (.slice A n c) := HS.out.cell 2
 have x3 : ((w.alloc (.cells (RC.cells ⟨ses, next, ahead, buf, room, over⟩ A n c A2 m d) 36)).alloc (.cells (zeroR.cells none 0 0 none 0 0) 36)).cell? ⟨w.heap.size, 3, none⟩ = some (.slice A2 m d) := HS.out.cell 3
 have x4 : ((w.alloc (.cells (RC.cells ⟨ses, next, ahead, buf, room, over⟩ A n c A2 m d) 36)).alloc (.cells (zeroR.cells none 0 0 none 0 0) 36)).cell? ⟨w.heap.size, 4, none⟩ = some (.int .i64 (room)) := HS.out.cell 4
 have x5 : ((w.alloc (.cells (RC.cells ⟨ses, next, ahead, buf, room, over⟩ A n c A2 m d) 36)).alloc (.cells (zeroR.cells none 0 0 none 0 0) 36)).cell? ⟨w.heap.size, 5, none⟩ = some (.bool (over)) := HS.out.cell 5
 by_cases hok : recB ⟨ses, next, ahead, buf, room, over⟩ = true
 · have HOK := Lib.hid hok
   rw [hok, if_pos rfl] at HCK
   have hlen := recB_len hok
   dsimp only at hlen
   rw [HLA.out, HLB.out] at hlen
   clear hok
   go_enter Try.func74, Try.ntmps74
   go_wp2_with fail
   refine HCK.out.mono ?_
   clear HCK
   rintro e w2 ⟨rfl, q2⟩
   have hs2 := Nat.le_trans hsz q2.size
   have HB2 := Lib.hid (bl_ca HB.out q2)
   have HS2 := Lib.hid (HS.out.ca q2)
   have HZ2 := Lib.hid (HZ.out.ca q2)
   have HRA2 := Lib.hid (Lay.rd_below HRA.out q2)
   have HRB2 := Lib.hid (Lay.rd_below HRB.out q2)
   clear x0 x1 x2 x3 x4 x5 HS HZ HRA HRB HB q2 hsz hw1
   have x0 : w2.cell? ⟨w.heap.size, 0, none⟩ = some (.int .u32 (ses)) := HS2.out.cell 0
   have x1 : w2.cell? ⟨w.heap.size, 1, none⟩ = some (.int .u64 (next)) := HS2.out.cell 1
   have x2 : w2.cell? ⟨w.heap.size, 2, none⟩ = some (.slice A n c) := HS2.out.cell 2
   have x3 : w2.cell? ⟨w.heap.size, 3, none⟩ = some (.slice A2 m d) := HS2.out.cell 3
   have x4 : w2.cell? ⟨w.heap.size, 4, none⟩ = some (.int .i64 (room)) := HS2.out.cell 4
   have x5 : w2.cell? ⟨w.heap.size, 5, none⟩ = some (.bool (over)) := HS2.out.cell 5
   have HN3 := Lib.hid (Blk.new w2 36 (zeroR.cells none 0 0 none 0 0))
   go_upto_region 5 with (refine wpList_store_blk rfl 36 (.tmp 7) (.tmp 15) rfl w2.heap.size 36 (zeroR.cells none 0 0 none 0 0) _ rfl rfl HN3.out rfl receiverI (by simp [Value.oneCell', RC.cells]) ?_; intro w3 h3 g3; have HG3 := Lib.hid h3; have GG3 := Lib.hid g3; clear h3 g3)
   have hs3 := GG3.out.size
   simp only [World.size_alloc] at hs3
   have HB3 := Lib.hid (bl_gr (bl_al (Below.refl w2.heap.size w2) (.cells (zeroR.cells none 0 0 none 0 0) 36)) GG3.out (Nat.le_refl _))
   have hfr := HFR.out
   clear HN3 GG3 x0 x1 x2 x3 x4 x5
   refine wp_region_ps (S := SeqN [2, 5, 7, 9] (fun z mm w' => Below w2.heap.size w2 w' ∧ (match z with | 0 => Blk w' w2.heap.size 36 #[.int .u32 ses, .int .u64 next, .slice A n c, .slice A2 m d, .int .i64 room, .bool over] | 1 => Blk w' w2.heap.size 36 #[.int .u32 ses, .int .u64 next, .slice A n c, .slice A2 m d, .int .i64 room, .bool over] ∧ ∃ B5 d5, mm 2 = .slice B5 m d5 ∧ LB3.own 45 w' (w2.heap.size + 1) Fr B5 m d5 buf | 2 => Blk w' w2.heap.size 36 #[.int .u32 ses, .int .u64 next, .slice A n c, .slice A2 m d, .int .i64 room, .bool over] ∧ ∃ B5 d5 A5 c5, mm 2 = .slice B5 m d5 ∧ mm 5 = .slice A5 n c5 ∧ LB3.own 45 w' (w2.heap.size + 1) Fr B5 m d5 buf ∧ LH4.own 81 w' (w2.heap.size + 1) Fr A5 n c5 ahead ∧ (∀ k, (Value.slice A5 n c5).ownBlock = some k → (Value.slice B5 m d5).ownBlock ≠ some k) | 3 => ∃ B5 d5 A5 c5, mm 2 = .slice B5 m d5 ∧ mm 5 = .slice A5 n c5 ∧ LB3.own 45 w' (w2.heap.size + 1) Fr B5 m d5 buf ∧ LH4.own 81 w' (w2.heap.size + 1) Fr A5 n c5 ahead ∧ (∀ k, (Value.slice A5 n c5).ownBlock = some k → (Value.slice B5 m d5).ownBlock ≠ some k) ∧ Blk w' w2.heap.size 36 #[.int .u32 ses, .int .u64 next, .slice A n c, .slice B5 m d5, .int .i64 room, .bool over] | _ => ∃ B5 d5 A5 c5, mm 2 = .slice B5 m d5 ∧ mm 5 = .slice A5 n c5 ∧ LB3.own 45 w' (w2.heap.size + 1) Fr B5 m d5 buf ∧ LH4.own 81 w' (w2.heap.size + 1) Fr A5 n c5 ahead ∧ (∀ k, (Value.slice A5 n c5).ownBlock = some k → (Value.slice B5 m d5).ownBlock ≠ some k) ∧ Blk w' w2.heap.size 36 #[.int .u32 ses, .int .u64 next, .slice A5 n c5, .slice B5 m d5, .int .i64 room, .bool over]))) (by kernel_rfl) ?spswg1 ?ppswg1
   case spswg1 =>
    exact SeqN.start (by decide) ⟨HB3.out.drew, HG3.out.drew⟩
   refine Pz 0 (some 16) (.pointer (some ⟨w.heap.size, 3, none⟩)) rfl rfl (by exact StepS.pure (SeqN.pass (by decide)) rfl fun _ => rfl) ?_
   try simp only [Act.put, sA, sZ, sS]
   refine Pz 1 (some 17) (.slice A2 m d) rfl rfl ?ywg1_3 ?rwg1_3
   case ywg1_3 =>
    refine StepS.read [] (by kernel_rfl) (SeqN.pass (by decide)) (by rfl) (fun L9 m9 w9 hSh hAt hDn hS => ?_)
    have hT : Below w2.heap.size w2 w9 := SeqN.any (T := fun w9 => Below w2.heap.size w2 w9) (fun _ _ _ h => h.1) hS
    have x0 : w9.cell? ⟨w.heap.size, 3, none⟩ = some (.slice A2 m d) := (HS2.out.ca hT).cell 3
    clear hT hS
    go_simp
    try rfl
   try simp only [Act.put, sA, sZ, sS]
   refine Pz 3 (some 19) (.pointer (some ⟨w.heap.size, 2, none⟩)) rfl rfl (by exact StepS.pure (SeqN.pass (by decide)) rfl fun _ => rfl) ?_
   try simp only [Act.put, sA, sZ, sS]
   refine Pz 4 (some 20) (.slice A n c) rfl rfl ?ywg1_5 ?rwg1_5
   case ywg1_5 =>
    refine StepS.read [] (by kernel_rfl) (SeqN.pass (by decide)) (by rfl) (fun L9 m9 w9 hSh hAt hDn hS => ?_)
    have hT : Below w2.heap.size w2 w9 := SeqN.any (T := fun w9 => Below w2.heap.size w2 w9) (fun _ _ _ h => h.1) hS
    have x0 : w9.cell? ⟨w.heap.size, 2, none⟩ = some (.slice A n c) := (HS2.out.ca hT).cell 2
    clear hT hS
    go_simp
    try rfl
   try simp only [Act.put, sA, sZ, sS]
   refine Ps.one (k := 2) (d := some 18) rfl rfl (by kernel_rfl) (TurnS.call (V := fun v => ∃ B4 d4, v = .slice B4 m d4) ?fwg1_6 ?awg1_6 [] (by kernel_rfl) (by rfl) (fun w9 => ?hwg1_6) (fun L9 m9 w9 hSh hAt hDn hS => ?cwg1_6)) (fun v2 hVv2 => ?rwg1_6)
   case hwg1_6 => go_simp; refine ⟨?_, ?_⟩ <;> rfl
   case cwg1_6 =>
    obtain ⟨hT, hbk⟩ := SeqN.at_ (m0 := m9) (m1 := m9) [] [5, 7, 9] hSh (fun d hd => by cases hd) hDn (by kernel_rfl) hS
    refine (cloneB Fr A2 m d buf w9 (Lay.rd_below HRB2.out hT) (by omega)).mono ?_
    rintro e w8 ⟨B4, d4, rfl, ho, q8⟩
    exact ⟨_, rfl, ⟨B4, d4, rfl⟩, SeqN.set_ (m0 := m9) (m1 := m9) [] [5, 7, 9] hSh (fun d hd => by cases hd) hDn (by kernel_rfl) (by decide) (by decide) ⟨bl_ca hT q8, hbk.ca q8, B4, d4, upd_same _ _ _, Lay.own_lessB (Lay.own_weak (fun b hb _ => hb.1) ho) hbk.lt⟩⟩
   try simp only [Act.put, sA, sZ, sS]
   obtain ⟨B4, d4, rfl⟩ := hVv2
   refine Ps.one (k := 5) (d := some 21) rfl rfl (by kernel_rfl) (TurnS.call (V := fun v => ∃ A4 c4, v = .slice A4 n c4) ?fwg1_7 ?awg1_7 [2] (by kernel_rfl) (by rfl) (fun w9 => ?hwg1_7) (fun L9 m9 w9 hSh hAt hDn hS => ?cwg1_7)) (fun v5 hVv5 => ?rwg1_7)
   case hwg1_7 => go_simp; refine ⟨?_, ?_⟩ <;> rfl
   case cwg1_7 =>
    obtain ⟨hT, hbk, B5, d5, hv, ho⟩ := SeqN.at_ [2] [7, 9] hSh hAt hDn (by kernel_rfl) hS
    refine (cloneH Fr A n c ahead w9 (Lay.rd_below HRA2.out hT) (by omega)).mono ?_
    rintro e w8 ⟨A5, c5, rfl, ho2, q8⟩
    exact ⟨_, rfl, ⟨A5, c5, rfl⟩, SeqN.set_ [2] [7, 9] hSh hAt hDn (by kernel_rfl) (by decide) (by decide) ⟨bl_ca hT q8, hbk.ca q8, B5, d5, A5, c5, (upd_ne (by decide)).trans hv, upd_same _ _ _, Lay.own_below ho q8, Lay.own_lessB (Lay.own_weak (fun b hb _ => hb.1) ho2) hbk.lt, fun k e1 e2 => by have h1 := (Lay.own_base ho2 k e1).1; have h2 := (Lay.own_base ho k e2).2; omega⟩⟩
   try simp only [Act.put, sA, sZ, sS]
   obtain ⟨A4, c4, rfl⟩ := hVv5
   refine Pz 6 (some 22) (.pointer (some ⟨w2.heap.size, 3, none⟩)) rfl rfl (by exact StepS.pure (SeqN.pass (by decide)) rfl fun _ => rfl) ?_
   try simp only [Act.put, sA, sZ, sS]
   refine Pz 7 none undef rfl rfl ?ywg1_9 ?rwg1_9
   case ywg1_9 =>
    refine StepS.store [2, 5] (by kernel_rfl) (by rfl) (fun L9 m9 w9 hSh hAt hDn hS => ?_)
    obtain ⟨hT, hbk, B5, d5, A5, c5, hv, hv2, ho, ho2, hne⟩ := SeqN.at_ [2, 5] [9] hSh hAt hDn (by kernel_rfl) hS
    obtain ⟨rfl, rfl⟩ : B4 = B5 ∧ d4 = d5 := by have h9 : Value.slice B4 m d4 = .slice B5 m d5 := (hAt 2 (by simp)).2.symm.trans hv; simpa using h9
    obtain ⟨rfl, rfl⟩ : A4 = A5 ∧ c4 = c5 := by have h9 : Value.slice A4 n c4 = .slice A5 n c5 := (hAt 5 (by simp)).2.symm.trans hv2; simpa using h9
    have hg : w9.grownBy (w9.setCell ⟨w2.heap.size, 3, none⟩ (.slice B4 m d4)) (some w2.heap.size) := only_setCell (World.grownBy.refl _ _) (.inl rfl) _
    have z0 := hbk.frozen 3
    have hcell := hbk.cell 3
    have hbn : Blk (w9.setCell ⟨w2.heap.size, 3, none⟩ (.slice B4 m d4)) w2.heap.size 36 #[.int .u32 ses, .int .u64 next, .slice A n c, .slice B4 m d4, .int .i64 room, .bool over] := by simpa using hbk.set_ 3 (.slice B4 m d4)
    refine ⟨w9.setCell ⟨w2.heap.size, 3, none⟩ (.slice B4 m d4), ?_, SeqN.set_ [2, 5] [9] hSh hAt hDn (by kernel_rfl) (by decide) (by decide) ⟨bl_gr hT hg (Nat.le_refl _), B4, d4, A4, c4, hv, hv2, own_grownF ho hg (by omega) (fun b hb => by have := hfr b hb; omega), own_grownF ho2 hg (by omega) (fun b hb => by have := hfr b hb; omega), hne, hbn⟩⟩
    clear hS hv hv2 ho ho2 hne hg hbn hbk
    go_simp
   try simp only [Act.put]
   refine Pz 8 (some 23) (.pointer (some ⟨w2.heap.size, 2, none⟩)) rfl rfl (by exact StepS.pure (SeqN.pass (by decide)) rfl fun _ => rfl) ?_
   try simp only [Act.put, sA, sZ, sS]
   refine Pz 9 none undef rfl rfl ?ywg1_11 ?rwg1_11
   case ywg1_11 =>
    refine StepS.store [2, 5, 7] (by kernel_rfl) (by rfl) (fun L9 m9 w9 hSh hAt hDn hS => ?_)
    obtain ⟨hT, B5, d5, A5, c5, hv, hv2, ho, ho2, hne, hbk⟩ := SeqN.at_ [2, 5, 7] [] hSh hAt hDn (by kernel_rfl) hS
    obtain ⟨rfl, rfl⟩ : B4 = B5 ∧ d4 = d5 := by have h9 : Value.slice B4 m d4 = .slice B5 m d5 := (hAt 2 (by simp)).2.symm.trans hv; simpa using h9
    obtain ⟨rfl, rfl⟩ : A4 = A5 ∧ c4 = c5 := by have h9 : Value.slice A4 n c4 = .slice A5 n c5 := (hAt 5 (by simp)).2.symm.trans hv2; simpa using h9
    have hg : w9.grownBy (w9.setCell ⟨w2.heap.size, 2, none⟩ (.slice A4 n c4)) (some w2.heap.size) := only_setCell (World.grownBy.refl _ _) (.inl rfl) _
    have z0 := hbk.frozen 2
    have hcell := hbk.cell 2
    have hbn : Blk (w9.setCell ⟨w2.heap.size, 2, none⟩ (.slice A4 n c4)) w2.heap.size 36 #[.int .u32 ses, .int .u64 next, .slice A4 n c4, .slice B4 m d4, .int .i64 room, .bool over] := by simpa using hbk.set_ 2 (.slice A4 n c4)
    refine ⟨w9.setCell ⟨w2.heap.size, 2, none⟩ (.slice A4 n c4), ?_, SeqN.set_ [2, 5, 7] [] hSh hAt hDn (by kernel_rfl) (by decide) (by decide) ⟨bl_gr hT hg (Nat.le_refl _), B4, d4, A4, c4, hv, hv2, own_grownF ho hg (by omega) (fun b hb => by have := hfr b hb; omega), own_grownF ho2 hg (by omega) (fun b hb => by have := hfr b hb; omega), hne, hbn⟩⟩
    clear hS hv hv2 ho ho2 hne hg hbn hbk
    go_simp
   try simp only [Act.put]
   refine Ps.done (by kernel_rfl) (fun wg1 hS => ?_) _
   obtain ⟨hT, B5, d5, A5, c5, hv, hv2, ho, ho2, hne, hbk⟩ := SeqN.fin (by rfl) hS
   clear hS
   obtain ⟨rfl, rfl⟩ : B4 = B5 ∧ d4 = d5 := by have h9 : Value.slice B4 m d4 = .slice B5 m d5 := hv; simpa using h9
   obtain ⟨rfl, rfl⟩ : A4 = A5 ∧ c4 = c5 := by have h9 : Value.slice A4 n c4 = .slice A5 n c5 := hv2; simpa using h9
   have HB4 := Lib.hid hT
   have HOB := Lib.hid ho
   have HOA := Lib.hid ho2
   have HNE := Lib.hid hne
   have HBK := Lib.hid hbk
   clear hT ho ho2 hne hbk hv hv2 HB3 HG3 HRA2 HRB2
   obtain ⟨w4, rfl⟩ : ∃ x, x = wg1 := ⟨_, rfl⟩
   go_wp2_with fail
   refine (HD.out HOK.out w4 w2.heap.size (w2.heap.size + 1) A4 n c4 B4 m d4 (bl_ca HB2.out HB4.out) (by omega) (by omega) HBK.out.lt HBK.out HOA.out HOB.out HNE.out).mono ?_
   rintro e w6 ⟨rfl, hch, hy, hz⟩
   have hba := Lay.own_base HOA.out
   have hbb := Lay.own_base HOB.out
   have hb5 := bl_ca HB2.out HB4.out
   have hsz5 := hb5.size
   have hxx := HX.out
   have HZ4 := Lib.hid (HZ2.out.ca HB4.out)
   have hl4 := HBK.out.lt
   have HCH := Lib.hid (show Chg X w w6 from ⟨hch.os.trans hb5.os, hch.tape.trans hb5.tape, hch.output.trans hb5.output, Nat.le_trans hsz5 hch.size, fun b hb hx => (hch.block b (by omega) (fun h => by
    rcases h with h | h | h | h
    · omega
    · have := hba b h; omega
    · have := hbb b h; omega
    · exact hx h)).trans (hb5.block b hb)⟩)
   have HZ6 := Lib.hid (HZ4.out.chg hch (fun h => by
    rcases h with h | h | h | h
    · omega
    · have := hba _ h; omega
    · have := hbb _ h; omega
    · have := hxx _ h; omega))
   have HY6 := Lib.hid hy
   have HH6 := Lib.hid hz
   clear hba hbb hb5 hsz5 hxx hch hy hz HX HZ4 HOA HOB HNE HBK HD HB4
   by_cases hE : E = 0
   · subst hE
     obtain ⟨A5, n5, c5, A6, n6, c6, hb2, hr2⟩ := HH6.out rfl
     have HG2 := Lib.hid hb2
     have HR2 := Lib.hid hr2
     clear HH6 hb2 hr2
     go_wp2_with (first
      | (refine wpList_load_blk rfl 36 (.tmp 7) rfl w2.heap.size rfl 36 _ _ HG2.out rfl rfl receiverI ?_)
      | (refine wpList_store_blk rfl 36 (.tmp 4) (.tmp 30) rfl (w.heap.size + 1) 36 _ (r2.cells A5 n5 c5 A6 n6 c6) rfl rfl HZ6.out rfl receiverI (by obtain ⟨s1, s2, s3, s4, s5, s6⟩ := r2; simp [Value.oneCell', RC.cells]) ?_; intro wz hZ gz))
     exact bodyPost_ret (res2 Try.results74 rfl rfl hZ Try.underlying36 rfl receiverI) rfl (hears_yes HOK.out (HCH.out.grown gz (fun k e => .inr (by injection e with e; omega))) (HY.out _ _ HY6.out gz) (fun h => absurd rfl h)
      (fun _ => ⟨A5, n5, c5, A6, n6, c6, rfl, HR2.out.grown gz (by omega) (by omega) (fun k hk => ⟨hk.2.elim (fun h => by have := HFR.out k h; omega) (fun h => by omega), Nat.lt_of_lt_of_le hk.1 gz.size, hk.2.elim .inl (fun h => .inr (by omega))⟩)⟩))
   · have HE := Lib.hid hE
     clear HH6
     go_wp2_with (refine wpList_store_blk rfl 36 (.tmp 4) (.tmp 28) rfl (w.heap.size + 1) 36 _ (zeroR.cells none 0 0 none 0 0) rfl rfl HZ6.out rfl receiverI (by simp [Value.oneCell', RC.cells]) ?_; intro wz hZ gz)
     exact bodyPost_ret (res2 Try.results74 rfl rfl hZ Try.underlying36 rfl receiverI) rfl (hears_yes HOK.out (HCH.out.grown gz (fun k e => .inr (by injection e with e; omega))) (HY.out _ _ HY6.out gz) (fun _ => rfl) (fun h => absurd h HE.out))
 · have hf : recB ⟨ses, next, ahead, buf, room, over⟩ = false := by simpa using hok
   rw [hf] at HCK
   have HF := Lib.hid hf
   clear hok hf
   go_enter Try.func74, Try.ntmps74
   go_wp2_with fail
   refine HCK.out.mono ?_
   rintro e w2 ⟨rfl, q2⟩
   have HB2 := Lib.hid (bl_ca HB.out q2)
   have HZ2 := Lib.hid (HZ.out.ca q2)
   clear x0 x1 x2 x3 x4 x5 q2 HCK
   go_wp2_with (refine wpList_store_blk rfl 36 (.tmp 4) (.tmp 13) rfl (w.heap.size + 1) 36 _ (zeroR.cells none 0 0 none 0 0) rfl rfl HZ2.out rfl receiverI (by simp [Value.oneCell', RC.cells]) ?_; intro wz hZ gz)
   exact bodyPost_ret (res2 Try.results74 rfl rfl hZ Try.underlying36 rfl receiverI) rfl (hears_no HF.out rfl (bl_gr HB2.out gz (by omega)))
end Go.Proofs.Ytojghgbaiiajfaa
/- The references' equality of values, rows, batches and senders. Conditions: the slices read so. -/
namespace Go.Proofs.Ytojghgbaiiajfaa
open Go.RowKit
theorem sign_any (b : Bool) (w : World) : Calls Try.prog 123 #[.bool b] w fun e w' => (∃ z : Int, e = .returned (.int .i64 z) ∧ z ≠ 0) ∧ w = w' := by
 cases b
 all_goals
  go_enter Try.func123, Try.ntmps123
  go_wp2
  go_ret
  exact ⟨⟨_, rfl, by decide⟩, rfl⟩
/-- a number that is 0 where these are one, and only there -/
def Zr (P : Prop) (w : World) (e : Ending) (w' : World) : Prop := ∃ z : Int, e = .returned (.int .i64 z) ∧ (z = 0 ↔ P) ∧ Below w.heap.size w w'
theorem VV.ext' {a b : VV} (h0 : a.k = b.k) (h1 : a.n = b.n) (h2 : a.u = b.u) (h3 : a.s.toList = b.s.toList) : a = b := (eqVV_iff a b).1 (by simp [eqVV, h0, h1, h2, h3])
set_option maxRecDepth 100000 in
set_option maxHeartbeats 4000000 in
theorem value05_any (a b : VV) (w : World) : Calls Try.prog 122 #[.agg #[.int .i64 a.k, .int .i64 a.n, .int .u64 a.u, .string a.s], .agg #[.int .i64 b.k, .int .i64 b.n, .int .u64 b.u, .string b.s]] w (Zr (a = b) w) := by
 have b1 := bl_al (bl_al (Below.refl w.heap.size w) (.cells #[.int .i64 a.k, .int .i64 a.n, .int .u64 a.u, .string a.s] 142)) (.cells #[.int .i64 b.k, .int .i64 b.n, .int .u64 b.u, .string b.s] 142)
 have HB := Lib.hid b1
 have HX := Lib.hid (fun h0 h1 h2 h3 => @VV.ext' a b h0 h1 h2 h3)
 have HN := Lib.hid (fun h : a = b => (⟨by rw [h], by rw [h], by rw [h], by rw [h]⟩ : a.k = b.k ∧ a.n = b.n ∧ a.u = b.u ∧ a.s.toList = b.s.toList))
 have HSG := Lib.hid (fun z W => sign_any z W)
 obtain ⟨P, hP⟩ : ∃ P : Prop, P = (a = b) := ⟨_, rfl⟩
 rw [← hP] at HX HN ⊢
 clear hP b1
 obtain ⟨ak, an, au, sa⟩ := a
 obtain ⟨bk, bn, bu, sb⟩ := b
 dsimp only at *
 by_cases h0 : ak = bk
 · subst h0
   by_cases h1 : an = bn
   · subst h1
     by_cases h2 : au = bu
     · subst h2
       by_cases h3 : sa.toList = sb.toList
       · have HP := Lib.hid (HX.out rfl rfl rfl h3)
         go_enter Try.func122, Try.ntmps122
         go_wp2
         go_ret
         exact ⟨0, rfl, ⟨fun _ => HP.out, fun _ => rfl⟩, HB.out⟩
       · have d0 : (sa.toList == sb.toList) = false := by simpa using h3
         have d : (!(sa.toList == sb.toList)) = true := by rw [d0]; rfl
         have HP := Lib.hid (fun hp => h3 (HN.out hp).2.2.2)
         go_enter Try.func122, Try.ntmps122
         go_wp2_with fail
         refine (HSG.out _ _).mono ?_
         rintro e w2 ⟨⟨z, rfl, hz⟩, rfl⟩
         have HZ0 := Lib.hid hz
         clear hz
         go_wp2
         go_ret
         exact ⟨z, rfl, ⟨fun h => (HZ0.out h).elim, fun hp => (HP.out hp).elim⟩, HB.out⟩
     · have d : (au != bu) = true := by simpa using h2
       have HP := Lib.hid (fun hp => h2 (HN.out hp).2.2.1)
       go_enter Try.func122, Try.ntmps122
       go_wp2_with fail
       refine (HSG.out _ _).mono ?_
       rintro e w2 ⟨⟨z, rfl, hz⟩, rfl⟩
       have HZ0 := Lib.hid hz
       clear hz
       go_wp2
       go_ret
       exact ⟨z, rfl, ⟨fun h => (HZ0.out h).elim, fun hp => (HP.out hp).elim⟩, HB.out⟩
   · have d : (an != bn) = true := by simpa using h1
     have HP := Lib.hid (fun hp => h1 (HN.out hp).2.1)
     go_enter Try.func122, Try.ntmps122
     go_wp2_with fail
     refine (HSG.out _ _).mono ?_
     rintro e w2 ⟨⟨z, rfl, hz⟩, rfl⟩
     have HZ0 := Lib.hid hz
     clear hz
     go_wp2
     go_ret
     exact ⟨z, rfl, ⟨fun h => (HZ0.out h).elim, fun hp => (HP.out hp).elim⟩, HB.out⟩
 · have d : (ak != bk) = true := by simpa using h0
   have HP := Lib.hid (fun hp => h0 (HN.out hp).1)
   go_enter Try.func122, Try.ntmps122
   go_wp2_with fail
   refine (HSG.out _ _).mono ?_
   rintro e w2 ⟨⟨z, rfl, hz⟩, rfl⟩
   have HZ0 := Lib.hid hz
   clear hz
   go_wp2
   go_ret
   exact ⟨z, rfl, ⟨fun h => (HZ0.out h).elim, fun hp => (HP.out hp).elim⟩, HB.out⟩
theorem SV.ca {w w' : World} {p : Addr} {v : VV} (h : SV w p v) (hl : p.block < w.heap.size) (q : Below w.heap.size w w') : SV w' p v :=
 ⟨(q.cell (p := p) hl).trans h.c0, (q.cell (p := ⟨p.block, p.off + 1, none⟩) hl).trans h.c1, (q.cell (p := ⟨p.block, p.off + 2, none⟩) hl).trans h.c2, (q.cell (p := ⟨p.block, p.off + 3, none⟩) hl).trans h.c3⟩
theorem SV.lt {w : World} {p : Addr} {v : VV} (h : SV w p v) : p.block < w.heap.size := cells_block h.c0
set_option maxRecDepth 100000 in
set_option maxHeartbeats 8000000 in
theorem compare05_any (F G : Nat → Prop) (A B : Option Addr) (m c n d : Nat) (xs ys : List VV) (w : World) (hx : LV.rd w F A m xs) (hy : LV.rd w G B n ys) (hm : m ≤ 9223372036854775807) (hn : n ≤ 9223372036854775807) :
 Calls Try.prog 111 #[.slice A m c, .slice B n d] w (Zr (xs = ys) w) := by
 have HXL := Lib.hid (Lay.rd_len hx)
 have HYL := Lib.hid (Lay.rd_len hy)
 have HSG := Lib.hid (fun z W => sign_any z W)
 go_enter Try.func111, Try.ntmps111
 go_wp2_with fail
 go_loopg [5] m (fun g s wr => ∃ i : Nat, i + g = m ∧ i ≤ n ∧ s = .int .i64 i ∧ xs.take i = ys.take i ∧ Below w.heap.size w wr)
 case atStart => exact ⟨0, by omega, by omega, rfl, rfl, Below.refl _ _⟩
 case round =>
  obtain ⟨i, hi1, hin, rfl, hp, bb⟩ := hrel
  have HBB := Lib.hid bb
  have HP := Lib.hid hp
  clear hp
  by_cases hi : i < m
  · have hil : (i : Int) < (m : Int) := by omega
    have hl1 : i < m := hi
    by_cases hj : i < n
    · have hjl : (i : Int) < (n : Int) := by omega
      obtain ⟨p1, v, rfl, hv, s1⟩ := LV_at (Lay.rd_below hx bb) hi
      obtain ⟨p2, u, rfl, hu, s2⟩ := LV_at (Lay.rd_below hy bb) hj
      have HS1 := Lib.hid (fun W (q : Below wr.heap.size wr W) => s1.ca s1.lt q)
      have HS2 := Lib.hid (fun W (q : Below wr.heap.size wr W) => s2.ca s2.lt q)
      have HVI := Lib.hid hv
      have HUI := Lib.hid hu
      clear hv hu hx hy bb s1 s2
      go_wp2_with fail
      refine wp_region_ps (S := fun _ _ w' => Below wr.heap.size wr w') (by kernel_rfl) ?spswqc ?ppswqc
      case spswqc =>
       exact (Below.refl _ _).drew
      refine Pz 0 (some 19) _ rfl rfl (StepS.pure (fun _ _ _ h => h) rfl fun w9 => by go_simp; try rfl) ?_
      try simp only [Act.put, sA, sZ, sS]
      refine Pz 1 (some 20) _ rfl rfl (StepS.pure (fun _ _ _ h => h) rfl fun w9 => by go_simp; try rfl) ?_
      try simp only [Act.put, sA, sZ, sS]
      refine Pz 2 (some 21) _ rfl rfl (StepS.pure (fun _ _ _ h => h) rfl fun w9 => by go_simp; try rfl) ?_
      try simp only [Act.put, sA, sZ, sS]
      refine Pz 3 (some 22) ?uwqc_4 rfl rfl ?ywqc_4 ?rwqc_4
      case ywqc_4 =>
       refine StepS.read [] (by kernel_rfl) (fun _ _ _ h => h) (by rfl) (fun L9 m9 w9 hSh hAt hDn hS => ?_)
       have hT : Below _ _ w9 := hS
       have x0 := (HS1.out w9 hT).c0
       have x1 := (HS1.out w9 hT).c1
       have x2 := (HS1.out w9 hT).c2
       have x3 := (HS1.out w9 hT).c3
       clear hT hS
       go_simp
       try rfl
      try simp only [Act.put, sA, sZ, sS]
      refine Pz 4 (some 23) _ rfl rfl (StepS.pure (fun _ _ _ h => h) rfl fun w9 => by go_simp; try rfl) ?_
      try simp only [Act.put, sA, sZ, sS]
      refine Pz 5 (some 24) _ rfl rfl (StepS.pure (fun _ _ _ h => h) rfl fun w9 => by go_simp; try rfl) ?_
      try simp only [Act.put, sA, sZ, sS]
      refine Pz 6 (some 25) _ rfl rfl (StepS.pure (fun _ _ _ h => h) rfl fun w9 => by go_simp; try rfl) ?_
      try simp only [Act.put, sA, sZ, sS]
      refine Pz 7 (some 26) ?uwqc_8 rfl rfl ?ywqc_8 ?rwqc_8
      case ywqc_8 =>
       refine StepS.read [] (by kernel_rfl) (fun _ _ _ h => h) (by rfl) (fun L9 m9 w9 hSh hAt hDn hS => ?_)
       have hT : Below _ _ w9 := hS
       have x0 := (HS2.out w9 hT).c0
       have x1 := (HS2.out w9 hT).c1
       have x2 := (HS2.out w9 hT).c2
       have x3 := (HS2.out w9 hT).c3
       clear hT hS
       go_simp
       try rfl
      try simp only [Act.put, sA, sZ, sS]
      refine Ps.one (k := 8) (d := some 27) rfl rfl (by kernel_rfl) (TurnS.call (V := fun x => ∃ z : Int, x = .int .i64 z ∧ (z = 0 ↔ v = u)) ?fwqc_9 ?awqc_9 [] (by kernel_rfl) (by rfl) (fun w9 => ?hwqc_9) (fun L9 m9 w9 hSh hAt hDn hS => ?cwqc_9)) (fun v8 hVv8 => ?rwqc_9)
      case hwqc_9 => go_simp; refine ⟨?_, ?_⟩ <;> rfl
      case cwqc_9 =>
       have hT : Below _ _ w9 := hS
       refine (value05_any v u w9).mono ?_
       rintro e w8 ⟨z, rfl, hz, q8⟩
       exact ⟨_, rfl, ⟨z, rfl, hz⟩, bl_ca hT q8⟩
      try simp only [Act.put, sA, sZ, sS]
      obtain ⟨z, rfl, hz⟩ := hVv8
      have HZ := Lib.hid hz
      clear hz
      refine Pz 9 (some 6) _ rfl rfl (StepS.pure (fun _ _ _ h => h) rfl fun w9 => by go_simp; try rfl) ?_
      try simp only [Act.put, sA, sZ, sS]
      refine Ps.done (by kernel_rfl) (fun wqc hS => ?_) _
      have HQ := Lib.hid (show Below wr.heap.size wr _ from hS)
      clear hS
      obtain ⟨w7, rfl⟩ : ∃ x, x = wqc := ⟨_, rfl⟩
      by_cases hz0 : z = 0
      · have d0 : ((z : Int) != 0) = false := by simpa using hz0
        have HP2 := Lib.hid (show xs.take (i + 1) = ys.take (i + 1) from by rw [List.take_add_one, List.take_add_one, HP.out, HVI.out, HUI.out, HZ.out.1 hz0])
        clear hz0
        go_wp2
        go_roundg (gk - 1)
        · exact ⟨i + 1, by omega, by omega, by go_num, HP2.out, bl_ca HBB.out HQ.out⟩
        · omega
      · have d0 : ((z : Int) != 0) = true := by simpa using hz0
        have HF := Lib.hid (show z = 0 ↔ xs = ys from ⟨fun h => (hz0 h).elim, fun h => HZ.out.2 (by have h1 := HVI.out; rw [h, HUI.out] at h1; injection h1 with h1; exact h1.symm)⟩)
        clear hz0
        go_wp2
        go_ret
        exact ⟨z, rfl, HF.out, bl_ca HBB.out HQ.out⟩
    · obtain rfl : i = n := by omega
      have hjl : (i : Int) ≤ (i : Int) := by omega
      have hne : ((m : Int) == (i : Int)) = false := by simp; omega
      have HF := Lib.hid (show ¬ xs = ys from fun h => by have h1 := HXL.out; rw [h, HYL.out] at h1; omega)
      clear hx hy bb hj
      go_wp2_with fail
      refine (HSG.out _ _).mono ?_
      rintro e w2 ⟨⟨z, rfl, hz⟩, rfl⟩
      have HZ0 := Lib.hid hz
      clear hz
      go_wp2
      go_ret
      exact ⟨z, rfl, ⟨fun h => (HZ0.out h).elim, fun hp => (HF.out hp).elim⟩, HBB.out⟩
  · obtain rfl : i = m := by omega
    have hil : (i : Int) ≤ (i : Int) := by omega
    by_cases hmn : i = n
    · subst hmn
      have HF := Lib.hid (show xs = ys from by
       have hp := HP.out
       rwa [List.take_of_length_le (by rw [HXL.out]; omega), List.take_of_length_le (by rw [HYL.out]; omega)] at hp)
      clear hx hy bb
      go_wp2
      go_ret
      exact ⟨0, rfl, ⟨fun _ => HF.out, fun _ => rfl⟩, HBB.out⟩
    · have hne : ((i : Int) == (n : Int)) = false := by simp; omega
      have HF := Lib.hid (show ¬ xs = ys from fun h => by have h1 := HXL.out; rw [h, HYL.out] at h1; omega)
      clear hx hy bb hmn
      go_wp2_with fail
      refine (HSG.out _ _).mono ?_
      rintro e w2 ⟨⟨z, rfl, hz⟩, rfl⟩
      have HZ0 := Lib.hid hz
      clear hz
      go_wp2
      go_ret
      exact ⟨z, rfl, ⟨fun h => (HZ0.out h).elim, fun hp => (HF.out hp).elim⟩, HBB.out⟩
set_option maxRecDepth 100000 in
set_option maxHeartbeats 8000000 in
theorem same05_any (F G : Nat → Prop) (A B : Option Addr) (m c n d : Nat) (xs ys : List (List VV)) (w : World) (hx : LR.rd w F A m xs) (hy : LR.rd w G B n ys) (hm : m ≤ 9223372036854775807) :
 Calls Try.prog 87 #[.slice A m c, .slice B n d] w fun e w' => e = .returned (.bool (decide (xs = ys))) ∧ Below w.heap.size w w' := by
 have hxl := Lay.rd_len hx
 have hyl := Lay.rd_len hy
 by_cases hmn : m = n
 · subst hmn
   obtain ⟨r, hr⟩ : ∃ r, r = decide (xs = ys) := ⟨_, rfl⟩
   rw [← hr]
   have HR := Lib.hid hr
   have HXL := Lib.hid hxl
   have HYL := Lib.hid hyl
   skip
   clear hr hxl hyl
   go_enter Try.func87, Try.ntmps87
   go_wp2_with fail
   go_loopg [5] m (fun g s wr => ∃ i : Nat, i + g ≤ m ∧ m ≤ i + g ∧ s = .int .i64 i ∧ xs.take i = ys.take i ∧ Below w.heap.size w wr)
   case atStart => exact ⟨0, by omega, by omega, rfl, rfl, Below.refl _ _⟩
   case round =>
    obtain ⟨i, hi1, hi2, rfl, hp, bb⟩ := hrel
    have HBB := Lib.hid bb
    have HP := Lib.hid hp
    clear hp
    by_cases hi : i < m
    · have hil : (i : Int) < (m : Int) := by omega
      obtain ⟨p1, v, B1, k1, c1, rfl, hv, e0, hk1, hk2, hr1⟩ := LR_at (Lay.rd_below hx bb) hi
      obtain ⟨p2, u, B2, k2, c2, rfl, hu, f0, hk3, hk4, hr2⟩ := LR_at (Lay.rd_below hy bb) hi
      have HE0 := Lib.hid (fun W (q : Below wr.heap.size wr W) => (q.cell (p := p1.add i) (cells_block e0)).trans e0)
      have HF0 := Lib.hid (fun W (q : Below wr.heap.size wr W) => (q.cell (p := p2.add i) (cells_block f0)).trans f0)
      have HCO := Lib.hid (fun W (q : Below wr.heap.size wr W) => compare05_any F G B1 B2 k1 c1 k2 c2 v u W (Lay.rd_below hr1 q) (Lay.rd_below hr2 q) (Nat.le_trans hk1 hk2) (Nat.le_trans hk3 hk4))
      clear hr1 hr2 e0 f0 hk1 hk2 hk3 hk4
      have HVI := Lib.hid hv
      have HUI := Lib.hid hu
      clear hv hu hx hy bb
      by_cases hvu : v = u
      · have HP2 := Lib.hid (show xs.take (i + 1) = ys.take (i + 1) from by rw [List.take_add_one, List.take_add_one, HP.out, HVI.out, HUI.out, hvu])
        have HVU := Lib.hid hvu
        clear hvu
        go_wp2_with fail
        refine wp_region_ps (S := fun _ _ w' => Below wr.heap.size wr w') (by kernel_rfl) ?spswqst ?ppswqst
        case spswqst =>
         exact (Below.refl _ _).drew
        refine Pz 0 (some 17) _ rfl rfl (StepS.pure (fun _ _ _ h => h) rfl fun w9 => by go_simp; try rfl) ?_
        try simp only [Act.put, sA, sZ, sS]
        refine Pz 1 (some 18) _ rfl rfl (StepS.pure (fun _ _ _ h => h) rfl fun w9 => by go_simp; try rfl) ?_
        try simp only [Act.put, sA, sZ, sS]
        refine Pz 2 (some 19) _ rfl rfl (StepS.pure (fun _ _ _ h => h) rfl fun w9 => by go_simp; try rfl) ?_
        try simp only [Act.put, sA, sZ, sS]
        refine Pz 3 (some 20) ?uwqst_14 rfl rfl ?ywqst_14 ?rwqst_14
        case ywqst_14 =>
         refine StepS.read [] (by kernel_rfl) (fun _ _ _ h => h) (by rfl) (fun L9 m9 w9 hSh hAt hDn hS => ?_)
         have hT : Below _ _ w9 := hS
         have x0 := HE0.out w9 hT
         clear hT hS
         go_simp
         try rfl
        try simp only [Act.put, sA, sZ, sS]
        refine Pz 4 (some 21) _ rfl rfl (StepS.pure (fun _ _ _ h => h) rfl fun w9 => by go_simp; try rfl) ?_
        try simp only [Act.put, sA, sZ, sS]
        refine Pz 5 (some 22) _ rfl rfl (StepS.pure (fun _ _ _ h => h) rfl fun w9 => by go_simp; try rfl) ?_
        try simp only [Act.put, sA, sZ, sS]
        refine Pz 6 (some 23) _ rfl rfl (StepS.pure (fun _ _ _ h => h) rfl fun w9 => by go_simp; try rfl) ?_
        try simp only [Act.put, sA, sZ, sS]
        refine Pz 7 (some 24) ?uwqst_18 rfl rfl ?ywqst_18 ?rwqst_18
        case ywqst_18 =>
         refine StepS.read [] (by kernel_rfl) (fun _ _ _ h => h) (by rfl) (fun L9 m9 w9 hSh hAt hDn hS => ?_)
         have hT : Below _ _ w9 := hS
         have x0 := HF0.out w9 hT
         clear hT hS
         go_simp
         try rfl
        try simp only [Act.put, sA, sZ, sS]
        refine Ps.one (k := 8) (d := some 25) rfl rfl (by kernel_rfl) (TurnS.call (V := fun x => ∃ z : Int, x = .int .i64 z ∧ (z = 0 ↔ v = u)) ?fwqst_19 ?awqst_19 [] (by kernel_rfl) (by rfl) (fun w9 => ?hwqst_19) (fun L9 m9 w9 hSh hAt hDn hS => ?cwqst_19)) (fun v8 hVv8 => ?rwqst_19)
        case hwqst_19 => go_simp; refine ⟨?_, ?_⟩ <;> rfl
        case cwqst_19 =>
         have hT : Below _ _ w9 := hS
         refine (HCO.out w9 hT).mono ?_
         rintro e w8 ⟨z, rfl, hz, q8⟩
         exact ⟨_, rfl, ⟨z, rfl, hz⟩, bl_ca hT q8⟩
        try simp only [Act.put, sA, sZ, sS]
        obtain ⟨z, rfl, hz⟩ := hVv8
        have HZ := Lib.hid hz
        clear hz
        refine Pz 9 (some 26) _ rfl rfl (StepS.pure (fun _ _ _ h => h) rfl fun w9 => by go_simp; try rfl) ?_
        try simp only [Act.put, sA, sZ, sS]
        refine Ps.done (by kernel_rfl) (fun wqst hS => ?_) _
        have HBN := Lib.hid (bl_ca HBB.out (show Below wr.heap.size wr _ from hS))
        clear hS
        obtain ⟨w7, rfl⟩ : ∃ x, x = wqst := ⟨_, rfl⟩
        obtain rfl : z = 0 := HZ.out.2 HVU.out
        go_wp2
        go_roundg (gk - 1)
        · exact ⟨i + 1, by omega, by omega, by go_num, HP2.out, HBN.out⟩
        · omega
      · have HF := Lib.hid (show r = false from by
         rw [HR.out]
         refine decide_eq_false fun e => hvu ?_
         have h1 := HVI.out
         rw [e, HUI.out] at h1
         injection h1 with h1
         exact h1.symm)
        have HVU := Lib.hid hvu
        clear hvu
        go_wp2_with fail
        refine wp_region_ps (S := fun _ _ w' => Below wr.heap.size wr w') (by kernel_rfl) ?spswqsf ?ppswqsf
        case spswqsf =>
         exact (Below.refl _ _).drew
        refine Pz 0 (some 17) _ rfl rfl (StepS.pure (fun _ _ _ h => h) rfl fun w9 => by go_simp; try rfl) ?_
        try simp only [Act.put, sA, sZ, sS]
        refine Pz 1 (some 18) _ rfl rfl (StepS.pure (fun _ _ _ h => h) rfl fun w9 => by go_simp; try rfl) ?_
        try simp only [Act.put, sA, sZ, sS]
        refine Pz 2 (some 19) _ rfl rfl (StepS.pure (fun _ _ _ h => h) rfl fun w9 => by go_simp; try rfl) ?_
        try simp only [Act.put, sA, sZ, sS]
        refine Pz 3 (some 20) ?uwqsf_24 rfl rfl ?ywqsf_24 ?rwqsf_24
        case ywqsf_24 =>
         refine StepS.read [] (by kernel_rfl) (fun _ _ _ h => h) (by rfl) (fun L9 m9 w9 hSh hAt hDn hS => ?_)
         have hT : Below _ _ w9 := hS
         have x0 := HE0.out w9 hT
         clear hT hS
         go_simp
         try rfl
        try simp only [Act.put, sA, sZ, sS]
        refine Pz 4 (some 21) _ rfl rfl (StepS.pure (fun _ _ _ h => h) rfl fun w9 => by go_simp; try rfl) ?_
        try simp only [Act.put, sA, sZ, sS]
        refine Pz 5 (some 22) _ rfl rfl (StepS.pure (fun _ _ _ h => h) rfl fun w9 => by go_simp; try rfl) ?_
        try simp only [Act.put, sA, sZ, sS]
        refine Pz 6 (some 23) _ rfl rfl (StepS.pure (fun _ _ _ h => h) rfl fun w9 => by go_simp; try rfl) ?_
        try simp only [Act.put, sA, sZ, sS]
        refine Pz 7 (some 24) ?uwqsf_28 rfl rfl ?ywqsf_28 ?rwqsf_28
        case ywqsf_28 =>
         refine StepS.read [] (by kernel_rfl) (fun _ _ _ h => h) (by rfl) (fun L9 m9 w9 hSh hAt hDn hS => ?_)
         have hT : Below _ _ w9 := hS
         have x0 := HF0.out w9 hT
         clear hT hS
         go_simp
         try rfl
        try simp only [Act.put, sA, sZ, sS]
        refine Ps.one (k := 8) (d := some 25) rfl rfl (by kernel_rfl) (TurnS.call (V := fun x => ∃ z : Int, x = .int .i64 z ∧ (z = 0 ↔ v = u)) ?fwqsf_29 ?awqsf_29 [] (by kernel_rfl) (by rfl) (fun w9 => ?hwqsf_29) (fun L9 m9 w9 hSh hAt hDn hS => ?cwqsf_29)) (fun v8 hVv8 => ?rwqsf_29)
        case hwqsf_29 => go_simp; refine ⟨?_, ?_⟩ <;> rfl
        case cwqsf_29 =>
         have hT : Below _ _ w9 := hS
         refine (HCO.out w9 hT).mono ?_
         rintro e w8 ⟨z, rfl, hz, q8⟩
         exact ⟨_, rfl, ⟨z, rfl, hz⟩, bl_ca hT q8⟩
        try simp only [Act.put, sA, sZ, sS]
        obtain ⟨z, rfl, hz⟩ := hVv8
        have HZ := Lib.hid hz
        clear hz
        refine Pz 9 (some 26) _ rfl rfl (StepS.pure (fun _ _ _ h => h) rfl fun w9 => by go_simp; try rfl) ?_
        try simp only [Act.put, sA, sZ, sS]
        refine Ps.done (by kernel_rfl) (fun wqsf hS => ?_) _
        have HBN := Lib.hid (bl_ca HBB.out (show Below wr.heap.size wr _ from hS))
        clear hS
        obtain ⟨w7, rfl⟩ : ∃ x, x = wqsf := ⟨_, rfl⟩
        have d0 : ((z : Int) != 0) = true := by simp; exact fun h => HVU.out (HZ.out.1 h)
        go_wp2
        go_ret
        exact ⟨ret_bool (by rw [HF.out]), HBN.out⟩
    · obtain rfl : i = m := by omega
      have hil : (i : Int) ≤ (i : Int) := by omega
      have HT := Lib.hid (show r = true from by
       have hp := HP.out
       rw [List.take_of_length_le (by rw [HXL.out]; omega), List.take_of_length_le (by rw [HYL.out]; omega)] at hp
       rw [HR.out]
       exact decide_eq_true hp)
      clear hx hy bb
      go_wp2
      go_ret
      exact ⟨ret_bool (by rw [HT.out]), HBB.out⟩
 · have e : decide (xs = ys) = false := decide_eq_false fun e => hmn (by rw [← hxl, ← hyl, e])
   rw [e]
   clear e hx hy hxl hyl
   go_enter Try.func87, Try.ntmps87
   go_wp2
   go_ret
   exact ⟨rfl, Below.refl _ _⟩
end Go.Proofs.Ytojghgbaiiajfaa
/- The references' equality of batches and senders. Conditions: the slices read so. -/
namespace Go.Proofs.Ytojghgbaiiajfaa
open Go.RowKit
set_option maxRecDepth 100000 in
set_option maxHeartbeats 4000000 in
theorem rsameB_any (F G : Nat → Prop) (a b : BC) (A B : Option Addr) (m c n d : Nat) (w : World) (hx : LR.rd w F A m a.rows) (hy : LR.rd w G B n b.rows) (hm : m ≤ 9223372036854775807) :
 Calls Try.prog 38 #[.agg (a.cells A m c), .agg (b.cells B n d)] w fun e w' => e = .returned (.bool (eqBC a b)) ∧ Below w.heap.size w w' := by
 have b1 := bl_al (bl_al (Below.refl w.heap.size w) (.cells (a.cells A m c) 45)) (.cells (b.cells B n d) 45)
 have HE := Lib.hid (same05_any F G A B m c n d a.rows b.rows _ (Lay.rd_below hx b1) (Lay.rd_below hy b1) hm)
 have HB := Lib.hid b1
 have HR := Lib.hid (show eqBC a b = (a.fin == b.fin && (a.cnt == b.cnt && decide (a.rows = b.rows))) from rfl)
 generalize eqBC a b = r at *
 clear hx hy b1
 obtain ⟨ra, fa, na⟩ := a
 obtain ⟨rb, fb, nb⟩ := b
 dsimp only at *
 generalize decide (ra = rb) = z at *
 by_cases hf : fa = fb
 · subst hf
   by_cases hn : na = nb
   · subst hn
     go_enter Try.func38, Try.ntmps38
     go_wp2_with fail
     refine HE.out.mono ?_
     rintro e w2 ⟨rfl, q2⟩
     have HQ := Lib.hid (bl_ca HB.out q2)
     clear q2
     go_wp2
     go_ret
     exact ⟨ret_bool (by rw [HR.out]; simp), HQ.out⟩
   · have d1 : (na == nb) = false := by simpa using hn
     clear hn
     go_enter Try.func38, Try.ntmps38
     go_wp2
     go_ret
     exact ⟨ret_bool (by rw [HR.out, d1]; simp), HB.out⟩
 · have d1 : (fa == fb) = false := by simpa using hf
   clear hf
   go_enter Try.func38, Try.ntmps38
   go_wp2
   go_ret
   exact ⟨ret_bool (by rw [HR.out, d1]; simp), HB.out⟩
theorem SB.ca {w w' : World} {F : Nat → Prop} {p : Addr} {b : BC} {B : Option Addr} {n c : Nat} (h : SB w F p b B n c) (q : Below w.heap.size w w') : SB w' F p b B n c :=
 ⟨(q.cell (p := p) (cells_block h.c0)).trans h.c0, (q.cell (p := ⟨p.block, p.off + 1, none⟩) (cells_block h.c1)).trans h.c1, (q.cell (p := ⟨p.block, p.off + 2, none⟩) (cells_block h.c2)).trans h.c2, h.nc, h.cm, Lay.rd_below h.rd q⟩
set_option maxRecDepth 100000 in
set_option maxHeartbeats 8000000 in
theorem rsameBs_any (F G : Nat → Prop) (A B : Option Addr) (m c n d : Nat) (xs ys : List BC) (w : World) (hx : LB3.rd w F A m xs) (hy : LB3.rd w G B n ys) (hm : m ≤ 9223372036854775807) :
 Calls Try.prog 50 #[.slice A m c, .slice B n d] w fun e w' => e = .returned (.bool (decide (xs = ys))) ∧ Below w.heap.size w w' := by
 have hxl := Lay.rd_len hx
 have hyl := Lay.rd_len hy
 by_cases hmn : m = n
 · subst hmn
   obtain ⟨r, hr⟩ : ∃ r, r = decide (xs = ys) := ⟨_, rfl⟩
   rw [← hr]
   have HR := Lib.hid hr
   have HXL := Lib.hid hxl
   have HYL := Lib.hid hyl
   skip
   clear hr hxl hyl
   go_enter Try.func50, Try.ntmps50
   go_wp2_with fail
   go_loopg [13] m (fun g s wr => ∃ i : Nat, i + g ≤ m ∧ m ≤ i + g ∧ s = .int .i64 i ∧ xs.take i = ys.take i ∧ Below w.heap.size w wr)
   case atStart => exact ⟨0, by omega, by omega, rfl, rfl, Below.refl _ _⟩
   case round =>
    obtain ⟨i, hi1, hi2, rfl, hp, bb⟩ := hrel
    have HBB := Lib.hid bb
    have HP := Lib.hid hp
    clear hp
    by_cases hi : i < m
    · have hil : (i : Int) < (m : Int) := by omega
      obtain ⟨p1, v, B1, k1, c1, rfl, hv, s1⟩ := LB3_at (Lay.rd_below hx bb) hi
      obtain ⟨p2, u, B2, k2, c2, rfl, hu, s2⟩ := LB3_at (Lay.rd_below hy bb) hi
      have HS1 := Lib.hid (fun W (q : Below wr.heap.size wr W) => s1.ca q)
      have HS2 := Lib.hid (fun W (q : Below wr.heap.size wr W) => s2.ca q)
      have HCO := Lib.hid (fun W (q : Below wr.heap.size wr W) => rsameB_any F G v u B1 B2 k1 c1 k2 c2 W (s1.ca q).rd (s2.ca q).rd (Nat.le_trans s1.nc s1.cm))
      clear s1 s2
      have HVI := Lib.hid hv
      have HUI := Lib.hid hu
      clear hv hu hx hy bb
      by_cases hvu : v = u
      · have HP2 := Lib.hid (show xs.take (i + 1) = ys.take (i + 1) from by rw [List.take_add_one, List.take_add_one, HP.out, HVI.out, HUI.out, hvu])
        have HVU := Lib.hid hvu
        clear hvu
        have HEQ := Lib.hid (show eqBC v u = true from (eqBC_iff v u).2 HVU.out)
        go_wp2_with fail
        refine wp_region_ps (S := fun _ _ w' => Below wr.heap.size wr w') (by kernel_rfl) ?spswqst ?ppswqst
        case spswqst =>
         exact (Below.refl _ _).drew
        refine Pz 0 (some 16) _ rfl rfl (StepS.pure (fun _ _ _ h => h) rfl fun w9 => by go_simp; try rfl) ?_
        try simp only [Act.put, sA, sZ, sS]
        refine Pz 1 (some 17) _ rfl rfl (StepS.pure (fun _ _ _ h => h) rfl fun w9 => by go_simp; try rfl) ?_
        try simp only [Act.put, sA, sZ, sS]
        refine Pz 2 (some 18) _ rfl rfl (StepS.pure (fun _ _ _ h => h) rfl fun w9 => by go_simp; try rfl) ?_
        try simp only [Act.put, sA, sZ, sS]
        refine Pz 3 (some 19) ?uwqst_4 rfl rfl ?ywqst_4 ?rwqst_4
        case ywqst_4 =>
         refine StepS.read [] (by kernel_rfl) (fun _ _ _ h => h) (by rfl) (fun L9 m9 w9 hSh hAt hDn hS => ?_)
         have hT : Below _ _ w9 := hS
         have x0 := (HS1.out w9 hT).c0
         have x1 := (HS1.out w9 hT).c1
         have x2 := (HS1.out w9 hT).c2
         clear hT hS
         go_simp
         try rfl
        try simp only [Act.put, sA, sZ, sS]
        refine Pz 4 (some 20) _ rfl rfl (StepS.pure (fun _ _ _ h => h) rfl fun w9 => by go_simp; try rfl) ?_
        try simp only [Act.put, sA, sZ, sS]
        refine Pz 5 (some 21) _ rfl rfl (StepS.pure (fun _ _ _ h => h) rfl fun w9 => by go_simp; try rfl) ?_
        try simp only [Act.put, sA, sZ, sS]
        refine Pz 6 (some 22) _ rfl rfl (StepS.pure (fun _ _ _ h => h) rfl fun w9 => by go_simp; try rfl) ?_
        try simp only [Act.put, sA, sZ, sS]
        refine Pz 7 (some 23) ?uwqst_8 rfl rfl ?ywqst_8 ?rwqst_8
        case ywqst_8 =>
         refine StepS.read [] (by kernel_rfl) (fun _ _ _ h => h) (by rfl) (fun L9 m9 w9 hSh hAt hDn hS => ?_)
         have hT : Below _ _ w9 := hS
         have x0 := (HS2.out w9 hT).c0
         have x1 := (HS2.out w9 hT).c1
         have x2 := (HS2.out w9 hT).c2
         clear hT hS
         go_simp
         try rfl
        try simp only [Act.put, sA, sZ, sS]
        refine Pz 8 (some 24) (.bool true) rfl rfl ?ywqst_9 ?rwqst_9
        case ywqst_9 =>
         refine StepS.call ?fwqst_9 ?awqst_9 [] (by kernel_rfl) (by rfl) (fun w9 => ?hwqst_9) (fun L9 m9 w9 hSh hAt hDn hS => ?cwqst_9)
         case hwqst_9 => go_simp; refine ⟨?_, ?_⟩ <;> rfl
         case cwqst_9 =>
          have hT : Below _ _ w9 := hS
          refine (HCO.out w9 hT).mono ?_
          rintro e w8 ⟨rfl, q8⟩
          exact ⟨by rw [HEQ.out], bl_ca hT q8⟩
        try simp only [Act.put, sA, sZ, sS]
        refine Pz 9 (some 25) _ rfl rfl (StepS.pure (fun _ _ _ h => h) rfl fun w9 => by go_simp; try rfl) ?_
        try simp only [Act.put, sA, sZ, sS]
        refine Ps.done (by kernel_rfl) (fun wqst hS => ?_) _
        have HBN := Lib.hid (bl_ca HBB.out (show Below wr.heap.size wr _ from hS))
        clear hS
        obtain ⟨w7, rfl⟩ : ∃ x, x = wqst := ⟨_, rfl⟩
        go_wp2
        go_roundg (gk - 1)
        · exact ⟨i + 1, by omega, by omega, by go_num, HP2.out, HBN.out⟩
        · omega
      · have HF := Lib.hid (show r = false from by
         rw [HR.out]
         refine decide_eq_false fun e => hvu ?_
         have h1 := HVI.out
         rw [e, HUI.out] at h1
         injection h1 with h1
         exact h1.symm)
        have HVU := Lib.hid hvu
        clear hvu
        have HEQ := Lib.hid (show eqBC v u = false from by cases he : eqBC v u; rfl; exact absurd ((eqBC_iff v u).1 he) HVU.out)
        go_wp2_with fail
        refine wp_region_ps (S := fun _ _ w' => Below wr.heap.size wr w') (by kernel_rfl) ?spswqsf ?ppswqsf
        case spswqsf =>
         exact (Below.refl _ _).drew
        refine Pz 0 (some 16) _ rfl rfl (StepS.pure (fun _ _ _ h => h) rfl fun w9 => by go_simp; try rfl) ?_
        try simp only [Act.put, sA, sZ, sS]
        refine Pz 1 (some 17) _ rfl rfl (StepS.pure (fun _ _ _ h => h) rfl fun w9 => by go_simp; try rfl) ?_
        try simp only [Act.put, sA, sZ, sS]
        refine Pz 2 (some 18) _ rfl rfl (StepS.pure (fun _ _ _ h => h) rfl fun w9 => by go_simp; try rfl) ?_
        try simp only [Act.put, sA, sZ, sS]
        refine Pz 3 (some 19) ?uwqsf_14 rfl rfl ?ywqsf_14 ?rwqsf_14
        case ywqsf_14 =>
         refine StepS.read [] (by kernel_rfl) (fun _ _ _ h => h) (by rfl) (fun L9 m9 w9 hSh hAt hDn hS => ?_)
         have hT : Below _ _ w9 := hS
         have x0 := (HS1.out w9 hT).c0
         have x1 := (HS1.out w9 hT).c1
         have x2 := (HS1.out w9 hT).c2
         clear hT hS
         go_simp
         try rfl
        try simp only [Act.put, sA, sZ, sS]
        refine Pz 4 (some 20) _ rfl rfl (StepS.pure (fun _ _ _ h => h) rfl fun w9 => by go_simp; try rfl) ?_
        try simp only [Act.put, sA, sZ, sS]
        refine Pz 5 (some 21) _ rfl rfl (StepS.pure (fun _ _ _ h => h) rfl fun w9 => by go_simp; try rfl) ?_
        try simp only [Act.put, sA, sZ, sS]
        refine Pz 6 (some 22) _ rfl rfl (StepS.pure (fun _ _ _ h => h) rfl fun w9 => by go_simp; try rfl) ?_
        try simp only [Act.put, sA, sZ, sS]
        refine Pz 7 (some 23) ?uwqsf_18 rfl rfl ?ywqsf_18 ?rwqsf_18
        case ywqsf_18 =>
         refine StepS.read [] (by kernel_rfl) (fun _ _ _ h => h) (by rfl) (fun L9 m9 w9 hSh hAt hDn hS => ?_)
         have hT : Below _ _ w9 := hS
         have x0 := (HS2.out w9 hT).c0
         have x1 := (HS2.out w9 hT).c1
         have x2 := (HS2.out w9 hT).c2
         clear hT hS
         go_simp
         try rfl
        try simp only [Act.put, sA, sZ, sS]
        refine Pz 8 (some 24) (.bool false) rfl rfl ?ywqsf_19 ?rwqsf_19
        case ywqsf_19 =>
         refine StepS.call ?fwqsf_19 ?awqsf_19 [] (by kernel_rfl) (by rfl) (fun w9 => ?hwqsf_19) (fun L9 m9 w9 hSh hAt hDn hS => ?cwqsf_19)
         case hwqsf_19 => go_simp; refine ⟨?_, ?_⟩ <;> rfl
         case cwqsf_19 =>
          have hT : Below _ _ w9 := hS
          refine (HCO.out w9 hT).mono ?_
          rintro e w8 ⟨rfl, q8⟩
          exact ⟨by rw [HEQ.out], bl_ca hT q8⟩
        try simp only [Act.put, sA, sZ, sS]
        refine Pz 9 (some 25) _ rfl rfl (StepS.pure (fun _ _ _ h => h) rfl fun w9 => by go_simp; try rfl) ?_
        try simp only [Act.put, sA, sZ, sS]
        refine Ps.done (by kernel_rfl) (fun wqsf hS => ?_) _
        have HBN := Lib.hid (bl_ca HBB.out (show Below wr.heap.size wr _ from hS))
        clear hS
        obtain ⟨w7, rfl⟩ : ∃ x, x = wqsf := ⟨_, rfl⟩
        go_wp2
        go_ret
        exact ⟨ret_bool (by rw [HF.out]), HBN.out⟩
    · obtain rfl : i = m := by omega
      have hil : (i : Int) ≤ (i : Int) := by omega
      have HT := Lib.hid (show r = true from by
       have hp := HP.out
       rw [List.take_of_length_le (by rw [HXL.out]; omega), List.take_of_length_le (by rw [HYL.out]; omega)] at hp
       rw [HR.out]
       exact decide_eq_true hp)
      clear hx hy bb
      go_wp2
      go_ret
      exact ⟨ret_bool (by rw [HT.out]), HBB.out⟩
 · have e : decide (xs = ys) = false := decide_eq_false fun e => hmn (by rw [← hxl, ← hyl, e])
   rw [e]
   clear e hx hy hxl hyl
   go_enter Try.func50, Try.ntmps50
   go_wp2
   go_ret
   exact ⟨rfl, Below.refl _ _⟩
end Go.Proofs.Ytojghgbaiiajfaa
/- Rows of one's own, written to. Conditions: none. -/
namespace Go.Proofs.Ytojghgbaiiajfaa
open Go.RowKit
theorem own_there {α : Type} {L : Lay α} {e : TypeId} {w : World} {B n c g i j k : Nat} {G : Nat → Prop} {xs : List α} (h : L.own e w B G (some ⟨g, 0, none⟩) n c xs) (hi : i < n) (hj : j + k ≤ L.size) : w.there g (i * L.size + j) k := by
 intro x hx
 refine ⟨?_, own_frozen h _⟩
 obtain ⟨hl, cs, hreps, hrow⟩ := h
 have hcl := Lay.reps_len hreps
 have h2 : (i + 1) * L.size ≤ xs.length * L.size := Nat.mul_le_mul_right _ (by omega)
 rw [Nat.succ_mul] at h2
 have hlt : i * L.size + j + x < cs.length := by omega
 have := hrow.cells (g := g) rfl (i * L.size + j + x) _ (List.getElem?_eq_getElem hlt)
 rw [addr_zero] at this
 rw [this]; rfl
theorem exec_store_there {P : Program} {o : Oper} {a : Act} {w : World} (ty : TypeId) (x y : Operand) (ho : o.op = .store ty x y) (g k : Nat) (new : Array Value) (hx : a.eval x = .pointer (some ⟨g, k, none⟩)) (hy : a.eval y = .agg new) (hth : w.there g k new.size)
 (hi : (P.info? ty).map (·.size) = some new.size) (h1 : new.all (·.oneCell') = true) : (execOp a.eval o).run P w = .ok .skip (w.setCells g k new.toList) := by
 unfold execOp
 simp only [ho, hx, hy, Instr.storeAt, Instr.sureAddr, Sem.run_bind, Sem.run_pure, Result.andThen_ok, run_storeVar_mid w g k ty new hth hi h1]
theorem own_cells {α : Type} {L : Lay α} {e : TypeId} {w : World} {B n c : Nat} {G : Nat → Prop} {A : Option Addr} {xs : List α} (h : L.own e w B G A n c xs) : ∀ g, A = some ⟨g, 0, none⟩ → w.there g 0 (n * L.size) := by
 rintro g rfl j hj
 have hp : 0 < L.size := Nat.pos_of_ne_zero (fun h0 => by rw [h0] at hj; simp at hj)
 have h1 : j / L.size < n := (Nat.div_lt_iff_lt_mul hp).2 hj
 have := own_there h (i := j / L.size) (j := j % L.size) (k := 1) h1 (Nat.mod_lt _ hp) 0 (by omega)
 rw [Nat.zero_add]
 rw [Nat.add_zero, Nat.div_add_mod'] at this
 exact this
end Go.Proofs.Ytojghgbaiiajfaa
