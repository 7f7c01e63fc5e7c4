/- append(out, x) of whatever data in a region that draws its order; the memory that changes. Conditions: none. -/
import Derived.Test.YtojghgbaiiajfaaPkH5
import Derived.Deep.AppendLies
namespace Go.Proofs.Ytojghgbaiiajfaa
open Go.RowKit
section
variable {α : Type} {L : Lay α} {e : TypeId} {P : Program}
theorem run_appL {w : World} (t ty : TypeId)
 (z : Value) (k bytes : Nat) (ht : P.underlying t = some (.slice e)) (hi : (P.info? e).map (fun i => (i.zero, i.size, i.bytes)) = some (some z, k, bytes)) (hk : L.size = k) (hzs : z.cells.size = k) (hk0 : 0 < k)
 (B : Nat) (G : Nat → Prop) (A : Option Addr) (n c : Nat) (xs : List α) (g c2 : Nat) (t' : TypeId) (vs : Array Value) (y : α)
 (hown : L.own e w B G A n c xs) (hr : Blk w g t' vs)
 (hy : L.rep w (fun b => G b ∧ (Value.slice A n c).ownBlock ≠ some b) y vs.toList) (hG : ∀ b, G b → b < w.heap.size) (hb : (n + 1) * bytes ≤ 140737488355328) (hn : n + 1 ≤ maxLen) (hB : B ≤ w.heap.size) :
 ∃ A' c' w', (Builtin.append_ #[t, t] ty #[.slice A n c, .slice (some ⟨g, 0, none⟩) 1 c2]).run P w = .ok (.slice A' (n + 1) c') w' ∧ L.own e w' B G A' (n + 1) c' (xs ++ [y]) ∧ w.grownBy w' (Value.slice A n c).ownBlock ∧ ((Value.slice A' (n + 1) c').ownBlock = (Value.slice A n c).ownBlock ∨ (Value.slice A' (n + 1) c').ownBlock = some w.heap.size) := by
 obtain ⟨hl, cs, hreps, hrow⟩ := hown
 obtain ⟨i0, hi0, hz0, hz1, hz2⟩ := info_parts hi
 subst hk
 have hR := reads_blk (s := L.size) (m := 1) hr rfl (by rw [L.len hy]; omega)
 obtain ⟨ad, e1, _, hcl⟩ := hR.2 (by omega)
 injection e1 with e1
 subst e1
 obtain ⟨g8, c8, w8, hrun, hown', hgr, hat, _⟩ := run_append_lies (P := P) (w := w) t ty B e i0 _ L.size bytes ht hi0 hz0 hz1 hz2 hzs hk0 (.slice A n c) n cs hrow ⟨g, 0, none⟩ 1 c2 vs.toList (by rw [L.len hy]; omega) hcl (L.one hy) (by omega) hn hb hB w.heap.size rfl
 have hat' : (Value.slice (some ⟨g8, 0, none⟩) (n + 1) c8).ownBlock = (Value.slice A n c).ownBlock ∨ (Value.slice (some ⟨g8, 0, none⟩) (n + 1) c8).ownBlock = some w.heap.size := by
  rcases hat with h | h
  · exact .inl (by rw [h]; simp [Value.ownBlock])
  · exact .inr (by rw [h]; simp [Value.ownBlock])
 have hne : ∀ b, G b → (Value.slice A n c).ownBlock ≠ some b → (Value.slice (some ⟨g8, 0, none⟩) (n + 1) c8).ownBlock ≠ some b := fun b hb hne => by
  rcases hat' with hat | hat
  · rw [hat]; exact hne
  · rw [hat]; intro e; injection e with e; have := hG b hb; omega
 have hkeep : ∀ b, (G b ∧ (Value.slice A n c).ownBlock ≠ some b) → b < w.heap.size → w8.heap[b]? = w.heap[b]? := fun b hb hlt => hgr.block b hlt (fun e => hb.2 e.symm)
 exact ⟨some ⟨g8, 0, none⟩, c8, w8, hrun, ⟨by rw [List.length_append, hl]; rfl, cs ++ vs.toList, Lay.reps_append (Lay.reps_weak (fun b hb _ => ⟨hb.1, hne b hb.1 hb.2⟩) (Lay.reps_keep hkeep hreps)) (Lay.reps_single (L.weak (fun b hb _ => ⟨hb.1, hne b hb.1 hb.2⟩) (L.keep hkeep hy))), hown'⟩, hgr, hat'⟩
end
theorem ownsRow_same {w w' : World} {B s n : Nat} {e : TypeId} {v : Value} {xs : List Value} (h : w.ownsRow B e s v n xs) (hk : ∀ k, v.ownBlock = some k → w'.heap[k]? = w.heap[k]?) : w'.ownsRow B e s v n xs := by
 refine ⟨h.1, ?_⟩
 rcases h.2 with h2 | ⟨g, cap, cur, rfl, hg, hh, r⟩
 · exact .inl h2
 · exact .inr ⟨g, cap, cur, rfl, hg, (hk g (by simp [Value.ownBlock])).trans hh, r⟩
theorem Lay.own_same {α : Type} {L : Lay α} {e : TypeId} {w w' : World} {B n c : Nat} {G : Nat → Prop} {A : Option Addr} {xs : List α} (h : L.own e w B G A n c xs) (hk : ∀ k, (Value.slice A n c).ownBlock = some k → w'.heap[k]? = w.heap[k]?) (hG : ∀ b, G b → (Value.slice A n c).ownBlock ≠ some b → b < w.heap.size → w'.heap[b]? = w.heap[b]?) : L.own e w' B G A n c xs := by
 obtain ⟨hl, cs, hr, ho⟩ := h
 exact ⟨hl, cs, Lay.reps_keep (fun b hb hlt => hG b hb.1 hb.2 hlt) hr, ownsRow_same ho hk⟩
theorem Lay.own_base {α : Type} {L : Lay α} {e : TypeId} {w : World} {B n c : Nat} {G : Nat → Prop} {A : Option Addr} {xs : List α} (h : L.own e w B G A n c xs) : ∀ k, (Value.slice A n c).ownBlock = some k → B ≤ k ∧ k < w.heap.size := by
 obtain ⟨hl, cs, hr, ho⟩ := h
 exact own_base' ho
theorem Lay.own_caps {α : Type} {L : Lay α} {e : TypeId} {w : World} {B n c : Nat} {G : Nat → Prop} {A : Option Addr} {xs : List α} (h : L.own e w B G A n c xs) : n ≤ c ∧ c ≤ 9223372036854775807 := by
 obtain ⟨hl, cs, hr, ho⟩ := h
 rcases ho.2 with ⟨e, _⟩ | ⟨g, cap, _, e, _, _, h1, h2, _⟩
 · injection e with _ e1 e2; omega
 · injection e with _ _ e2; unfold maxLen at h2; omega
/-- from w to w' at most blocks of X change -/
structure Chg (X : Nat → Prop) (w w' : World) : Prop where
 os : w'.os = w.os
 tape : w'.tape = w.tape
 output : w'.output = w.output
 size : w.heap.size ≤ w'.heap.size
 block : ∀ b, b < w.heap.size → ¬ X b → w'.heap[b]? = w.heap[b]?
theorem Chg.refl (X : Nat → Prop) (w : World) : Chg X w w := ⟨rfl, rfl, rfl, Nat.le_refl _, fun _ _ _ => rfl⟩
theorem Chg.below {X : Nat → Prop} {w w1 w2 : World} {B : Nat} (h : Chg X w w1) (q : Below B w1 w2) (hB : w.heap.size ≤ B) : Chg X w w2 :=
 ⟨q.os.trans h.os, q.tape.trans h.tape, q.output.trans h.output, Nat.le_trans h.size q.size, fun b hb hx => (q.block b (by omega)).trans (h.block b hb hx)⟩
theorem Chg.of_below {X : Nat → Prop} {w w1 : World} (q : Below w.heap.size w w1) : Chg X w w1 := (Chg.refl X w).below q (Nat.le_refl _)
theorem Chg.grown {X : Nat → Prop} {w w1 w2 : World} {r : Option Nat} (h : Chg X w w1) (hg : w1.grownBy w2 r) (hr : ∀ k, r = some k → X k ∨ w.heap.size ≤ k) : Chg X w w2 :=
 ⟨hg.os.trans h.os, hg.tape.trans h.tape, hg.output.trans h.output, Nat.le_trans h.size hg.size, fun b hb hx => (hg.block b (Nat.lt_of_lt_of_le hb h.size) (fun e => by rcases hr b e.symm with h9 | h9; exact hx h9; omega)).trans (h.block b hb hx)⟩
theorem Chg.trans {X : Nat → Prop} {w w1 w2 : World} (h : Chg X w w1) (k : Chg X w1 w2) : Chg X w w2 :=
 ⟨k.os.trans h.os, k.tape.trans h.tape, k.output.trans h.output, Nat.le_trans h.size k.size, fun b hb hx => (k.block b (Nat.lt_of_lt_of_le hb h.size) hx).trans (h.block b hb hx)⟩
theorem Chg.weak {X Y : Nat → Prop} {w w1 : World} (h : Chg X w w1) (hxy : ∀ b, b < w.heap.size → X b → Y b) : Chg Y w w1 := ⟨h.os, h.tape, h.output, h.size, fun b hb hy => h.block b hb (fun hx => hy (hxy b hb hx))⟩
theorem Chg.bel {X : Nat → Prop} {w0 w w' : World} {B : Nat} (h : Below B w0 w) (k : Chg X w w') (hX : ∀ b, b < w.heap.size → X b → B ≤ b) (hB : B ≤ w.heap.size) : Below B w0 w' :=
 ⟨k.os.trans h.os, k.tape.trans h.tape, k.output.trans h.output, Nat.le_trans h.size k.size, fun b hb => (k.block b (by omega) (fun hx => by have := hX b (by omega) hx; omega)).trans (h.block b hb)⟩
theorem Blk.chg {X : Nat → Prop} {w w' : World} {g : Nat} {t : TypeId} {cs : Array Value} (h : Blk w g t cs) (k : Chg X w w') (hx : ¬ X g) : Blk w' g t cs := (k.block g h.lt hx).trans h
theorem rd_chg {α : Type} {L : Lay α} {X F : Nat → Prop} {w w' : World} {A : Option Addr} {m : Nat} {xs : List α} (h : L.rd w F A m xs) (k : Chg X w w') (hF : ∀ b, F b → b < w.heap.size → ¬ X b) : L.rd w' F A m xs :=
 Lay.rd_keep (fun b hb hl => k.block b hl (hF b hb hl)) h
end Go.Proofs.Ytojghgbaiiajfaa
/- link.puts. Conditions: the pointer leads to a sender whose queue the caller owns; the batch reads so. -/
namespace Go.Proofs.Ytojghgbaiiajfaa
open Go.RowKit
theorem SeqN.early78 {k7 k8 k13 k16 : Nat} {B : Nat → (Nat → Value) → World → Prop} {L : Array Bool} {m : Nat → Value} {w : World} {md : Region.Mode} {ops : Array Oper} {T : World → Prop} (hsh : Shut md ops L) (h8 : Dn L k8 = false) (hr : ([k13, k16].all fun x => reach md ops ops.size x k8) = true)
 (t0 : ∀ m w, B 0 m w → T w) (t1 : ∀ m w, B 1 m w → T w) (hS : SeqN [k7, k8, k13, k16] B L m w) : T w := by
 have hn := post_no hsh h8 hr
 unfold SeqN cntD cntD at hS
 rw [h8, cntD_none hn] at hS
 cases h7 : Dn L k7
 · rw [h7] at hS; exact t0 _ _ hS
 · rw [h7] at hS; exact t1 _ _ hS
theorem Chg.trans2 {X : Nat → Prop} {w w1 w2 : World} (h : Chg X w w1) (k : Chg X w1 w2) (_ : True) : Chg X w w2 := h.trans k
def putE (s : SC) : Int := if s.ended then 322 else if (s.q.length : Int) = 8 ∨ 1099511627776 ≤ s.base - 1 + (s.q.length : Int) then 6 else 0
def putR (s : SC) (b : BC) : SC := ⟨s.ses, s.base, s.q ++ [b], s.sent, s.lim, s.timer, b.fin⟩
def PutC (E : Int) (s : SC) (b : BC) (g B : Nat) (G : Nat → Prop) (A : Option Addr) (n c : Nat) (w : World) (e : Ending) (w' : World) : Prop :=
 (E ≠ 0 ∧ e = .returned (.int .i64 E) ∧ Below w.heap.size w w') ∨
 (E = 0 ∧ e = .returned (.int .i64 0) ∧ ∃ A2 c2, Blk w' g 29 ((putR s b).cells A2 (n + 1) c2) ∧ LB3.own 45 w' B G A2 (n + 1) c2 (s.q ++ [b]) ∧ Chg (fun k => k = g ∨ (Value.slice A n c).ownBlock = some k) w w')
set_option maxRecDepth 100000 in
set_option maxHeartbeats 16000000 in
theorem puts_any (s : SC) (g : Nat) (A : Option Addr) (n c B : Nat) (b : BC) (bA : Option Addr) (bn bc : Nat) (G : Nat → Prop) (w : World) (hN : Blk w g 29 (s.cells A n c)) (ho : LB3.own 45 w B G A n c s.q) (hgB : g < B) (hB : B ≤ w.heap.size)
 (hG : ∀ k, G k → k < w.heap.size) (hGg : ∀ k, G k → k ≠ g) (hrb : LR.rd w (fun k => G k ∧ (Value.slice A n c).ownBlock ≠ some k) bA bn b.rows) (hbn : bn ≤ bc) (hbc : bc ≤ 9223372036854775807) (h1 : 1 ≤ s.base) (h2 : s.base ≤ 2000000000000) (hn : n ≤ 100) :
 Calls Try.prog 92 #[.pointer (some ⟨g, 0, none⟩), .agg (b.cells bA bn bc)] w (PutC (putE s) s b g B G A n c w) := by
 have HPE := Lib.hid (show putE s = _ from rfl)
 have HL := Lib.hid (Lay.own_len ho)
 obtain ⟨ses, base, q, sent, lim, timer, ended⟩ := s
 obtain ⟨brows, fin, cnt⟩ := b
 dsimp only at ho hN hrb h1 h2 HL
 obtain ⟨E, hE⟩ : ∃ E, E = putE ⟨ses, base, q, sent, lim, timer, ended⟩ := ⟨_, rfl⟩
 rw [← hE]
 have HE := Lib.hid (show E = if ended then 322 else if (n : Int) = 8 ∨ 1099511627776 ≤ base - 1 + (n : Int) then 6 else 0 from by rw [hE]; unfold putE; rw [HL.out])
 clear hE HPE
 have b1 := bl_al (Below.refl w.heap.size w) (.cells #[.slice bA bn bc, .bool fin, .int .u64 cnt] 45)
 have HX := Lib.hid (Blk.new w 45 #[.slice bA bn bc, .bool fin, .int .u64 cnt])
 have HN := Lib.hid (hN.ca b1)
 have HO := Lib.hid (Lay.own_below ho b1)
 have HRB := Lib.hid (Lay.rd_below hrb b1)
 have HG := Lib.hid (fun k h => Nat.lt_of_lt_of_le (hG k h) b1.size)
 have HGg := Lib.hid hGg
 have HBX := Lib.hid b1
 have hB2 := Nat.le_trans hB b1.size
 have hgX : ¬ (fun k => k = g ∨ (Value.slice A n c).ownBlock = some k) w.heap.size := fun h => by
  rcases h with h | h
  · have := hN.lt; omega
  · have := (Lay.own_base ho _ h).2; omega
 have HNX : Hid (¬ ((Value.slice A n c).ownBlock = some g)) := Lib.hid (fun h => by have := (Lay.own_base ho _ h).1; omega)
 have hgB2 : g < w.heap.size := hN.lt
 have hgBne : w.heap.size ≠ g := by omega
 clear hG hGg hN ho hrb b1
 have x6 : (w.alloc (.cells #[.slice bA bn bc, .bool fin, .int .u64 cnt] 45)).cell? ⟨g, 6, none⟩ = some (.bool ended) := HN.out.cell 6
 cases ended
 · have x2 : (w.alloc (.cells #[.slice bA bn bc, .bool fin, .int .u64 cnt] 45)).cell? ⟨g, 2, none⟩ = some (.slice A n c) := HN.out.cell 2
   have y0 : (w.alloc (.cells #[.slice bA bn bc, .bool fin, .int .u64 cnt] 45)).cell? ⟨g, 0, none⟩ = some (.int .u32 ses) := HN.out.cell 0
   have y1 : (w.alloc (.cells #[.slice bA bn bc, .bool fin, .int .u64 cnt] 45)).cell? ⟨g, 1, none⟩ = some (.int .u64 base) := HN.out.cell 1
   have y3 : (w.alloc (.cells #[.slice bA bn bc, .bool fin, .int .u64 cnt] 45)).cell? ⟨g, 3, none⟩ = some (.int .u64 sent) := HN.out.cell 3
   have y4 : (w.alloc (.cells #[.slice bA bn bc, .bool fin, .int .u64 cnt] 45)).cell? ⟨g, 4, none⟩ = some (.int .u64 lim) := HN.out.cell 4
   have y5 : (w.alloc (.cells #[.slice bA bn bc, .bool fin, .int .u64 cnt] 45)).cell? ⟨g, 5, none⟩ = some (.int .i64 timer) := HN.out.cell 5
   by_cases h8 : n = 8
   · have d8 : ((n : Int) == 8) = true := by simp; omega
     obtain rfl : E = 6 := by rw [HE.out, if_neg (by decide), if_pos (.inl (by omega))]
     clear h8
     go_enter Try.func92, Try.ntmps92
     go_wp2
     go_ret
     exact Or.inl ⟨by decide, rfl, HBX.out⟩
   · have d8 : ((n : Int) == 8) = false := by simp; omega
     have HLA := Lib.hid (last_any ⟨ses, base, q, sent, lim, timer, false⟩ A n c (w.alloc (.cells #[.slice bA bn bc, .bool fin, .int .u64 cnt] 45)) h1 h2 hn)
     by_cases hf : 1099511627776 ≤ base - 1 + (n : Int)
     · obtain rfl : E = 6 := by rw [HE.out, if_neg (by decide), if_pos (.inr hf)]
       have d9 : decide ((1099511627776 : Int) ≤ base - 1 + (n : Int)) = true := by simpa using hf
       clear h8 hf
       go_enter Try.func92, Try.ntmps92
       go_wp2_with fail
       refine HLA.out.mono ?_
       rintro e w2 ⟨rfl, q2⟩
       have HQ := Lib.hid (bl_ca HBX.out q2)
       clear q2
       go_wp2
       go_ret
       exact Or.inl ⟨by decide, rfl, HQ.out⟩
     · obtain rfl : E = 0 := by rw [HE.out, if_neg (by decide), if_neg (by omega)]
       have d9 : decide ((1099511627776 : Int) ≤ base - 1 + (n : Int)) = false := by simpa using hf
       clear h8 hf
       go_enter Try.func92, Try.ntmps92
       go_wp2_with fail
       refine HLA.out.mono ?_
       rintro e w1 ⟨rfl, q2⟩
       replace HX := Lib.hid (HX.out.ca q2)
       replace HN := Lib.hid (HN.out.ca q2)
       replace HO := Lib.hid (Lay.own_below HO.out q2)
       replace HRB := Lib.hid (Lay.rd_below HRB.out q2)
       replace HBX := Lib.hid (bl_ca HBX.out q2)
       replace HG := Lib.hid (fun k h => Nat.lt_of_lt_of_le (HG.out k h) q2.size)
       replace hB2 := Nat.le_trans hB2 q2.size
       have HNXX : True := trivial
       obtain ⟨gB, hgBe⟩ : ∃ gB, gB = w.heap.size := ⟨_, rfl⟩
       rw [← hgBe] at HX hgX hgBne hgB2 ⊢
       have hwX : True := trivial
       clear hgBe q2 x6 x2 y0 y1 y3 y4 y5 HLA
       go_wp2_with fail
       refine wp_region_ps (S := SeqN [7, 8, 13, 16] (fun z m w' => match z with | 0 => Below w1.heap.size w1 w' | 1 => Below w1.heap.size w1 w' ∧ ∃ gb, m 7 = .slice (some ⟨gb, 0, none⟩) 1 1 ∧ w1.heap.size ≤ gb ∧ Blk w' gb 45 #[.slice bA bn bc, .bool fin, .int .u64 cnt] | 2 => Chg (fun k => k = g ∨ (Value.slice A n c).ownBlock = some k) w1 w' ∧ Blk w' gB 45 #[.slice bA bn bc, .bool fin, .int .u64 cnt] ∧ Blk w' g 29 #[.int .u32 ses, .int .u64 base, .slice A n c, .int .u64 sent, .int .u64 lim, .int .i64 timer, .bool false] ∧ ∃ A2 c2, m 8 = .slice A2 (n + 1) c2 ∧ LB3.own 45 w' B G A2 (n + 1) c2 (q ++ [⟨brows, fin, cnt⟩]) | 3 => Chg (fun k => k = g ∨ (Value.slice A n c).ownBlock = some k) w1 w' ∧ Blk w' gB 45 #[.slice bA bn bc, .bool fin, .int .u64 cnt] ∧ ∃ A2 c2, m 8 = .slice A2 (n + 1) c2 ∧ LB3.own 45 w' B G A2 (n + 1) c2 (q ++ [⟨brows, fin, cnt⟩]) ∧ Blk w' g 29 #[.int .u32 ses, .int .u64 base, .slice A2 (n + 1) c2, .int .u64 sent, .int .u64 lim, .int .i64 timer, .bool false] | _ => Chg (fun k => k = g ∨ (Value.slice A n c).ownBlock = some k) w1 w' ∧ ∃ A2 c2, m 8 = .slice A2 (n + 1) c2 ∧ LB3.own 45 w' B G A2 (n + 1) c2 (q ++ [⟨brows, fin, cnt⟩]) ∧ Blk w' g 29 #[.int .u32 ses, .int .u64 base, .slice A2 (n + 1) c2, .int .u64 sent, .int .u64 lim, .int .i64 timer, .bool fin])) (by kernel_rfl) ?spswpp ?ppswpp
       case spswpp =>
        exact SeqN.start (by decide) (Below.refl _ _).drew
       refine Pz 0 (some 24) _ rfl rfl (StepS.pure (SeqN.pass (by decide)) rfl fun w9 => by go_simp; try rfl) ?_
       try simp only [Act.put, sA, sZ, sS]
       refine Pz 1 (some 25) _ rfl rfl (StepS.pure (SeqN.pass (by decide)) rfl fun w9 => by go_simp; try rfl) ?_
       try simp only [Act.put, sA, sZ, sS]
       refine Pz 2 (some 26) _ rfl rfl (StepS.pure (SeqN.pass (by decide)) rfl fun w9 => by go_simp; try rfl) ?_
       try simp only [Act.put, sA, sZ, sS]
       refine Pz 3 (some 27) _ rfl rfl (StepS.pure (SeqN.pass (by decide)) rfl fun w9 => by go_simp; try rfl) ?_
       try simp only [Act.put, sA, sZ, sS]
       refine Pz 4 (some 28) _ rfl rfl (StepS.pure (SeqN.pass (by decide)) rfl fun w9 => by go_simp; try rfl) ?_
       try simp only [Act.put, sA, sZ, sS]
       refine Pz 5 (some 29) ?uwpp_6 rfl rfl ?ywpp_6 ?rwpp_6
       case ywpp_6 =>
        refine StepS.read [] (by kernel_rfl) (SeqN.pass (by decide)) (by rfl) (fun L9 m9 w9 hSh hAt hDn hS => ?_)
        have d8 : Dn L9 8 = false := reach_no hSh (f := 17) (j := 8) (d := 5) (by kernel_rfl) hDn
        have hT : Below w1.heap.size w1 w9 := SeqN.early78 hSh d8 (by kernel_rfl) (fun _ _ h => h) (fun _ _ h => h.1) hS
        have x2 : w9.cell? ⟨g, 2, none⟩ = some (.slice A n c) := (HN.out.ca hT).cell 2
        clear hT hS
        go_simp
        try rfl
       try simp only [Act.put, sA, sZ, sS]
       refine Pz 6 (some 30) ?uwpp_7 rfl rfl ?ywpp_7 ?rwpp_7
       case ywpp_7 =>
        refine StepS.read [] (by kernel_rfl) (SeqN.pass (by decide)) (by rfl) (fun L9 m9 w9 hSh hAt hDn hS => ?_)
        have d8 : Dn L9 8 = false := reach_no hSh (f := 17) (j := 8) (d := 6) (by kernel_rfl) hDn
        have hT : Below w1.heap.size w1 w9 := SeqN.early78 hSh d8 (by kernel_rfl) (fun _ _ h => h) (fun _ _ h => h.1) hS
        have x0 : w9.cell? ⟨gB, 0, none⟩ = some (.slice bA bn bc) := (HX.out.ca hT).cell 0
        have x1 : w9.cell? ⟨gB, 1, none⟩ = some (.bool fin) := (HX.out.ca hT).cell 1
        have x2 : w9.cell? ⟨gB, 2, none⟩ = some (.int .u64 cnt) := (HX.out.ca hT).cell 2
        clear hT hS
        go_simp
        try rfl
       try simp only [Act.put, sA, sZ, sS]
       refine Pz 9 (some 33) _ rfl rfl (StepS.pure (SeqN.pass (by decide)) rfl fun w9 => by go_simp; try rfl) ?_
       try simp only [Act.put, sA, sZ, sS]
       refine Pz 10 (some 34) ?uwpp_9 rfl rfl ?ywpp_9 ?rwpp_9
       case ywpp_9 =>
        refine StepS.read [] (by kernel_rfl) (SeqN.pass (by decide)) (by rfl) (fun L9 m9 w9 hSh hAt hDn hS => ?_)
        have hT : Blk w9 gB 45 #[.slice bA bn bc, .bool fin, .int .u64 cnt] := SeqN.any (T := fun w9 => Blk w9 gB 45 #[.slice bA bn bc, .bool fin, .int .u64 cnt]) (fun z _ _ h => by match z, h with | 0, h => exact HX.out.ca h | 1, h => exact HX.out.ca h.1 | 2, h => exact h.2.1 | 3, h => exact h.2.1 | _ + 4, h => exact HX.out.chg h.1 hgX) hS
        have x1 : w9.cell? ⟨gB, 1, none⟩ = some (.bool fin) := hT.cell 1
        clear hT hS
        go_simp
        try rfl
       try simp only [Act.put, sA, sZ, sS]
       refine Ps.one (k := 7) (d := some 31) rfl rfl (by kernel_rfl) (TurnS.value (V := fun v => ∃ gb, v = .slice (some ⟨gb, 0, none⟩) 1 1) [] (by kernel_rfl) (by rfl) (fun L9 m9 w9 hSh hAt hDn hS => ?cwpp_10)) (fun v7 hVv7 => ?rwpp_10)
       case cwpp_10 =>
        have hT := SeqN.at_ (m0 := m9) (m1 := m9) [] [8, 13, 16] hSh (fun d hd => by cases hd) hDn (by kernel_rfl) hS
        refine ⟨.slice (some ⟨w9.heap.size, 0, none⟩) 1 1, w9.alloc (.cells #[.slice bA bn bc, .bool fin, .int .u64 cnt] 45), ?_, ⟨_, rfl⟩, SeqN.set_ (m0 := m9) (m1 := m9) [] [8, 13, 16] hSh (fun d hd => by cases hd) hDn (by kernel_rfl) (by decide) (by decide) ⟨bl_al hT _, _, upd_same _ _ _, hT.size, Blk.new _ _ _⟩⟩
        clear hT hS
        go_simp
       try simp only [Act.put, sA, sZ, sS]
       obtain ⟨gb, rfl⟩ := hVv7
       refine Ps.one (k := 8) (d := some 32) rfl rfl (by kernel_rfl) (TurnS.value (V := fun v => ∃ A2 c2, v = .slice A2 (n + 1) c2) [7] (by kernel_rfl) (by rfl) (fun L9 m9 w9 hSh hAt hDn hS => ?cwpp_11)) (fun v8 hVv8 => ?rwpp_11)
       case cwpp_11 =>
        obtain ⟨hT, gb2, hv, hg1, hg2⟩ := SeqN.at_ [7] [13, 16] hSh hAt hDn (by kernel_rfl) hS
        obtain rfl : gb = gb2 := by have h9 : Value.slice (some ⟨gb, 0, none⟩) 1 1 = .slice (some ⟨gb2, 0, none⟩) 1 1 := (hAt 7 (by simp)).2.symm.trans hv; simpa using h9
        obtain ⟨A2, c2, w8, hrun, hown, hgr, hat⟩ := run_appL (L := LB3) (e := 45) (P := Try.prog) (w := w9) 27 27 _ 3 40 Try.underlying27 infoB rfl rfl (by decide) B G A n c q gb 1 45 #[.slice bA bn bc, .bool fin, .int .u64 cnt] ⟨brows, fin, cnt⟩ (Lay.own_below HO.out hT) hg2 ⟨bA, bn, bc, rfl, hbn, hbc, Lay.rd_below HRB.out hT⟩ (fun b hb => Nat.lt_of_lt_of_le (HG.out b hb) hT.size) (by omega) (by unfold maxLen; omega) (Nat.le_trans hB2 hT.size)
        have hch : Chg (fun k => k = g ∨ (Value.slice A n c).ownBlock = some k) w1 w8 := (Chg.of_below hT).grown hgr (fun k e => .inl (.inr e))
        exact ⟨_, w8, exec_append (.tmp 29) (.tmp 31) 27 rfl rfl rfl hrun, ⟨A2, c2, rfl⟩, SeqN.set_ [7] [13, 16] hSh hAt hDn (by kernel_rfl) (by decide) (by decide) ⟨hch, HX.out.chg hch hgX, (hgr.block g (HN.out.ca hT).lt (fun e => HNX.out e.symm)).trans (HN.out.ca hT), A2, c2, upd_same _ _ _, hown⟩⟩
       try simp only [Act.put, sA, sZ, sS]
       obtain ⟨A2, c2, rfl⟩ := hVv8
       refine Pz 11 (some 35) _ rfl rfl (StepS.pure (SeqN.pass (by decide)) rfl fun w9 => by go_simp; try rfl) ?_
       try simp only [Act.put, sA, sZ, sS]
       refine Pz 12 (some 36) _ rfl rfl (StepS.pure (SeqN.pass (by decide)) rfl fun w9 => by go_simp; try rfl) ?_
       try simp only [Act.put, sA, sZ, sS]
       refine Pz 13 none undef rfl rfl ?ywpp_14 ?rwpp_14
       case ywpp_14 =>
        refine StepS.store [7, 8] (by kernel_rfl) (by rfl) (fun L9 m9 w9 hSh hAt hDn hS => ?_)
        obtain ⟨hch, hbb, hN, A3, c3, hv, ho⟩ := SeqN.at_ [7, 8] [16] hSh hAt hDn (by kernel_rfl) hS
        obtain ⟨rfl, rfl⟩ : A2 = A3 ∧ c2 = c3 := by have h9 : Value.slice A2 (n + 1) c2 = .slice A3 (n + 1) c3 := (hAt 8 (by simp)).2.symm.trans hv; simpa using h9
        have hN2 : Blk (w9.setCell ⟨g, 2, none⟩ (.slice A2 (n + 1) c2)) g 29 #[.int .u32 ses, .int .u64 base, .slice A2 (n + 1) c2, .int .u64 sent, .int .u64 lim, .int .i64 timer, .bool false] := by simpa using hN.set_ 2 (.slice A2 (n + 1) c2)
        have hg2 : w9.grownBy (w9.setCell ⟨g, 2, none⟩ (.slice A2 (n + 1) c2)) (some g) := only_setCell (World.grownBy.refl _ _) (.inl rfl) _
        have x2 : w9.cell? ⟨g, 2, none⟩ = some (.slice A n c) := hN.cell 2
        have fx : w9.frozen? ⟨g, 2, none⟩ = false := hN.frozen 2
        refine ⟨w9.setCell ⟨g, 2, none⟩ (.slice A2 (n + 1) c2), ?_, SeqN.set_ [7, 8] [16] hSh hAt hDn (by kernel_rfl) (by decide) (by decide) ⟨hch.grown hg2 (fun k e => .inl (.inl (by injection e with e; exact e.symm))), hbb.apart hg2 (by omega), A2, c2, hv, ?_, hN2⟩⟩
        · clear hv ho hN hN2 hg2 hch hbb hS
          go_simp
        · exact Lay.own_same ho (fun k e => hg2.block k (Lay.own_base ho k e).2 (fun e2 => by injection e2 with e2; have := (Lay.own_base ho k e).1; omega)) (fun b hb _ hl => hg2.block b hl (fun e2 => by injection e2 with e2; exact HGg.out b hb e2))
       try simp only [Act.put]
       refine Pz 14 (some 37) _ rfl rfl (StepS.pure (SeqN.pass (by decide)) rfl fun w9 => by go_simp; try rfl) ?_
       try simp only [Act.put, sA, sZ, sS]
       refine Pz 15 (some 38) _ rfl rfl (StepS.pure (SeqN.pass (by decide)) rfl fun w9 => by go_simp; try rfl) ?_
       try simp only [Act.put, sA, sZ, sS]
       refine Pz 16 none undef rfl rfl ?ywpp_17 ?rwpp_17
       case ywpp_17 =>
        refine StepS.store [7, 8, 13] (by kernel_rfl) (by rfl) (fun L9 m9 w9 hSh hAt hDn hS => ?_)
        obtain ⟨hch, hbb, A3, c3, hv, ho, hN⟩ := SeqN.at_ [7, 8, 13] [] hSh hAt hDn (by kernel_rfl) hS
        obtain ⟨rfl, rfl⟩ : A2 = A3 ∧ c2 = c3 := by have h9 : Value.slice A2 (n + 1) c2 = .slice A3 (n + 1) c3 := (hAt 8 (by simp)).2.symm.trans hv; simpa using h9
        have hN2 : Blk (w9.setCell ⟨g, 6, none⟩ (.bool fin)) g 29 #[.int .u32 ses, .int .u64 base, .slice A2 (n + 1) c2, .int .u64 sent, .int .u64 lim, .int .i64 timer, .bool fin] := by simpa using hN.set_ 6 (.bool fin)
        have hg2 : w9.grownBy (w9.setCell ⟨g, 6, none⟩ (.bool fin)) (some g) := only_setCell (World.grownBy.refl _ _) (.inl rfl) _
        have x2 : w9.cell? ⟨g, 6, none⟩ = some (.bool false) := hN.cell 6
        have fx : w9.frozen? ⟨g, 6, none⟩ = false := hN.frozen 6
        refine ⟨w9.setCell ⟨g, 6, none⟩ (.bool fin), ?_, SeqN.set_ [7, 8, 13] [] hSh hAt hDn (by kernel_rfl) (by decide) (by decide) ⟨hch.grown hg2 (fun k e => .inl (.inl (by injection e with e; exact e.symm))), A2, c2, hv, ?_, hN2⟩⟩
        · clear hv ho hN hN2 hg2 hch hbb hS
          go_simp
        · exact Lay.own_same ho (fun k e => hg2.block k (Lay.own_base ho k e).2 (fun e2 => by injection e2 with e2; have := (Lay.own_base ho k e).1; omega)) (fun b hb _ hl => hg2.block b hl (fun e2 => by injection e2 with e2; exact HGg.out b hb e2))
       try simp only [Act.put]
       refine Ps.done (by kernel_rfl) (fun wpp hS => ?_) _
       obtain ⟨hch, A3, c3, hv, ho, hN⟩ := SeqN.fin (by rfl) hS
       clear hS
       obtain ⟨rfl, rfl⟩ : A2 = A3 ∧ c2 = c3 := by have h9 : Value.slice A2 (n + 1) c2 = .slice A3 (n + 1) c3 := hv; simpa using h9
       clear hv
       have HCH := Lib.hid hch
       have HOO := Lib.hid ho
       have HNN := Lib.hid hN
       clear hch ho hN
       obtain ⟨w7, rfl⟩ : ∃ x, x = wpp := ⟨_, rfl⟩
       go_wp2
       go_ret
       exact Or.inr ⟨rfl, rfl, A2, c2, HNN.out, HOO.out, (Chg.of_below HBX.out).trans2 HCH.out hwX⟩
 · obtain rfl : E = 322 := by rw [HE.out]; rfl
   go_enter Try.func92, Try.ntmps92
   go_wp2
   go_ret
   exact Or.inl ⟨by decide, rfl, HBX.out⟩
end Go.Proofs.Ytojghgbaiiajfaa
/- link.sends. Conditions: the queue reads as these batches; what is handed over keeps to its contract. -/
namespace Go.Proofs.Ytojghgbaiiajfaa
open Go.RowKit
/-- what is handed over: it finds the copy of the sender in block g, whose queue's row lies from B on -/
def DoS (D : FuncId) (cap : Array Value) (w0 : World) (Fr : Nat → Prop) (s : SC) (E : Int) (s2 : SC) (X : Nat → Prop) (Y : World → Prop) : Prop :=
 sendB s = true → ∀ (w : World) (g B : Nat) (A : Option Addr) (n c : Nat), Below w0.heap.size w0 w → w0.heap.size + 2 ≤ g → g < B → B ≤ w.heap.size → Blk w g 29 (s.cells A n c) →
  LB3.own 45 w B Fr A n c s.q →
  Calls Try.prog D (#[.pointer (some ⟨g, 0, none⟩)] ++ cap) w fun e w' => e = .returned (.int .i64 E) ∧ Chg (fun k => k = g ∨ (Value.slice A n c).ownBlock = some k ∨ X k) w w' ∧ Y w' ∧
   (E = 0 → ∃ A2 n2 c2, Blk w' g 29 (s2.cells A2 n2 c2) ∧ LB3.own 45 w' B (fun k => k < w'.heap.size ∧ (Fr k ∨ B ≤ k)) A2 n2 c2 s2.q)
/-- what link.sends answers -/
def SendsC (Fr : Nat → Prop) (s : SC) (E : Int) (s2 : SC) (X : Nat → Prop) (Y : World → Prop) (w : World) (e : Ending) (w' : World) : Prop :=
 if sendB s then Chg X w w' ∧ Y w' ∧ (E ≠ 0 → e = .returned (.tuple #[.agg (zeroS.cells none 0 0), .int .i64 E])) ∧
  (E = 0 → ∃ A2 n2 c2, e = .returned (.tuple #[.agg (s2.cells A2 n2 c2), .int .i64 0]) ∧ LB3.own 45 w' w.heap.size (fun k => k < w'.heap.size ∧ (Fr k ∨ w.heap.size + 2 ≤ k)) A2 n2 c2 s2.q)
 else e = .returned (.tuple #[.agg (zeroS.cells none 0 0), .int .i64 320]) ∧ Below w.heap.size w w'
theorem sends_no {Fr : Nat → Prop} {s : SC} {E : Int} {s2 : SC} {X : Nat → Prop} {Y : World → Prop} {w w' : World} {e : Ending} (h : sendB s = false) (h1 : e = .returned (.tuple #[.agg (zeroS.cells none 0 0), .int .i64 320])) (h2 : Below w.heap.size w w') : SendsC Fr s E s2 X Y w e w' := by
 unfold SendsC
 rw [h]
 exact ⟨h1, h2⟩
theorem sends_yes {Fr : Nat → Prop} {s : SC} {E : Int} {s2 : SC} {X : Nat → Prop} {Y : World → Prop} {w w' : World} {e : Ending} (h : sendB s = true) (hc : Chg X w w') (hy : Y w') (h1 : E ≠ 0 → e = .returned (.tuple #[.agg (zeroS.cells none 0 0), .int .i64 E]))
 (h2 : E = 0 → ∃ A2 n2 c2, e = .returned (.tuple #[.agg (s2.cells A2 n2 c2), .int .i64 0]) ∧ LB3.own 45 w' w.heap.size (fun k => k < w'.heap.size ∧ (Fr k ∨ w.heap.size + 2 ≤ k)) A2 n2 c2 s2.q) : SendsC Fr s E s2 X Y w e w' := by
 unfold SendsC
 rw [h]
 exact ⟨hc, hy, h1, h2⟩
theorem Lay.own_lessB {α : Type} {L : Lay α} {e : TypeId} {w : World} {B B' n c : Nat} {G : Nat → Prop} {A : Option Addr} {xs : List α} (h : L.own e w B G A n c xs) (hB : B' ≤ B) : L.own e w B' G A n c xs := by
 obtain ⟨hl, cs, hr, ho⟩ := h
 refine ⟨hl, cs, hr, ho.1, ?_⟩
 rcases ho.2 with h2 | ⟨g, cap, cur, e, hg, r⟩
 · exact .inl h2
 · exact .inr ⟨g, cap, cur, e, Nat.le_trans hB hg, r⟩
theorem sendB_len {s : SC} (h : sendB s = true) : s.q.length ≤ 8 ∧ 1 ≤ s.base ∧ s.base ≤ 1099511627776 := by
 unfold sendB sendA at h
 simp only [Bool.and_eq_true, decide_eq_true_eq] at h
 omega
set_option maxRecDepth 100000 in
set_option maxHeartbeats 16000000 in
theorem sends_any (Fr : Nat → Prop) (s : SC) (A : Option Addr) (n c : Nat) (D : FuncId) (cap : Array Value) (E : Int) (s2 : SC) (X : Nat → Prop) (Y : World → Prop) (w : World) (h : LB3.rd w Fr A n s.q) (hFr : ∀ k, Fr k → k < w.heap.size) (hn : n ≤ 9223372036854775807) (h0 : 0 ≤ s.base)
 (hent : ∀ (args : Array Value) (w : World), (callFunc D args).run Try.prog w = .ok (.enter D args) w) (hD : DoS D cap w Fr s E s2 X Y) (hX : ∀ k, X k → k < w.heap.size) (hY : ∀ w1 w2, Y w1 → w1.grownBy w2 (some (w.heap.size + 1)) → Y w2) :
 Calls Try.prog 81 #[.agg (s.cells A n c), .func (.func D) #[] cap] w (SendsC Fr s E s2 X Y w) := by
 have HD := Lib.hid hD
 have HX := Lib.hid hX
 have HFR := Lib.hid hFr
 have HY := Lib.hid hY
 have HEN := hent
 have HL := Lib.hid (Lay.rd_len h)
 have q1 := bl_al (Below.refl w.heap.size w) (.cells (s.cells A n c) 29)
 have q2 := bl_al (Below.refl (w.alloc (.cells (s.cells A n c) 29)).heap.size (w.alloc (.cells (s.cells A n c) 29))) (.cells (zeroS.cells none 0 0) 29)
 have HS := Lib.hid ((Blk.new w 29 (s.cells A n c)).ca q2)
 have HZ := Lib.hid (show Blk ((w.alloc (.cells (s.cells A n c) 29)).alloc (.cells (zeroS.cells none 0 0) 29)) (w.heap.size + 1) 29 (zeroS.cells none 0 0) from Blk.mk' (by simp only [World.size_alloc]))
 have HB := Lib.hid (bl_ca q1 q2)
 have HR := Lib.hid (Lay.rd_below (Lay.rd_below h q1) q2)
 have hsz : w.heap.size + 2 ≤ ((w.alloc (.cells (s.cells A n c) 29)).alloc (.cells (zeroS.cells none 0 0) 29)).heap.size := by simp only [World.size_alloc]; omega
 have HCK := Lib.hid (csend_any Fr s A n c _ HR.out hn h0)
 clear h q1 q2 hent hD hX hY hFr
 obtain ⟨ses, base, q, sent, lim, timer, ended⟩ := s
 dsimp only at HL h0
 have x0 : ((w.alloc (.cells (SC.cells ⟨ses, base, q, sent, lim, timer, ended⟩ A n c) 29)).alloc (.cells (zeroS.cells none 0 0) 29)).cell? ⟨w.heap.size, 0, none⟩ = some (.int .u32 ses) := HS.out.cell 0
 have x1 : ((w.alloc (.cells (SC.cells ⟨ses, base, q, sent, lim, timer, ended⟩ A n c) 29)).alloc (.cells (zeroS.cells none 0 0) 29)).cell? ⟨w.heap.size, 1, none⟩ = some (.int .u64 base) := HS.out.cell 1
 have x2 : ((w.alloc (.cells (SC.cells ⟨ses, base, q, sent, lim, timer, ended⟩ A n c) 29)).alloc (.cells (zeroS.cells none 0 0) 29)).cell? ⟨w.heap.size, 2, none⟩ = some (.slice A n c) := HS.out.cell 2
 have x3 : ((w.alloc (.cells (SC.cells ⟨ses, base, q, sent, lim, timer, ended⟩ A n c) 29)).alloc (.cells (zeroS.cells none 0 0) 29)).cell? ⟨w.heap.size, 3, none⟩ = some (.int .u64 sent) := HS.out.cell 3
 have x4 : ((w.alloc (.cells (SC.cells ⟨ses, base, q, sent, lim, timer, ended⟩ A n c) 29)).alloc (.cells (zeroS.cells none 0 0) 29)).cell? ⟨w.heap.size, 4, none⟩ = some (.int .u64 lim) := HS.out.cell 4
 have x5 : ((w.alloc (.cells (SC.cells ⟨ses, base, q, sent, lim, timer, ended⟩ A n c) 29)).alloc (.cells (zeroS.cells none 0 0) 29)).cell? ⟨w.heap.size, 5, none⟩ = some (.int .i64 timer) := HS.out.cell 5
 have x6 : ((w.alloc (.cells (SC.cells ⟨ses, base, q, sent, lim, timer, ended⟩ A n c) 29)).alloc (.cells (zeroS.cells none 0 0) 29)).cell? ⟨w.heap.size, 6, none⟩ = some (.bool ended) := HS.out.cell 6
 by_cases hok : sendB ⟨ses, base, q, sent, lim, timer, ended⟩ = true
 · have HOK := Lib.hid hok
   rw [hok, if_pos rfl] at HCK
   have hlen := (sendB_len hok).1
   dsimp only at hlen
   rw [HL.out] at hlen
   clear hok
   go_enter Try.func81, Try.ntmps81
   go_wp2_with fail
   refine HCK.out.mono ?_
   clear HCK
   rintro e w2 ⟨rfl, q2⟩
   have hs2 := Nat.le_trans hsz q2.size
   have HB2 := Lib.hid (bl_ca HB.out q2)
   have HS2 := Lib.hid (HS.out.ca q2)
   have HZ2 := Lib.hid (HZ.out.ca q2)
   have HR2 := Lib.hid (Lay.rd_below HR.out q2)
   clear x0 x1 x2 x3 x4 x5 x6 HS HZ HR HB q2 hsz
   have x0 : w2.cell? ⟨w.heap.size, 0, none⟩ = some (.int .u32 ses) := HS2.out.cell 0
   have x1 : w2.cell? ⟨w.heap.size, 1, none⟩ = some (.int .u64 base) := HS2.out.cell 1
   have x2 : w2.cell? ⟨w.heap.size, 2, none⟩ = some (.slice A n c) := HS2.out.cell 2
   have x3 : w2.cell? ⟨w.heap.size, 3, none⟩ = some (.int .u64 sent) := HS2.out.cell 3
   have x4 : w2.cell? ⟨w.heap.size, 4, none⟩ = some (.int .u64 lim) := HS2.out.cell 4
   have x5 : w2.cell? ⟨w.heap.size, 5, none⟩ = some (.int .i64 timer) := HS2.out.cell 5
   have x6 : w2.cell? ⟨w.heap.size, 6, none⟩ = some (.bool ended) := HS2.out.cell 6
   have q3 := bl_al (Below.refl w2.heap.size w2) (.cells (SC.cells ⟨ses, base, q, sent, lim, timer, ended⟩ A n c) 29)
   have x7 : (w2.alloc (.cells (SC.cells ⟨ses, base, q, sent, lim, timer, ended⟩ A n c) 29)).cell? ⟨w.heap.size, 2, none⟩ = some (.slice A n c) := (HS2.out.ca q3).cell 2
   have HN3 := Lib.hid (Blk.new w2 29 (SC.cells ⟨ses, base, q, sent, lim, timer, ended⟩ A n c))
   have HZ3 := Lib.hid (HZ2.out.ca q3)
   have HB3 := Lib.hid (bl_ca HB2.out q3)
   have HCL := Lib.hid (cloneB Fr A n c q _ (Lay.rd_below HR2.out q3) (by omega))
   have hs3 : w2.heap.size < (w2.alloc (.cells (SC.cells ⟨ses, base, q, sent, lim, timer, ended⟩ A n c) 29)).heap.size := by simp only [World.size_alloc]; omega
   clear HS2 HZ2 HB2 HR2 q3
   go_wp2_with fail
   clear x0 x1 x2 x3 x4 x5 x6 x7
   generalize w2.alloc (.cells (SC.cells ⟨ses, base, q, sent, lim, timer, ended⟩ A n c) 29) = w3 at *
   obtain ⟨g7, hg7⟩ : ∃ g, g = w2.heap.size := ⟨_, rfl⟩
   rw [← hg7] at HN3 hs3 hs2 ⊢
   clear hg7
   refine HCL.out.mono ?_
   clear HCL
   rintro e w4 ⟨A4, c4, rfl, ho4, q4⟩
   have hN4 := HN3.out.ca q4
   have y2 : w4.cell? ⟨g7, 2, none⟩ = some (.slice A n c) := hN4.cell 2
   have f2 : w4.frozen? ⟨g7, 2, none⟩ = false := hN4.frozen 2
   have hg5 : w4.grownBy (w4.setCell ⟨g7, 2, none⟩ (.slice A4 n c4)) (some g7) := only_setCell (World.grownBy.refl _ _) (.inl rfl) _
   have HN5 := Lib.hid (show Blk (w4.setCell ⟨g7, 2, none⟩ (.slice A4 n c4)) g7 29 (SC.cells ⟨ses, base, q, sent, lim, timer, ended⟩ A4 n c4) from by simpa using hN4.set_ 2 (.slice A4 n c4))
   have HZ5 := Lib.hid ((HZ3.out.ca q4).apart hg5 (by omega))
   have HO5 := Lib.hid (Lay.own_same ho4 (fun k e => hg5.block k (Lay.own_base ho4 k e).2 (fun e2 => by injection e2 with e2; have := (Lay.own_base ho4 k e).1; omega)) (fun b hb _ hl => hg5.block b hl (fun e2 => by injection e2 with e2; have := HFR.out b hb.1; omega)))
   have HB5 := Lib.hid (bl_gr (bl_ca HB3.out q4) hg5 (by omega))
   have hs5 := Nat.le_trans q4.size hg5.size
   clear hN4 hg5 ho4 q4 HN3 HZ3 HB3
   go_wp2_with fail
   clear y2 f2
   generalize w4.setCell ⟨g7, 2, none⟩ (.slice A4 n c4) = w5 at *
   refine (HD.out HOK.out w5 g7 w3.heap.size A4 n c4 HB5.out (by omega) hs3 hs5 HN5.out (Lay.own_weak (fun k hk _ => hk.1) HO5.out)).mono ?_
   rintro e w6 ⟨rfl, hch, hy, hz⟩
   have hbase := Lay.own_base HO5.out
   have hb5 := HB5.out
   have hsz5 := hb5.size
   have hxx := HX.out
   have HCH := Lib.hid (show Chg X w w6 from ⟨hch.os.trans hb5.os, hch.tape.trans hb5.tape, hch.output.trans hb5.output, Nat.le_trans hsz5 hch.size, fun b hb hx => (hch.block b (by omega) (fun h => by
    rcases h with h | h | h
    · omega
    · have := hbase b h; omega
    · exact hx h)).trans (hb5.block b hb)⟩)
   have HZ6 := Lib.hid (HZ5.out.chg hch (fun h => by
    rcases h with h | h | h
    · omega
    · have := hbase _ h; omega
    · have := hxx _ h; omega))
   have HY6 := Lib.hid hy
   have HH6 := Lib.hid hz
   clear hbase hb5 hsz5 hxx hch hy hz HX HB5 HZ5 HO5 HD
   by_cases hE : E = 0
   · subst hE
     obtain ⟨A2, n2, c2, hb2, ho2⟩ := HH6.out rfl
     have HG2 := Lib.hid hb2
     have HO2 := Lib.hid ho2
     have hg2 : w.heap.size + 1 ≠ g7 := by omega
     have hob := Lay.own_base ho2
     have HOB := Lib.hid hob
     clear HH6 hb2 ho2 hob
     go_wp2_with (first
      | (refine wpList_load_blk rfl 29 (.tmp 7) rfl g7 rfl 29 _ _ HG2.out rfl rfl senderI ?_)
      | (refine wpList_store_blk rfl 29 (.tmp 4) (.tmp 26) rfl (w.heap.size + 1) 29 _ (s2.cells A2 n2 c2) rfl rfl HZ6.out rfl senderI (by obtain ⟨s1, s2, s3, s4, s5, s6, s7⟩ := s2; simp [Value.oneCell', SC.cells]) ?_; intro wz hZ gz))
     exact bodyPost_ret (res2 Try.results81 rfl rfl hZ Try.underlying29 rfl senderI) rfl (sends_yes HOK.out (HCH.out.grown gz (fun k e => .inr (by injection e with e; omega))) (HY.out _ _ HY6.out gz) (fun h => absurd rfl h)
      (fun _ => ⟨A2, n2, c2, rfl, Lay.own_lessB (Lay.own_weak (fun k hk _ => ⟨Nat.lt_of_lt_of_le hk.1 gz.size, by rcases hk.2 with h | h; exact .inl h; exact .inr (by omega)⟩) (Lay.own_same HO2.out (fun k e => gz.block k (HOB.out k e).2 (fun e2 => by injection e2 with e2; have := (HOB.out k e).1; omega)) (fun b hb _ hl => gz.block b hl (fun e2 => by injection e2 with e2; exact hb.2.elim (fun h => by have := HFR.out b h; omega) (fun h => by omega))))) (by omega)⟩))
   · have HE := Lib.hid hE
     clear HH6
     go_wp2_with (refine wpList_store_blk rfl 29 (.tmp 4) (.tmp 24) rfl (w.heap.size + 1) 29 _ (zeroS.cells none 0 0) rfl rfl HZ6.out rfl senderI (by simp [Value.oneCell']) ?_; intro wz hZ gz)
     exact bodyPost_ret (res2 Try.results81 rfl rfl hZ Try.underlying29 rfl senderI) rfl (sends_yes HOK.out (HCH.out.grown gz (fun k e => .inr (by injection e with e; omega))) (HY.out _ _ HY6.out gz) (fun _ => rfl) (fun h => absurd h HE.out))
 · have hf : sendB ⟨ses, base, q, sent, lim, timer, ended⟩ = false := by simpa using hok
   rw [hf] at HCK
   have HF := Lib.hid hf
   clear hok hf
   go_enter Try.func81, Try.ntmps81
   go_wp2_with fail
   refine HCK.out.mono ?_
   rintro e w2 ⟨rfl, q2⟩
   have HB2 := Lib.hid (bl_ca HB.out q2)
   have HZ2 := Lib.hid (HZ.out.ca q2)
   clear x0 x1 x2 x3 x4 x5 x6 q2 HCK
   go_wp2_with (refine wpList_store_blk rfl 29 (.tmp 4) (.tmp 13) rfl (w.heap.size + 1) 29 _ (zeroS.cells none 0 0) rfl rfl HZ2.out rfl senderI (by simp [Value.oneCell']) ?_; intro wz hZ gz)
   exact bodyPost_ret (res2 Try.results81 rfl rfl hZ Try.underlying29 rfl senderI) rfl (sends_no HF.out rfl (bl_gr HB2.out gz (by omega)))
end Go.Proofs.Ytojghgbaiiajfaa
/- bowspritlaw22.rows. Conditions: the slice reads as these rows. -/
namespace Go.Proofs.Ytojghgbaiiajfaa
open Go.RowKit
def Since (w0 w : World) : Nat → Prop := fun b => w0.heap.size ≤ b ∧ b < w.heap.size
def NoB : Nat → Prop := fun _ => False
theorem lvreps_any {w : World} {F G : Nat → Prop} : ∀ {xs : List VV} {cs : List Value}, LV.reps w F xs cs → LV.reps w G xs cs
 | [], _, h => h
 | _ :: _, _, ⟨a, b, e, ha, hb⟩ => ⟨a, b, e, ha, lvreps_any hb⟩
theorem lvown_any {e : TypeId} {w : World} {B n c : Nat} {F G : Nat → Prop} {A : Option Addr} {xs : List VV} (h : LV.own e w B F A n c xs) : LV.own e w B G A n c xs := by
 obtain ⟨hl, cs, hr, ho⟩ := h
 exact ⟨hl, cs, lvreps_any hr, ho⟩
theorem row_rep {w0 w1 w : World} {A : Option Addr} {k c : Nat} {r : List VV} {A' : Option Addr} {n' c' : Nat} {xs : List (List VV)} (h : LV.own 142 w w1.heap.size NoB A k c r) (ho : LR.own 89 w1 w0.heap.size (Since w0 w1) A' n' c' xs) (h01 : w0.heap.size ≤ w1.heap.size) :
 LR.rep w (fun b => Since w0 w b ∧ (Value.slice A' n' c').ownBlock ≠ some b) r [.slice A k c] := by
 have hc := Lay.own_caps h
 refine ⟨A, k, c, rfl, hc.1, hc.2, Lay.own_rd h (fun b hb hlt => ⟨⟨by omega, hlt⟩, fun e => ?_⟩) (fun b hb => hb.elim)⟩
 obtain ⟨_, _, _, hrow⟩ := ho
 have := (own_base' hrow b e).2
 omega
/-- the first ones shortened -/
def mixV (r : List VV) (j : Nat) : List VV := (r.take j).map VV.short ++ r.drop j
theorem mixV_set {r : List VV} {j : Nat} {v : VV} (h : r[j]? = some v) : (mixV r j).set j v.short = mixV r (j + 1) := by
 obtain ⟨hl, rfl⟩ := List.getElem?_eq_some_iff.1 h
 unfold mixV
 rw [List.take_succ_eq_append_getElem hl, List.map_append, List.set_append_right _ _ (by simp; omega)]
 simp [Nat.min_eq_left (Nat.le_of_lt hl)]
 rw [List.drop_eq_getElem_cons hl, List.set_cons_zero]
theorem mixV_at {r : List VV} {j : Nat} {v : VV} (h : (mixV r j)[j]? = some v) (hj : j < r.length) : r[j]? = some v := by
 unfold mixV at h
 rw [List.getElem?_append_right (by simp; omega), List.length_map, List.length_take, Nat.min_eq_left (by omega), Nat.sub_self] at h
 simpa using h
theorem cell_ca {w w2 : World} {p : Addr} {v : Value} (h : w.cell? p = some v) (hp : p.block < w.heap.size) (q : Below w.heap.size w w2) : w2.cell? p = some v := (q.cell hp).trans h
theorem addr_zero (g i : Nat) : (⟨g, 0, none⟩ : Addr).add i = ⟨g, i, none⟩ := by unfold Addr.add; split <;> simp_all
theorem own_below2 {α : Type} {L : Lay α} {e : TypeId} {w w' : World} {B n c : Nat} {G : Nat → Prop} {A : Option Addr} {xs : List α} (h : L.own e w B G A n c xs) (q : Below w.heap.size w w') : L.own e w' B G A n c xs := Lay.own_below h q
theorem own_frozen {α : Type} {L : Lay α} {e : TypeId} {w : World} {B n c g : Nat} {G : Nat → Prop} {xs : List α} (h : L.own e w B G (some ⟨g, 0, none⟩) n c xs) (i : Nat) : w.frozen? ⟨g, i, none⟩ = false := by
 obtain ⟨_, cs, _, _, h2⟩ := h
 rcases h2 with ⟨e, _⟩ | ⟨g', cap, cur, e, _, hb, _⟩
 · cases e
 · injection e with e
   injection e with e
   injection e with e
   subst e
   exact Blk.frozen hb i
theorem own_some {α : Type} {L : Lay α} {e : TypeId} {w : World} {B n c : Nat} {G : Nat → Prop} {A : Option Addr} {xs : List α} (h : L.own e w B G A n c xs) (hn : 0 < n) : ∃ g, A = some ⟨g, 0, none⟩ ∧ B ≤ g ∧ g < w.heap.size := by
 obtain ⟨_, cs, _, hrow⟩ := h
 obtain ⟨g, cap, hv, h1, h2⟩ := World.ownsRow.form hrow hn
 injection hv with hA
 exact ⟨g, hA, h1, h2⟩
set_option maxRecDepth 100000 in
set_option maxHeartbeats 8000000 in
theorem rowsC_any (F : Nat → Prop) (A : Option Addr) (m c : Nat) (l : List (List VV)) (w : World) (h : LR.rd w F A m l) (hmc : m ≤ c) (hc : c ≤ 9223372036854775807) :
 Calls Try.prog 52 #[.slice A m c] w fun e w' => ∃ A' k c', e = .returned (.slice A' k c') ∧ LR.own 89 w' w.heap.size (Since w w') A' k c' (rowsC l) ∧ Below w.heap.size w w' := by
 have HC := Lib.hid (cutR F A m c 5 l w h hmc hc (by omega))
 rw [show ((5 : Nat) : Int) = 5 from rfl] at HC
 obtain ⟨kk, hkk⟩ : ∃ kk, kk = min m 5 := ⟨_, rfl⟩
 rw [← hkk] at HC
 have hkk5 : kk ≤ 5 := by omega
 obtain ⟨l5, hl5⟩ : ∃ l5, l5 = l.take 5 := ⟨_, rfl⟩
 rw [← hl5] at HC
 rw [show rowsC l = l5.map shortR from by rw [hl5]; rfl]
 clear h hmc hc hkk hl5
 go_enter Try.func52, Try.ntmps52
 go_wp2_with fail
 refine HC.out.mono ?_
 clear HC
 rintro e w1 ⟨A1, c1, rfl, ho1, q1⟩
 have HLN := Lib.hid (Lay.own_len ho1)
 have HR1 := Lib.hid (Lay.own_rd (F := fun _ => True) ho1 (fun _ _ _ => trivial) (fun _ _ _ => trivial))
 have HQ1 := Lib.hid q1
 have hs1 := q1.size
 clear ho1 q1
 go_wp2_with fail
 go_loopg [3, 11] kk (fun g o s wr => ∃ (i c' : Nat) (A' : Option Addr), i + g = kk ∧ s = .int .i64 i ∧ o = .slice A' i c' ∧ LR.own 89 wr w1.heap.size (Since w1 wr) A' i c' ((l5.map shortR).take i) ∧ Below w1.heap.size w1 wr)
 case atStart => exact ⟨0, 0, none, by omega, rfl, rfl, by simpa using Lay.own_nil w1 w1.heap.size, Below.refl _ _⟩
 case round =>
  obtain ⟨i, c', A', hig, rfl, rfl, ho, bb⟩ := hrel
  have HO := Lib.hid ho
  have HBB := Lib.hid bb
  have hsr := bb.size
  by_cases hi : i < kk
  · have hi1 : (i : Int) < (kk : Int) := by omega
    obtain ⟨ad, r, Ar, nr, cr, rfl, hri, hc0, l1, l2, hrd⟩ := LR_at (Lay.rd_below HR1.out bb) hi
    have HS := Lib.hid (show (l5.map shortR).take (i + 1) = (l5.map shortR).take i ++ [shortR r] from by rw [List.take_add_one, List.getElem?_map, hri]; rfl)
    have HCV := Lib.hid (cutVV _ Ar nr cr 17 r wr hrd l1 l2 (by omega))
    rw [show ((17 : Nat) : Int) = 17 from rfl] at HCV
    obtain ⟨k2, hk2⟩ : ∃ k2, k2 = min nr 17 := ⟨_, rfl⟩
    rw [← hk2] at HCV
    have hk17 : k2 ≤ 17 := by omega
    obtain ⟨r7, hr7⟩ : ∃ r7, r7 = r.take 17 := ⟨_, rfl⟩
    rw [← hr7] at HCV
    rw [show shortR r = r7.map VV.short from by rw [hr7]; rfl] at HS
    clear hri hrd l1 l2 hk2 hr7 ho bb
    go_wp2_with fail
    refine HCV.out.mono ?_
    clear HCV hc0
    rintro e w2 ⟨A2, c2, rfl, hov, q2⟩
    have HOV2 := Lib.hid (lvown_any (G := NoB) hov)
    have hl2 := Lay.own_len hov
    have HQ2 := Lib.hid q2
    have HO2 := Lib.hid (Lay.own_below HO.out q2)
    have hs2 := q2.size
    clear hov q2
    go_wp2_with fail
    obtain ⟨gi, rfl⟩ : ∃ g, g = gk := ⟨_, rfl⟩
    obtain ⟨ws, rfl⟩ : ∃ x, x = wr := ⟨_, rfl⟩
    go_loopg [19] k2 (fun g s wr => ∃ j : Nat, j + g = k2 ∧ s = .int .i64 j ∧ LV.own 142 wr ws.heap.size NoB A2 k2 c2 (mixV r7 j) ∧ Below ws.heap.size ws wr)
    case atStart => exact ⟨0, by omega, rfl, by simpa [mixV] using HOV2.out, HQ2.out⟩
    case round =>
     obtain ⟨j, hjg, rfl, hov, hbi⟩ := hrel
     have HOV := Lib.hid hov
     have HBI := Lib.hid hbi
     by_cases hj : j < k2
     · have hj1 : (j : Int) < (k2 : Int) := by omega
       have hwj : IntKind.i64.wrap (j : Int) = (j : Int) := by simp [IntKind.wrap, IntKind.signed, IntKind.bits]; omega
       obtain ⟨g2, rfl, hgb, hg2⟩ := own_some hov (by omega)
       obtain ⟨ad2, v, e, hv, q⟩ := LV_at (Lay.own_rd (F := fun _ => True) hov (fun _ _ _ => trivial) (fun _ _ _ => trivial)) hj
       injection e with e
       subst e
       have e3 : wr.cell? ⟨g2, j * 4 + 3, none⟩ = some (.string v.s) := by
        have := q.c3
        rw [addr_zero] at this
        exact this
       have HFZ := Lib.hid (fun w9 (hT : Below wr.heap.size wr w9) => own_frozen (Lay.own_below hov hT) (j * 4 + 3))
       have HV := Lib.hid hv
       have HV2 := Lib.hid (mixV_at hv (by omega))
       clear hov hbi hv q
       by_cases hsz : v.s.size ≤ 41
       · have hcs : cutS v.s = v.s := if_pos hsz
         have hmn : min (v.s.size : Int) 41 = (v.s.size : Int) := by omega
         go_wp2_with fail
         refine wp_region_ps (S := Seq1 17 (fun _ w' => Below wr.heap.size wr w') (fun _ w' => ∃ w6, Below wr.heap.size wr w6 ∧ w' = w6.setCell ⟨g2, j * 4 + 3, none⟩ (.string v.s))) (by kernel_rfl) ?spswpa ?ppswpa
         case spswpa =>
          exact Seq1.start (by decide) (Below.refl _ _).drew
         refine Pz 0 (some 22) _ rfl rfl (StepS.pure (Seq1.pass (by decide)) rfl fun w9 => by go_simp; try rfl) ?_
         try simp only [Act.put, sA, sZ, sS]
         refine Pz 1 (some 23) _ rfl rfl (StepS.pure (Seq1.pass (by decide)) rfl fun w9 => by go_simp; try rfl) ?_
         try simp only [Act.put, sA, sZ, sS]
         refine Pz 2 (some 24) _ rfl rfl (StepS.pure (Seq1.pass (by decide)) rfl fun w9 => by go_simp; try rfl) ?_
         try simp only [Act.put, sA, sZ, sS]
         refine Pz 3 (some 25) _ rfl rfl (StepS.pure (Seq1.pass (by decide)) rfl fun w9 => by go_simp; try rfl) ?_
         try simp only [Act.put, sA, sZ, sS]
         refine Pz 4 (some 26) _ rfl rfl (StepS.pure (Seq1.pass (by decide)) rfl fun w9 => by go_simp; try rfl) ?_
         try simp only [Act.put, sA, sZ, sS]
         refine Pz 5 (some 27) _ rfl rfl (StepS.pure (Seq1.pass (by decide)) rfl fun w9 => by go_simp; try rfl) ?_
         try simp only [Act.put, sA, sZ, sS]
         refine Pz 6 (some 28) ?uwpa_7 rfl rfl ?ywpa_7 ?rwpa_7
         case ywpa_7 =>
          refine StepS.read [] (by kernel_rfl) (Seq1.pass (by decide)) (by rfl) (fun L9 m9 w9 hSh hAt hDn hS => ?_)
          have hT : Below wr.heap.size wr w9 := Seq1.at1 (reach_no hSh (f := 22) (j := 17) (by kernel_rfl) hDn) hS
          have x3 : w9.cell? ⟨g2, j * 4 + 3, none⟩ = some (.string v.s) := cell_ca e3 hg2 hT
          clear hT hS
          go_simp
          try rfl
         try simp only [Act.put, sA, sZ, sS]
         refine Pz 7 (some 29) _ rfl rfl (StepS.pure (Seq1.pass (by decide)) rfl fun w9 => by go_simp; try rfl) ?_
         try simp only [Act.put, sA, sZ, sS]
         refine Pz 8 (some 30) _ rfl rfl (StepS.pure (Seq1.pass (by decide)) rfl fun w9 => by go_simp; try rfl) ?_
         try simp only [Act.put, sA, sZ, sS]
         refine Pz 9 (some 31) _ rfl rfl (StepS.pure (Seq1.pass (by decide)) rfl fun w9 => by go_simp; try rfl) ?_
         try simp only [Act.put, sA, sZ, sS]
         refine Pz 10 (some 32) _ rfl rfl (StepS.pure (Seq1.pass (by decide)) rfl fun w9 => by go_simp; try rfl) ?_
         try simp only [Act.put, sA, sZ, sS]
         refine Pz 11 (some 33) ?uwpa_12 rfl rfl ?ywpa_12 ?rwpa_12
         case ywpa_12 =>
          refine StepS.read [] (by kernel_rfl) (Seq1.pass (by decide)) (by rfl) (fun L9 m9 w9 hSh hAt hDn hS => ?_)
          have hT : Below wr.heap.size wr w9 := Seq1.at1 (reach_no hSh (f := 22) (j := 17) (by kernel_rfl) hDn) hS
          have x3 : w9.cell? ⟨g2, j * 4 + 3, none⟩ = some (.string v.s) := cell_ca e3 hg2 hT
          clear hT hS
          go_simp
          try rfl
         try simp only [Act.put, sA, sZ, sS]
         refine Pz 12 (some 34) _ rfl rfl (StepS.pure (Seq1.pass (by decide)) rfl fun w9 => by go_simp; try rfl) ?_
         try simp only [Act.put, sA, sZ, sS]
         refine Pz 13 (some 35) _ rfl rfl (StepS.pure (Seq1.pass (by decide)) rfl fun w9 => by go_simp; try rfl) ?_
         try simp only [Act.put, sA, sZ, sS]
         refine Pz 14 (some 36) _ rfl rfl (StepS.pure (Seq1.pass (by decide)) rfl fun w9 => by go_simp; try rfl) ?_
         try simp only [Act.put, sA, sZ, sS]
         refine Pz 15 (some 37) _ rfl rfl (StepS.pure (Seq1.pass (by decide)) rfl fun w9 => by go_simp; try rfl) ?_
         try simp only [Act.put, sA, sZ, sS]
         refine Pz 16 (some 38) _ rfl rfl (StepS.pure (Seq1.pass (by decide)) rfl fun w9 => by go_simp; try rfl) ?_
         try simp only [Act.put, sA, sZ, sS]
         refine Pz 17 none undef rfl rfl ?ywpa_18 ?rwpa_18
         case ywpa_18 =>
          refine StepS.store [] (by kernel_rfl) (by rfl) (fun L9 m9 w9 hSh hAt hDn hS => ?_)
          have hT : Below wr.heap.size wr w9 := Seq1.at1 hDn hS
          have x3 : w9.cell? ⟨g2, j * 4 + 3, none⟩ = some (.string v.s) := cell_ca e3 hg2 hT
          have f3 : w9.frozen? ⟨g2, j * 4 + 3, none⟩ = false := HFZ.out w9 hT
          refine ⟨w9.setCell ⟨g2, j * 4 + 3, none⟩ (.string v.s), ?_, Seq1.set1 ⟨w9, hT, rfl⟩⟩
          clear hT hS
          go_simp
         try simp only [Act.put]
         refine Ps.done (by kernel_rfl) (fun wpa hS => ?_) _
         obtain ⟨w6, hT, e6⟩ := Seq1.fin (by rfl) hS
         clear hS
         have hset := Lay.own_part (L := LV) (j := 3) (vs := [.string v.s]) (x := v.short) (Lay.own_below HOV.out hT) HV.out (by show 3 + 1 ≤ 4; decide) (fun ds hds => by have h9 : ds = [.int .i64 v.k, .int .i64 v.n, .int .u64 v.u, .string v.s] := hds; subst h9; show _ = [_, _, _, _]; simp [VV.short, hcs])
         have e7 : w6.setCells g2 (j * LV.size + 3) [.string v.s] = w6.setCell ⟨g2, j * 4 + 3, none⟩ (.string v.s) := rfl
         rw [e7, ← e6] at hset
         have HOV7 := Lib.hid hset.1
         have HB7 := Lib.hid ((bl_ca HBI.out hT).grown hset.2 (by have := (bl_ca HBI.out hT).size; omega) (fun k e => by injection e with e; omega))
         clear hset e6 hT e7
         obtain ⟨w7, rfl⟩ : ∃ x, x = wpa := ⟨_, rfl⟩
         rw [mixV_set HV2.out] at HOV7
         go_wp2
         go_roundg (gk - 1)
         · exact ⟨j + 1, by omega, by go_num, HOV7.out, HB7.out⟩
         · omega
       · have hcs : cutS v.s = v.s.extract 0 41 := if_neg hsz
         have hmn : min (v.s.size : Int) 41 = 41 := by omega
         have hle : (41 : Int) ≤ (v.s.size : Int) := by omega
         go_wp2_with fail
         refine wp_region_ps (S := Seq1 17 (fun _ w' => Below wr.heap.size wr w') (fun _ w' => ∃ w6, Below wr.heap.size wr w6 ∧ w' = w6.setCell ⟨g2, j * 4 + 3, none⟩ (.string (v.s.extract 0 41)))) (by kernel_rfl) ?spswpb ?ppswpb
         case spswpb =>
          exact Seq1.start (by decide) (Below.refl _ _).drew
         refine Pz 0 (some 22) _ rfl rfl (StepS.pure (Seq1.pass (by decide)) rfl fun w9 => by go_simp; try rfl) ?_
         try simp only [Act.put, sA, sZ, sS]
         refine Pz 1 (some 23) _ rfl rfl (StepS.pure (Seq1.pass (by decide)) rfl fun w9 => by go_simp; try rfl) ?_
         try simp only [Act.put, sA, sZ, sS]
         refine Pz 2 (some 24) _ rfl rfl (StepS.pure (Seq1.pass (by decide)) rfl fun w9 => by go_simp; try rfl) ?_
         try simp only [Act.put, sA, sZ, sS]
         refine Pz 3 (some 25) _ rfl rfl (StepS.pure (Seq1.pass (by decide)) rfl fun w9 => by go_simp; try rfl) ?_
         try simp only [Act.put, sA, sZ, sS]
         refine Pz 4 (some 26) _ rfl rfl (StepS.pure (Seq1.pass (by decide)) rfl fun w9 => by go_simp; try rfl) ?_
         try simp only [Act.put, sA, sZ, sS]
         refine Pz 5 (some 27) _ rfl rfl (StepS.pure (Seq1.pass (by decide)) rfl fun w9 => by go_simp; try rfl) ?_
         try simp only [Act.put, sA, sZ, sS]
         refine Pz 6 (some 28) ?uwpb_25 rfl rfl ?ywpb_25 ?rwpb_25
         case ywpb_25 =>
          refine StepS.read [] (by kernel_rfl) (Seq1.pass (by decide)) (by rfl) (fun L9 m9 w9 hSh hAt hDn hS => ?_)
          have hT : Below wr.heap.size wr w9 := Seq1.at1 (reach_no hSh (f := 22) (j := 17) (by kernel_rfl) hDn) hS
          have x3 : w9.cell? ⟨g2, j * 4 + 3, none⟩ = some (.string v.s) := cell_ca e3 hg2 hT
          clear hT hS
          go_simp
          try rfl
         try simp only [Act.put, sA, sZ, sS]
         refine Pz 7 (some 29) _ rfl rfl (StepS.pure (Seq1.pass (by decide)) rfl fun w9 => by go_simp; try rfl) ?_
         try simp only [Act.put, sA, sZ, sS]
         refine Pz 8 (some 30) _ rfl rfl (StepS.pure (Seq1.pass (by decide)) rfl fun w9 => by go_simp; try rfl) ?_
         try simp only [Act.put, sA, sZ, sS]
         refine Pz 9 (some 31) _ rfl rfl (StepS.pure (Seq1.pass (by decide)) rfl fun w9 => by go_simp; try rfl) ?_
         try simp only [Act.put, sA, sZ, sS]
         refine Pz 10 (some 32) _ rfl rfl (StepS.pure (Seq1.pass (by decide)) rfl fun w9 => by go_simp; try rfl) ?_
         try simp only [Act.put, sA, sZ, sS]
         refine Pz 11 (some 33) ?uwpb_30 rfl rfl ?ywpb_30 ?rwpb_30
         case ywpb_30 =>
          refine StepS.read [] (by kernel_rfl) (Seq1.pass (by decide)) (by rfl) (fun L9 m9 w9 hSh hAt hDn hS => ?_)
          have hT : Below wr.heap.size wr w9 := Seq1.at1 (reach_no hSh (f := 22) (j := 17) (by kernel_rfl) hDn) hS
          have x3 : w9.cell? ⟨g2, j * 4 + 3, none⟩ = some (.string v.s) := cell_ca e3 hg2 hT
          clear hT hS
          go_simp
          try rfl
         try simp only [Act.put, sA, sZ, sS]
         refine Pz 12 (some 34) _ rfl rfl (StepS.pure (Seq1.pass (by decide)) rfl fun w9 => by go_simp; try rfl) ?_
         try simp only [Act.put, sA, sZ, sS]
         refine Pz 13 (some 35) _ rfl rfl (StepS.pure (Seq1.pass (by decide)) rfl fun w9 => by go_simp; try rfl) ?_
         try simp only [Act.put, sA, sZ, sS]
         refine Pz 14 (some 36) _ rfl rfl (StepS.pure (Seq1.pass (by decide)) rfl fun w9 => by go_simp; try rfl) ?_
         try simp only [Act.put, sA, sZ, sS]
         refine Pz 15 (some 37) _ rfl rfl (StepS.pure (Seq1.pass (by decide)) rfl fun w9 => by go_simp; try rfl) ?_
         try simp only [Act.put, sA, sZ, sS]
         refine Pz 16 (some 38) _ rfl rfl (StepS.pure (Seq1.pass (by decide)) rfl fun w9 => by go_simp; try rfl) ?_
         try simp only [Act.put, sA, sZ, sS]
         refine Pz 17 none undef rfl rfl ?ywpb_36 ?rwpb_36
         case ywpb_36 =>
          refine StepS.store [] (by kernel_rfl) (by rfl) (fun L9 m9 w9 hSh hAt hDn hS => ?_)
          have hT : Below wr.heap.size wr w9 := Seq1.at1 hDn hS
          have x3 : w9.cell? ⟨g2, j * 4 + 3, none⟩ = some (.string v.s) := cell_ca e3 hg2 hT
          have f3 : w9.frozen? ⟨g2, j * 4 + 3, none⟩ = false := HFZ.out w9 hT
          refine ⟨w9.setCell ⟨g2, j * 4 + 3, none⟩ (.string (v.s.extract 0 41)), ?_, Seq1.set1 ⟨w9, hT, rfl⟩⟩
          clear hT hS
          go_simp
         try simp only [Act.put]
         refine Ps.done (by kernel_rfl) (fun wpb hS => ?_) _
         obtain ⟨w6, hT, e6⟩ := Seq1.fin (by rfl) hS
         clear hS
         have hset := Lay.own_part (L := LV) (j := 3) (vs := [.string (v.s.extract 0 41)]) (x := v.short) (Lay.own_below HOV.out hT) HV.out (by show 3 + 1 ≤ 4; decide) (fun ds hds => by have h9 : ds = [.int .i64 v.k, .int .i64 v.n, .int .u64 v.u, .string v.s] := hds; subst h9; show _ = [_, _, _, _]; simp [VV.short, hcs])
         have e7 : w6.setCells g2 (j * LV.size + 3) [.string (v.s.extract 0 41)] = w6.setCell ⟨g2, j * 4 + 3, none⟩ (.string (v.s.extract 0 41)) := rfl
         rw [e7, ← e6] at hset
         have HOV7 := Lib.hid hset.1
         have HB7 := Lib.hid ((bl_ca HBI.out hT).grown hset.2 (by have := (bl_ca HBI.out hT).size; omega) (fun k e => by injection e with e; omega))
         clear hset e6 hT e7
         obtain ⟨w7, rfl⟩ : ∃ x, x = wpb := ⟨_, rfl⟩
         rw [mixV_set HV2.out] at HOV7
         go_wp2
         go_roundg (gk - 1)
         · exact ⟨j + 1, by omega, by go_num, HOV7.out, HB7.out⟩
         · omega
     · obtain rfl : j = k2 := by omega
       have hj1 : (j : Int) ≤ (j : Int) := by omega
       rw [show mixV r7 j = r7.map VV.short from by unfold mixV; rw [← hl2, List.take_length, List.drop_length, List.append_nil]] at HOV
       have hrep := row_rep HOV.out HO.out hsr
       have hs3 := hbi.size
       have ho2 := Lay.own_weak (G' := Since w1 wr) (fun b hb _ => ⟨hb.1, Nat.lt_of_lt_of_le hb.2 hs3⟩) (own_below2 HO.out hbi)
       have ho3 := Lay.own_alloc ho2 (.cells #[.slice A2 j c2] 89)
       have hb2 := Blk.new wr 89 #[.slice A2 j c2]
       have hrep3 := LR.keep (fun b hb hlt => Below.heap_alloc wr (.cells #[.slice A2 j c2] 89) b hlt) hrep
       have b3 := bl_al (HBB.out.trans (hbi.mono hsr)) (.cells #[.slice A2 j c2] 89)
       have hszz := b3.size
       have hGG : ∀ b, Since w1 wr b → b < (wr.alloc (.cells #[.slice A2 j c2] 89)).heap.size := fun b hb => by have := hb.2; simp only [World.size_alloc]; omega
       clear hrep ho2 hbi HOV
       go_wp2_with (at_builtin; refine wpList_appL (L := LR) rfl (.tmp 40) (.tmp 42) 43 rfl _ 1 24 Try.underlying43 infoR rfl rfl (by omega) w1.heap.size (Since w1 wr) A' i c' ((l5.map shortR).take i) wr.heap.size 1 89 _ (r7.map VV.short) rfl rfl ho3 hb2 hrep3 hGG (by omega) (by simp only [maxLen]; omega) hszz ?_; intro A4 c4 w4 ho4 b4)
       have ho5 := Lay.own_weak (G' := Since w1 w4) (fun b hb hlt => ⟨hb.1, hlt⟩) ho4
       go_roundg (gi - 1)
       · exact ⟨i + 1, c4, A4, by omega, by go_num, rfl, by rw [HS.out]; exact ho5, b3.trans b4⟩
       · omega
  · obtain rfl : i = kk := by omega
    have hi1 : (i : Int) ≤ (i : Int) := by omega
    have e : (l5.map shortR).take i = l5.map shortR := List.take_of_length_le (by rw [List.length_map, HLN.out]; exact Nat.le_refl _)
    rw [e] at ho
    have HF := Lib.hid (Lay.own_lessB (Lay.own_weak (G' := Since w wr) (fun b hb _ => ⟨by have := hb.1; omega, hb.2⟩) ho) hs1)
    have HBF := Lib.hid (bl_ca HQ1.out bb)
    clear e ho bb
    go_wp2
    go_ret
    exact ⟨A', i, c', rfl, HF.out, HBF.out⟩
end Go.Proofs.Ytojghgbaiiajfaa
