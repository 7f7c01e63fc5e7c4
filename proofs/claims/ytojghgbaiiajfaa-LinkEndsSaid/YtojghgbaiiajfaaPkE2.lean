/- Arguments, by what they are made of: what an argument's cells hold. Conditions: none. -/
import Derived.Test.YtojghgbaiiajfaaPkE1
import Derived.ProofKit
import Derived.OpenShut
import Derived.ShutString
import Derived.ChangeOld
import Derived.Deep.Slices
import Derived.ChangeSame
import Derived.Lib.MinMax
import Derived.Deep.LoopGhost
import Derived.Shelf.Abstract
import Derived.BigQuiet
import Derived.Deep.QuietTactic
namespace Go.Proofs.Ytojghgbaiiajfaa
open Go.ChangeShapes Go.WideShapes Go.ChangeAt Go.RowKit Go.Deep
def AllB : Nat → Prop := fun _ => True
/-- whatever is laid of type t reads as such data -/
def Opens (P : Program) {α : Type} (t : TypeId) (L : Lay α) (G : α → Prop) : Prop :=
 P.cellsOf t = L.size ∧ ∀ {H : Type} (enc : TypeId × Value → H) (w : World) (fuel : Nat) (cs : List Value) (x : DataW H × List MemPlace),
  DataW.trod enc P w 0 (fun _ => true) true fuel t cs = some x → ∃ a, L.rep w AllB a cs ∧ G a
section
variable {P : Program} {t : TypeId}
theorem opens_int {k : IntKind} (ht : P.underlying t = some (.int k)) (hc : P.cellsOf t = 1) : Opens P t (Lay.cell (Value.int k) (fun _ => rfl)) (fun n => (Lit.int k n).wf = true) :=
 ⟨hc, fun enc w fuel cs x h => by obtain ⟨n, e, _, wf⟩ := DataW.trod_int ht h; exact ⟨n, e, wf⟩⟩
theorem opens_bool (ht : P.underlying t = some .bool) (hc : P.cellsOf t = 1) : Opens P t (Lay.cell Value.bool (fun _ => rfl)) (fun _ => True) :=
 ⟨hc, fun enc w fuel cs x h => by obtain ⟨n, e, _⟩ := DataW.trod_bool ht h; exact ⟨n, e, trivial⟩⟩
theorem opens_str (ht : P.underlying t = some .string) (hc : P.cellsOf t = 1) : Opens P t (Lay.cell Value.string (fun _ => rfl)) (fun s => s.size ≤ maxLen) :=
 ⟨hc, fun enc w fuel cs x h => by obtain ⟨n, e, _, wf⟩ := DataW.trod_string ht h; exact ⟨n, e, wf⟩⟩
theorem lays_of {α : Type} {L : Lay α} {w : World} {F : Nat → Prop} {G : α → Prop} {a : Addr} : ∀ (n : Nat), (∀ i, i < n → ∃ x cs, L.rep w F x cs ∧ G x ∧ ∀ j u, cs[j]? = some u → w.cell? (a.add (i * L.size + j)) = some u) →
 ∃ xs cs, xs.length = n ∧ L.reps w F xs cs ∧ (∀ x ∈ xs, G x) ∧ ∀ j u, cs[j]? = some u → w.cell? (a.add j) = some u
 | 0, _ => ⟨[], [], rfl, rfl, by simp, by simp⟩
 | n + 1, h => by
  obtain ⟨xs, cs, hl, hr, hg, hc⟩ := lays_of n (fun i hi => h i (by omega))
  obtain ⟨x, ds, hx, gx, hd⟩ := h n (by omega)
  refine ⟨xs ++ [x], cs ++ ds, by simp [hl], Lay.reps_append hr (Lay.reps_single hx), ?_, fun j u hu => ?_⟩
  · intro y hy
    rcases List.mem_append.1 hy with hy | hy
    · exact hg y hy
    · rw [List.mem_singleton.1 hy]; exact gx
  · have hcl := Lay.reps_len hr
    rw [hl] at hcl
    rcases Nat.lt_or_ge j cs.length with hj | hj
    · rw [List.getElem?_append_left hj] at hu; exact hc j u hu
    · rw [List.getElem?_append_right hj] at hu
      have := hd _ u hu
      rwa [show n * L.size + (j - cs.length) = j from by rw [hcl] at hj ⊢; omega] at this
theorem cells_block {w : World} {p : Addr} {v : Value} (h : w.cell? p = some v) : p.block < w.heap.size := by
 unfold World.cell? at h
 rcases Nat.lt_or_ge p.block w.heap.size with h' | h'
 · exact h'
 · rw [Array.getElem?_eq_none h'] at h; cases h
theorem opens_slice {α : Type} {L : Lay α} {G : α → Prop} {e : TypeId} (ht : P.underlying t = some (.slice e)) (hc : P.cellsOf t = 1) (hp : 0 < L.size) (ho : Opens P e L G) :
 Opens P t L.slice (fun xs => ∀ x ∈ xs, G x) := by
 refine ⟨hc, fun enc w fuel cs x h => ?_⟩
 obtain ⟨hs, ho⟩ := ho
 rcases open_slice ht h with ⟨hcs, _⟩ | ⟨a, len, cap, m, n, D, Pl, hcs, _, hl, hm, hmm, _, hi⟩
 · exact ⟨[], ⟨none, 0, 0, hcs, Nat.le_refl _, by omega, Lay.rd_nil _⟩, by simp⟩
 · simp only [if_true] at hmm
   obtain ⟨xs, cs', hxl, hr, hg, hcc⟩ := lays_of (L := L) (w := w) (F := AllB) (G := G) (a := a) len (fun i hil => by
    obtain ⟨cs', h1, h2⟩ := hi i (by omega)
    obtain ⟨y, hy, gy⟩ := ho enc w n cs' _ h2
    obtain ⟨_, hlen, hat⟩ := World.cells?_some h1
    refine ⟨y, cs', hy, gy, fun j u hu => ?_⟩
    have hj : j < cs'.length := (List.getElem?_eq_some_iff.1 hu).1
    rw [← hs, ← Go.Deep.add_add, hat j (by omega), hu])
   refine ⟨xs, ⟨some a, len, cap, hcs, hl, hm, hxl, cs', hr, fun hn => ⟨a, rfl, ?_, trivial, hcc⟩⟩, hg⟩
   have hcl := Lay.reps_len hr
   have h0 : cs'[0]? = some (cs'[0]'(by rw [hcl, hxl]; exact Nat.mul_pos hn hp)) := List.getElem?_eq_getElem _
   have := cells_block (hcc 0 _ h0)
   rwa [show (a.add 0).block = a.block from by unfold Addr.add; split <;> rfl] at this
/-- the fields from one on -/
def OpensAt (P : Program) {α : Type} (fs : Array Field) (off : Nat) (L : Lay α) (G : α → Prop) : Prop :=
 ∀ {H : Type} (enc : TypeId × Value → H) (w : World) (fuel : Nat) (cs : List Value), cs.length = off + L.size →
  (∀ (j : Nat) (f : Field), fs[j]? = some f → ∃ x, DataW.trod enc P w 0 (fun _ => true) true fuel f.type ((cs.drop f.offset).take (P.cellsOf f.type)) = some x) → ∃ a, L.rep w AllB a (cs.drop off) ∧ G a
theorem opensAt_last {α : Type} {L : Lay α} {G : α → Prop} {fs : Array Field} {off : Nat} (i : Nat) (ft : TypeId) (hf : (fs[i]?).map (fun f => (f.type, f.offset)) = some (ft, off)) (ho : Opens P ft L G) : OpensAt P fs off L G := by
 intro H enc w fuel cs hl h
 obtain ⟨f, hfi, hfe⟩ := Option.map_eq_some_iff.1 hf
 injection hfe with e1 e2
 obtain ⟨x, hx⟩ := h i f hfi
 rw [e1, e2, ho.1, List.take_of_length_le (by rw [List.length_drop]; omega)] at hx
 exact ho.2 enc w fuel _ x hx
theorem opensAt_cons {α β : Type} {L : Lay α} {G : α → Prop} {M : Lay β} {G' : β → Prop} {fs : Array Field} {off : Nat} (i : Nat) (ft : TypeId) (hf : (fs[i]?).map (fun f => (f.type, f.offset)) = some (ft, off)) (ho : Opens P ft L G) (h2 : OpensAt P fs (off + L.size) M G') :
 OpensAt P fs off (L.pair M) (fun p => G p.1 ∧ G' p.2) := by
 intro H enc w fuel cs hl h
 obtain ⟨f, hfi, hfe⟩ := Option.map_eq_some_iff.1 hf
 injection hfe with e1 e2
 obtain ⟨x, hx⟩ := h i f hfi
 rw [e1, e2, ho.1] at hx
 obtain ⟨a, ra, ga⟩ := ho.2 enc w fuel _ x hx
 obtain ⟨b, rb, gb⟩ := h2 enc w fuel cs (by rw [hl]; exact (Nat.add_assoc _ _ _).symm) h
 refine ⟨(a, b), ⟨_, _, ?_, ra, rb⟩, ga, gb⟩
 rw [← List.drop_drop]
 exact (List.take_append_drop _ _).symm
theorem opens_struct {α : Type} {L : Lay α} {G : α → Prop} {fs : Array Field} (ht : P.underlying t = some (.struct fs)) (hc : P.cellsOf t = L.size) (h : OpensAt P fs 0 L G) : Opens P t L G := by
 refine ⟨hc, fun enc w fuel cs x hx => ?_⟩
 obtain ⟨xs, n, _, _, hl, hxl, hf⟩ := DataW.trod_struct ht hx
 have := h enc w n cs (by rw [hl, hc, Nat.zero_add]) (fun j f hj => by
  have hjl : j < fs.size := (Array.getElem?_eq_some_iff.1 hj).1
  exact ⟨xs[j]'(by omega), (hf j f hj).trans (List.getElem?_eq_getElem _)⟩)
 simpa using this
theorem opens_as {α β : Type} {L : Lay α} {G : α → Prop} {M : Lay β} {G' : β → Prop} (h : Opens P t L G) (hs : L.size = M.size) (hm : ∀ w a cs, L.rep w AllB a cs → G a → ∃ b, M.rep w AllB b cs ∧ G' b) : Opens P t M G' :=
 ⟨h.1.trans hs, fun enc w fuel cs x hx => by obtain ⟨a, ra, ga⟩ := h.2 enc w fuel cs x hx; exact hm w a cs ra ga⟩
/-- an argument that is a slice -/
theorem open_arg {α : Type} {L : Lay α} {G : List α → Prop} (ho : Opens P t L.slice G) {H : Type} {enc : TypeId × Value → H} {W : World} {A : Option Addr} {n c : Nat} {d : DataW H} {p : List MemPlace}
 (h : DataW.Trod enc P W 0 (fun _ => true) true t (.slice A n c) d p) : ∃ xs, L.rd W AllB A n xs ∧ G xs ∧ n ≤ c ∧ c ≤ 9223372036854775807 := by
 obtain ⟨fuel, hf⟩ := h
 obtain ⟨xs, ⟨A', n', c', e, h1, h2, h3⟩, g⟩ := ho.2 enc W fuel _ _ hf
 simp [Value.cells] at e
 obtain ⟨rfl, rfl, rfl⟩ := e
 exact ⟨xs, h3, g, h1, h2⟩
end
end Go.Proofs.Ytojghgbaiiajfaa
/- Values, rows, batches, packets and the ends of a link in memory. Conditions: none. -/
namespace Go.Proofs.Ytojghgbaiiajfaa
open Go.RowKit
theorem addr_more (a : Addr) (i j : Nat) (hj : 0 < j) : a.add (i + j) = ⟨(a.add i).block, (a.add i).off + j, none⟩ := by
 unfold Addr.add
 by_cases h : i = 0
 · subst h; simp; omega
 · simp [h]; omega
def LV : Lay VV where
 size := 4
 rep := fun _ _ v cs => cs = [.int .i64 v.k, .int .i64 v.n, .int .u64 v.u, .string v.s]
 len := fun h => by subst h; rfl
 one := fun h u hu => by subst h; simp at hu; rcases hu with rfl | rfl | rfl | rfl <;> rfl
 keep := fun _ h => h
 weak := fun _ h => h
/-- a value lies at this place -/
structure SV (w : World) (p : Addr) (v : VV) : Prop where
 c0 : w.cell? p = some (.int .i64 v.k)
 c1 : w.cell? ⟨p.block, p.off + 1, none⟩ = some (.int .i64 v.n)
 c2 : w.cell? ⟨p.block, p.off + 2, none⟩ = some (.int .u64 v.u)
 c3 : w.cell? ⟨p.block, p.off + 3, none⟩ = some (.string v.s)
theorem LV_at {w : World} {F : Nat → Prop} {A : Option Addr} {n i : Nat} {xs : List VV} (h : LV.rd w F A n xs) (hi : i < n) : ∃ ad x, A = some ad ∧ xs[i]? = some x ∧ SV w (ad.add (i * 4)) x := by
 obtain ⟨ad, x, cs, e, hx, _, _, rfl, hc⟩ := Lay.rd_at h hi
 refine ⟨ad, x, e, hx, ⟨hc 0 _ rfl, ?_, ?_, ?_⟩⟩
 · rw [← addr_more _ _ 1 (by omega)]; exact hc 1 _ rfl
 · rw [← addr_more _ _ 2 (by omega)]; exact hc 2 _ rfl
 · rw [← addr_more _ _ 3 (by omega)]; exact hc 3 _ rfl
abbrev LR : Lay (List VV) := LV.slice
theorem LR_at {w : World} {F : Nat → Prop} {A : Option Addr} {n i : Nat} {xs : List (List VV)} (h : LR.rd w F A n xs) (hi : i < n) :
 ∃ ad r B k c, A = some ad ∧ xs[i]? = some r ∧ w.cell? (ad.add i) = some (.slice B k c) ∧ k ≤ c ∧ c ≤ 9223372036854775807 ∧ LV.rd w F B k r := by
 obtain ⟨ad, r, cs, e, hr, hb, _, ⟨B, k, c, rfl, h1, h2, h3⟩, hc⟩ := Lay.rd_at h hi
 refine ⟨ad, r, B, k, c, e, hr, ?_, h1, h2, h3⟩
 have := hc 0 _ rfl
 rwa [show i * LR.size + 0 = i from by show i * 1 + 0 = i; omega] at this
/-- a batch -/
structure BC where
 rows : List (List VV)
 fin : Bool
 cnt : Int
def LB3 : Lay BC where
 size := 3
 rep := fun w F b cs => ∃ A n c, cs = [.slice A n c, .bool b.fin, .int .u64 b.cnt] ∧ n ≤ c ∧ c ≤ 9223372036854775807 ∧ LR.rd w F A n b.rows
 len := fun h => by obtain ⟨A, n, c, rfl, _⟩ := h; rfl
 one := fun h u hu => by obtain ⟨A, n, c, rfl, _⟩ := h; simp at hu; rcases hu with rfl | rfl | rfl <;> rfl
 keep := fun hk h => by obtain ⟨A, n, c, e, h1, h2, hr⟩ := h; exact ⟨A, n, c, e, h1, h2, Lay.rd_keep hk hr⟩
 weak := fun hk h => by obtain ⟨A, n, c, e, h1, h2, hr⟩ := h; exact ⟨A, n, c, e, h1, h2, Lay.rd_weak hk hr⟩
/-- a batch lies at this place -/
structure SB (w : World) (F : Nat → Prop) (p : Addr) (b : BC) (B : Option Addr) (n c : Nat) : Prop where
 c0 : w.cell? p = some (.slice B n c)
 c1 : w.cell? ⟨p.block, p.off + 1, none⟩ = some (.bool b.fin)
 c2 : w.cell? ⟨p.block, p.off + 2, none⟩ = some (.int .u64 b.cnt)
 nc : n ≤ c
 cm : c ≤ 9223372036854775807
 rd : LR.rd w F B n b.rows
theorem LB3_at {w : World} {F : Nat → Prop} {A : Option Addr} {n i : Nat} {xs : List BC} (h : LB3.rd w F A n xs) (hi : i < n) : ∃ ad b B k c, A = some ad ∧ xs[i]? = some b ∧ SB w F (ad.add (i * 3)) b B k c := by
 obtain ⟨ad, b, cs, e, hx, _, _, ⟨B, k, c, rfl, h1, h2, hr⟩, hc⟩ := Lay.rd_at h hi
 refine ⟨ad, b, B, k, c, e, hx, ⟨hc 0 _ rfl, ?_, ?_, h1, h2, hr⟩⟩
 · rw [← addr_more _ _ 1 (by omega)]; exact hc 1 _ rfl
 · rw [← addr_more _ _ 2 (by omega)]; exact hc 2 _ rfl
/-- a batch that came ahead -/
structure HC where
 seq : Int
 b : BC
def LH4 : Lay HC where
 size := 4
 rep := fun w F h cs => ∃ A n c, cs = [.int .u64 h.seq, .slice A n c, .bool h.b.fin, .int .u64 h.b.cnt] ∧ n ≤ c ∧ c ≤ 9223372036854775807 ∧ LR.rd w F A n h.b.rows
 len := fun h => by obtain ⟨A, n, c, rfl, _⟩ := h; rfl
 one := fun h u hu => by obtain ⟨A, n, c, rfl, _⟩ := h; simp at hu; rcases hu with rfl | rfl | rfl | rfl <;> rfl
 keep := fun hk h => by obtain ⟨A, n, c, e, h1, h2, hr⟩ := h; exact ⟨A, n, c, e, h1, h2, Lay.rd_keep hk hr⟩
 weak := fun hk h => by obtain ⟨A, n, c, e, h1, h2, hr⟩ := h; exact ⟨A, n, c, e, h1, h2, Lay.rd_weak hk hr⟩
structure SH (w : World) (F : Nat → Prop) (p : Addr) (h : HC) (B : Option Addr) (n c : Nat) : Prop where
 c0 : w.cell? p = some (.int .u64 h.seq)
 c1 : w.cell? ⟨p.block, p.off + 1, none⟩ = some (.slice B n c)
 c2 : w.cell? ⟨p.block, p.off + 2, none⟩ = some (.bool h.b.fin)
 c3 : w.cell? ⟨p.block, p.off + 3, none⟩ = some (.int .u64 h.b.cnt)
 nc : n ≤ c
 cm : c ≤ 9223372036854775807
 rd : LR.rd w F B n h.b.rows
theorem LH4_at {w : World} {F : Nat → Prop} {A : Option Addr} {n i : Nat} {xs : List HC} (h : LH4.rd w F A n xs) (hi : i < n) : ∃ ad b B k c, A = some ad ∧ xs[i]? = some b ∧ SH w F (ad.add (i * 4)) b B k c := by
 obtain ⟨ad, b, cs, e, hx, _, _, ⟨B, k, c, rfl, h1, h2, hr⟩, hc⟩ := Lay.rd_at h hi
 refine ⟨ad, b, B, k, c, e, hx, ⟨hc 0 _ rfl, ?_, ?_, ?_, h1, h2, hr⟩⟩
 · rw [← addr_more _ _ 1 (by omega)]; exact hc 1 _ rfl
 · rw [← addr_more _ _ 2 (by omega)]; exact hc 2 _ rfl
 · rw [← addr_more _ _ 3 (by omega)]; exact hc 3 _ rfl
/-- a packet -/
structure PK where
 kind : Int
 ses : Int
 seq : Int
 lim : Int
 b : BC
def LP7 : Lay PK where
 size := 7
 rep := fun w F p cs => ∃ A n c, cs = [.int .i64 p.kind, .int .u32 p.ses, .int .u64 p.seq, .int .u64 p.lim, .slice A n c, .bool p.b.fin, .int .u64 p.b.cnt] ∧ n ≤ c ∧ c ≤ 9223372036854775807 ∧ LR.rd w F A n p.b.rows
 len := fun h => by obtain ⟨A, n, c, rfl, _⟩ := h; rfl
 one := fun h u hu => by obtain ⟨A, n, c, rfl, _⟩ := h; simp at hu; rcases hu with rfl | rfl | rfl | rfl | rfl | rfl | rfl <;> rfl
 keep := fun hk h => by obtain ⟨A, n, c, e, h1, h2, hr⟩ := h; exact ⟨A, n, c, e, h1, h2, Lay.rd_keep hk hr⟩
 weak := fun hk h => by obtain ⟨A, n, c, e, h1, h2, hr⟩ := h; exact ⟨A, n, c, e, h1, h2, Lay.rd_weak hk hr⟩
/-- a sender -/
structure SC where
 ses : Int
 base : Int
 q : List BC
 sent : Int
 lim : Int
 timer : Int
 ended : Bool
/-- a receiver -/
structure RC where
 ses : Int
 next : Int
 ahead : List HC
 buf : List BC
 room : Int
 over : Bool
abbrev BC.cells (b : BC) (A : Option Addr) (n c : Nat) : Array Value := #[.slice A n c, .bool b.fin, .int .u64 b.cnt]
abbrev PK.cells (p : PK) (A : Option Addr) (n c : Nat) : Array Value := #[.int .i64 p.kind, .int .u32 p.ses, .int .u64 p.seq, .int .u64 p.lim, .slice A n c, .bool p.b.fin, .int .u64 p.b.cnt]
abbrev SC.cells (s : SC) (A : Option Addr) (n c : Nat) : Array Value := #[.int .u32 s.ses, .int .u64 s.base, .slice A n c, .int .u64 s.sent, .int .u64 s.lim, .int .i64 s.timer, .bool s.ended]
abbrev RC.cells (r : RC) (A : Option Addr) (n c : Nat) (B : Option Addr) (m d : Nat) : Array Value := #[.int .u32 r.ses, .int .u64 r.next, .slice A n c, .slice B m d, .int .i64 r.room, .bool r.over]
theorem ret_bool {a b : Bool} (h : a = b) : Ending.returned (.bool a) = .returned (.bool b) := by rw [h]
theorem ret_int {k : IntKind} {a b : Int} (h : a = b) : Ending.returned (.int k a) = .returned (.int k b) := by rw [h]
def idxL {α : Type} (f : α → Bool) (xs : List α) : Int := if xs.any f then (xs.findIdx f : Int) else -1
theorem idxL_at {α : Type} {f : α → Bool} {xs : List α} {i : Nat} {x : α} (hp : xs[i]? = some x) (hx : f x = true) (hlo : ∀ (k : Nat) (q : α), k < i → xs[k]? = some q → f q = false) : idxL f xs = i := by
 obtain ⟨hl, he⟩ := List.getElem?_eq_some_iff.1 hp
 have h1 : xs.any f = true := List.any_eq_true.2 ⟨x, List.mem_of_getElem? hp, hx⟩
 have h2 : xs.findIdx f = i := (List.findIdx_eq hl).2 ⟨by rw [he]; exact hx, fun j hj => hlo j xs[j] hj (List.getElem?_eq_getElem (by omega))⟩
 unfold idxL
 rw [h1, h2]; rfl
theorem idxL_no {α : Type} {f : α → Bool} {xs : List α} (hlo : ∀ (k : Nat) (q : α), k < xs.length → xs[k]? = some q → f q = false) : idxL f xs = -1 := by
 have h1 : xs.any f = false := List.any_eq_false.2 fun p hp => by
  obtain ⟨k, hk⟩ := List.mem_iff_getElem?.1 hp
  rw [hlo k p (List.getElem?_eq_some_iff.1 hk).1 hk]
  simp
 unfold idxL
 rw [h1]; rfl
theorem idxL_has {α : Type} (f : α → Bool) (xs : List α) : decide (0 ≤ idxL f xs) = xs.any f := by
 unfold idxL
 cases xs.any f <;> simp
end Go.Proofs.Ytojghgbaiiajfaa
/- slices.IndexFunc and ContainsFunc over values and rows. Conditions: the slice reads as these; what is handed over answers for each and turns no memory that was there. -/
namespace Go.Proofs.Ytojghgbaiiajfaa
open Go.RowKit
/-- what is handed over: a test of a value -/
def TestV (D : FuncId) (cap : Array Value) (f : VV → Bool) (G : World → Prop) : Prop :=
 ∀ (q : VV)  (W : World), G W → Calls Try.prog D (#[.agg #[.int .i64 q.k, .int .i64 q.n, .int .u64 q.u, .string q.s]] ++ cap) W fun e w' => e = .returned (.bool (f q)) ∧ Below W.heap.size W w'
set_option maxRecDepth 100000 in
set_option maxHeartbeats 4000000 in
theorem indexV (F : Nat → Prop) (A : Option Addr) (m c : Nat) (xs : List VV) (D : FuncId) (cap : Array Value) (f : VV → Bool) (w : World) (h : LV.rd w F A m xs) (hm : m ≤ 9223372036854775807)
 (hent : ∀ (args : Array Value) (w : World), (callFunc D args).run Try.prog w = .ok (.enter D args) w) (hD : TestV D cap f (fun W => Below w.heap.size w W)) :
 Calls Try.prog 133 #[.slice A m c, .func (.func D) #[] cap] w fun e w' => e = .returned (.int .i64 (idxL f xs)) ∧ Below w.heap.size w w' := by
 have HL := Lib.hid h.1
 have HEN := hent
 have HD := Lib.hid hD
 clear hent hD
 go_enter Try.func133, Try.ntmps133
 go_wp2_with fail
 go_loopg [8] m (fun g a wr => ∃ i : Nat, i + g = m ∧ a = .int .i64 i ∧ (∀ (k : Nat) (q : VV), k < i → xs[k]? = some q → f q = false) ∧ Below w.heap.size w wr)
 case atStart => exact ⟨0, by omega, rfl, fun k q hk => by omega, Below.refl _ _⟩
 case round =>
  obtain ⟨i, hig, rfl, hlo, bb⟩ := hrel
  have HLO := Lib.hid hlo
  have HBB := Lib.hid bb
  clear hlo
  by_cases hlt : i < m
  · have hi1 : (i : Int) < (m : Int) := by omega
    obtain ⟨p, q, rfl, hx, s1⟩ := LV_at (Lay.rd_below h bb) hlt
    have e0 := s1.c0
    have e1 := s1.c1
    have e2 := s1.c2
    have e3 := s1.c3
    have HX := Lib.hid hx
    have HC := Lib.hid (HD.out q  wr bb )
    clear hx s1 bb
    cases hq : f q
    · rw [hq] at HC
      have HF := Lib.hid (show ∀ (k : Nat) (r : VV), k < i + 1 → xs[k]? = some r → f r = false from fun k r hk hr => by
       rcases Nat.lt_or_ge k i with h1 | h1
       · exact HLO.out k r h1 hr
       · obtain rfl : k = i := by omega
         have h2 := HX.out
         rw [hr] at h2
         injection h2 with h2
         subst h2
         exact hq)
      clear hq
      go_wp2_with fail
      refine HC.out.mono ?_
      rintro e w2 ⟨rfl, q2⟩
      have b2 := bl_ca HBB.out q2
      clear q2
      go_wp2
      go_roundg (gk - 1)
      · exact ⟨i + 1, by omega, by go_num, HF.out, b2⟩
      · omega
    · rw [hq] at HC
      have HF := Lib.hid (idxL_at HX.out hq HLO.out)
      clear hq
      go_wp2_with fail
      refine HC.out.mono ?_
      rintro e w2 ⟨rfl, q2⟩
      have b2 := bl_ca HBB.out q2
      clear q2
      go_wp2
      go_ret
      exact ⟨ret_int (by rw [HF.out]), b2⟩
  · obtain rfl : i = m := by omega
    have hi1 : (i : Int) ≤ (i : Int) := by omega
    have HF := Lib.hid (idxL_no (fun k q hk => HLO.out k q (by rw [← HL.out]; exact hk)))
    clear bb
    go_wp2
    go_ret
    exact ⟨ret_int (by rw [HF.out]), HBB.out⟩
set_option maxRecDepth 100000 in
theorem containsV (F : Nat → Prop) (A : Option Addr) (m c : Nat) (xs : List VV) (D : FuncId) (cap : Array Value) (f : VV → Bool) (w : World) (h : LV.rd w F A m xs) (hm : m ≤ 9223372036854775807)
 (hent : ∀ (args : Array Value) (w : World), (callFunc D args).run Try.prog w = .ok (.enter D args) w) (hD : TestV D cap f (fun W => Below w.heap.size w W)) :
 Calls Try.prog 131 #[.slice A m c, .func (.func D) #[] cap] w fun e w' => e = .returned (.bool (xs.any f)) ∧ Below w.heap.size w w' := by
 have HI := Lib.hid (indexV F A m c xs D cap f w h hm hent hD)
 have HE := Lib.hid (idxL_has f xs)
 clear h hent hD
 generalize idxL f xs = z at *
 go_enter Try.func131, Try.ntmps131
 go_wp2_with fail
 refine HI.out.mono ?_
 rintro e w2 ⟨rfl, q2⟩
 have HQ := Lib.hid q2
 clear q2
 go_wp2
 go_ret
 exact ⟨ret_bool (by rw [← HE.out]), HQ.out⟩
/-- what is handed over: a test of a row -/
def TestR (F0 : Nat → Prop) (D : FuncId) (cap : Array Value) (f : (List VV) → Bool) (G : World → Prop) : Prop :=
 ∀ (q : (List VV)) (B : Option Addr) (k d : Nat) (W : World), G W → LV.rd W F0 B k q → k ≤ 9223372036854775807 → Calls Try.prog D (#[.slice B k d] ++ cap) W fun e w' => e = .returned (.bool (f q)) ∧ Below W.heap.size W w'
set_option maxRecDepth 100000 in
set_option maxHeartbeats 4000000 in
theorem indexR (F : Nat → Prop) (A : Option Addr) (m c : Nat) (xs : List (List VV)) (D : FuncId) (cap : Array Value) (f : (List VV) → Bool) (w : World) (h : LR.rd w F A m xs) (hm : m ≤ 9223372036854775807)
 (hent : ∀ (args : Array Value) (w : World), (callFunc D args).run Try.prog w = .ok (.enter D args) w) (hD : TestR F D cap f (fun W => Below w.heap.size w W)) :
 Calls Try.prog 125 #[.slice A m c, .func (.func D) #[] cap] w fun e w' => e = .returned (.int .i64 (idxL f xs)) ∧ Below w.heap.size w w' := by
 have HL := Lib.hid h.1
 have HEN := hent
 have HD := Lib.hid hD
 clear hent hD
 go_enter Try.func125, Try.ntmps125
 go_wp2_with fail
 go_loopg [8] m (fun g a wr => ∃ i : Nat, i + g = m ∧ a = .int .i64 i ∧ (∀ (k : Nat) (q : (List VV)), k < i → xs[k]? = some q → f q = false) ∧ Below w.heap.size w wr)
 case atStart => exact ⟨0, by omega, rfl, fun k q hk => by omega, Below.refl _ _⟩
 case round =>
  obtain ⟨i, hig, rfl, hlo, bb⟩ := hrel
  have HLO := Lib.hid hlo
  have HBB := Lib.hid bb
  clear hlo
  by_cases hlt : i < m
  · have hi1 : (i : Int) < (m : Int) := by omega
    obtain ⟨p, q, B, k, d, rfl, hx, e0, hk1, hk2, hr⟩ := LR_at (Lay.rd_below h bb) hlt

    have HX := Lib.hid hx
    have HC := Lib.hid (HD.out q B k d wr bb hr (Nat.le_trans hk1 hk2))
    clear hx hr hk1 hk2 bb
    cases hq : f q
    · rw [hq] at HC
      have HF := Lib.hid (show ∀ (k : Nat) (r : (List VV)), k < i + 1 → xs[k]? = some r → f r = false from fun k r hk hr => by
       rcases Nat.lt_or_ge k i with h1 | h1
       · exact HLO.out k r h1 hr
       · obtain rfl : k = i := by omega
         have h2 := HX.out
         rw [hr] at h2
         injection h2 with h2
         subst h2
         exact hq)
      clear hq
      go_wp2_with fail
      refine HC.out.mono ?_
      rintro e w2 ⟨rfl, q2⟩
      have b2 := bl_ca HBB.out q2
      clear q2
      go_wp2
      go_roundg (gk - 1)
      · exact ⟨i + 1, by omega, by go_num, HF.out, b2⟩
      · omega
    · rw [hq] at HC
      have HF := Lib.hid (idxL_at HX.out hq HLO.out)
      clear hq
      go_wp2_with fail
      refine HC.out.mono ?_
      rintro e w2 ⟨rfl, q2⟩
      have b2 := bl_ca HBB.out q2
      clear q2
      go_wp2
      go_ret
      exact ⟨ret_int (by rw [HF.out]), b2⟩
  · obtain rfl : i = m := by omega
    have hi1 : (i : Int) ≤ (i : Int) := by omega
    have HF := Lib.hid (idxL_no (fun k q hk => HLO.out k q (by rw [← HL.out]; exact hk)))
    clear bb
    go_wp2
    go_ret
    exact ⟨ret_int (by rw [HF.out]), HBB.out⟩
set_option maxRecDepth 100000 in
theorem containsR (F : Nat → Prop) (A : Option Addr) (m c : Nat) (xs : List (List VV)) (D : FuncId) (cap : Array Value) (f : (List VV) → Bool) (w : World) (h : LR.rd w F A m xs) (hm : m ≤ 9223372036854775807)
 (hent : ∀ (args : Array Value) (w : World), (callFunc D args).run Try.prog w = .ok (.enter D args) w) (hD : TestR F D cap f (fun W => Below w.heap.size w W)) :
 Calls Try.prog 116 #[.slice A m c, .func (.func D) #[] cap] w fun e w' => e = .returned (.bool (xs.any f)) ∧ Below w.heap.size w w' := by
 have HI := Lib.hid (indexR F A m c xs D cap f w h hm hent hD)
 have HE := Lib.hid (idxL_has f xs)
 clear h hent hD
 generalize idxL f xs = z at *
 go_enter Try.func116, Try.ntmps116
 go_wp2_with fail
 refine HI.out.mono ?_
 rintro e w2 ⟨rfl, q2⟩
 have HQ := Lib.hid q2
 clear q2
 go_wp2
 go_ret
 exact ⟨ret_bool (by rw [← HE.out]), HQ.out⟩
end Go.Proofs.Ytojghgbaiiajfaa
/- Which rows and batches may be: row.Check, link.rows, link.batch, link.inRow, link.ends. Conditions: the slices read so. -/
namespace Go.Proofs.Ytojghgbaiiajfaa
open Go.RowKit
def rowOk (r : List VV) : Bool := decide ((r.length : Int) ≤ 16) && !(r.any fun v => !v.ok)
set_option maxRecDepth 100000 in
theorem wrong_any (w0 : World) : TestV 129 #[] (fun v => !v.ok) (fun W => Below w0.heap.size w0 W) := by
 intro q W _
 show Calls Try.prog 129 #[.agg #[.int .i64 q.k, .int .i64 q.n, .int .u64 q.u, .string q.s]] W fun e w' => e = .returned (.bool (!q.ok)) ∧ Below W.heap.size W w'
 have b1 := bl_al (Below.refl W.heap.size W) (.cells #[.int .i64 q.k, .int .i64 q.n, .int .u64 q.u, .string q.s] 142)
 have HC := Lib.hid (fun W => check_any q.k q.n q.u q.s W)
 have hok : q.ok = rightB q.k q.n q.u q.s := rfl
 rw [hok]
 clear hok
 generalize rightB q.k q.n q.u q.s = b at *
 cases b
 all_goals
  go_enter Try.func129, Try.ntmps129
  go_wp2_with fail
  refine (HC.out _).mono ?_
  rintro e w1 ⟨rfl, q1⟩
  have HB := Lib.hid (bl_ca b1 q1)
  clear q1
  go_wp2
  go_ret
  exact ⟨rfl, HB.out⟩
set_option maxRecDepth 100000 in
theorem rright_any (F : Nat → Prop) (A : Option Addr) (m c : Nat) (r : List VV) (w : World) (h : LV.rd w F A m r) (hm : m ≤ 9223372036854775807) :
 Calls Try.prog 126 #[.slice A m c] w fun e w' => e = .returned (.bool (rowOk r)) ∧ Below w.heap.size w w' := by
 have HC := Lib.hid (containsV F A m c r 129 #[] (fun v => !v.ok) w h hm (Go.Proofs.enters_of Try.func129 (by kernel_rfl) rfl) (wrong_any w))
 have HR := Lib.hid (show rowOk r = (decide ((m : Int) ≤ 16) && !(r.any fun v => !v.ok)) from by unfold rowOk; rw [Lay.rd_len h])
 clear h
 generalize (r.any fun v => !v.ok) = b at *
 by_cases hl : m ≤ 16
 · have h1 : (m : Int) ≤ 16 := by omega
   rw [show decide ((m : Int) ≤ 16) = true from by simpa using h1] at HR
   go_enter Try.func126, Try.ntmps126
   go_wp2_with fail
   refine HC.out.mono ?_
   rintro e w1 ⟨rfl, q1⟩
   have HB := Lib.hid q1
   clear q1
   go_wp2
   go_ret
   exact ⟨ret_bool (by rw [HR.out]; rfl), HB.out⟩
 · have h1 : (16 : Int) < (m : Int) := by omega
   rw [show decide ((m : Int) ≤ 16) = false from by simp; omega] at HR
   go_enter Try.func126, Try.ntmps126
   go_wp2
   go_ret
   exact ⟨ret_bool (by rw [HR.out]; rfl), Below.refl _ _⟩
set_option maxRecDepth 100000 in
theorem rcheck_any (F : Nat → Prop) (A : Option Addr) (m c : Nat) (r : List VV) (w : World) (h : LV.rd w F A m r) (hm : m ≤ 9223372036854775807) :
 Calls Try.prog 118 #[.slice A m c] w fun e w' => e = .returned (.int .i64 (if rowOk r then 0 else 150)) ∧ Below w.heap.size w w' := by
 have HC := Lib.hid (rright_any F A m c r w h hm)
 clear h
 generalize rowOk r = b at *
 cases b
 all_goals
  go_enter Try.func118, Try.ntmps118
  go_wp2_with fail
  refine HC.out.mono ?_
  rintro e w1 ⟨rfl, q1⟩
  have HB := Lib.hid q1
  clear q1
  go_wp2
  go_ret
  exact ⟨rfl, HB.out⟩
set_option maxRecDepth 100000 in
theorem wrongR_any (F : Nat → Prop) (w0 : World) : TestR F 117 #[] (fun r => !rowOk r) (fun W => Below w0.heap.size w0 W) := by
 intro q B k d W _ hr hk
 show Calls Try.prog 117 #[.slice B k d] W fun e w' => e = .returned (.bool (!rowOk q)) ∧ Below W.heap.size W w'
 have HC := Lib.hid (rcheck_any F B k d q W hr hk)
 clear hr
 generalize rowOk q = b at *
 cases b
 all_goals
  go_enter Try.func117, Try.ntmps117
  go_wp2_with fail
  refine HC.out.mono ?_
  rintro e w1 ⟨rfl, q1⟩
  have HB := Lib.hid q1
  clear q1
  go_wp2
  go_ret
  exact ⟨rfl, HB.out⟩
def rowsOk (l : List (List VV)) : Bool := decide (0 < (l.length : Int)) && decide ((l.length : Int) ≤ 4) && !(l.any fun r => !rowOk r)
set_option maxRecDepth 100000 in
theorem rows_any (F : Nat → Prop) (A : Option Addr) (m c : Nat) (l : List (List VV)) (w : World) (h : LR.rd w F A m l) (hm : m ≤ 9223372036854775807) :
 Calls Try.prog 98 #[.slice A m c] w fun e w' => e = .returned (.bool (rowsOk l)) ∧ Below w.heap.size w w' := by
 have HC := Lib.hid (containsR F A m c l 117 #[] (fun r => !rowOk r) w h hm (Go.Proofs.enters_of Try.func117 (by kernel_rfl) rfl) (wrongR_any F w))
 have HR := Lib.hid (show rowsOk l = (decide (0 < (m : Int)) && decide ((m : Int) ≤ 4) && !(l.any fun r => !rowOk r)) from by unfold rowsOk; rw [Lay.rd_len h])
 clear h
 generalize (l.any fun r => !rowOk r) = b at *
 by_cases h0 : 0 < m
 · have h1 : (0 : Int) < (m : Int) := by omega
   rw [show decide (0 < (m : Int)) = true from by simpa using h0] at HR
   by_cases hl : m ≤ 4
   · have h2 : (m : Int) ≤ 4 := by omega
     rw [show decide ((m : Int) ≤ 4) = true from by simpa using h2] at HR
     go_enter Try.func98, Try.ntmps98
     go_wp2_with fail
     refine HC.out.mono ?_
     rintro e w1 ⟨rfl, q1⟩
     have HB := Lib.hid q1
     clear q1
     go_wp2
     go_ret
     exact ⟨ret_bool (by rw [HR.out]; rfl), HB.out⟩
   · have h2 : (4 : Int) < (m : Int) := by omega
     rw [show decide ((m : Int) ≤ 4) = false from by simp; omega] at HR
     go_enter Try.func98, Try.ntmps98
     go_wp2
     go_ret
     exact ⟨ret_bool (by rw [HR.out]; rfl), Below.refl _ _⟩
 · obtain rfl : m = 0 := by omega
   go_enter Try.func98, Try.ntmps98
   go_wp2
   go_ret
   exact ⟨ret_bool (by rw [HR.out]; rfl), Below.refl _ _⟩
def sesB (n : Int) : Bool := decide (1 ≤ n) && decide (n ≤ 2147483647)
set_option maxRecDepth 100000 in
theorem session_any (n : Int) (w : World) : Calls Try.prog 49 #[.int .u32 n] w fun e w' => e = .returned (.bool (sesB n)) ∧ w = w' := by
 have HR := Lib.hid (show sesB n = (decide (1 ≤ n) && decide (n ≤ 2147483647)) from rfl)
 generalize sesB n = r at *
 go_enter Try.func49, Try.ntmps49
 go_wp2
 all_goals
  go_ret
  exact ⟨ret_bool (by rw [HR.out]; simp [*] <;> omega), rfl⟩
def batchB (b : BC) (seq : Int) : Bool :=
 decide (1 ≤ seq) && decide (seq ≤ 1099511627776) && (if b.fin then decide ((b.rows.length : Int) = 0) && (b.cnt == seq - 1) else (b.cnt == 0) && rowsOk b.rows)
set_option maxRecDepth 100000 in
set_option maxHeartbeats 4000000 in
theorem batch_any (F : Nat → Prop) (b : BC) (A : Option Addr) (n c : Nat) (seq : Int) (w : World) (h : LR.rd w F A n b.rows) (hn : n ≤ 9223372036854775807) :
 Calls Try.prog 71 #[.agg (b.cells A n c), .int .u64 seq] w fun e w' => e = .returned (.bool (batchB b seq)) ∧ Below w.heap.size w w' := by
 have b1 := bl_al (Below.refl w.heap.size w) (.cells (b.cells A n c) 45)
 have HL := Lib.hid (Lay.rd_len h)
 have HRW := Lib.hid (rows_any F A n c b.rows _ (Lay.rd_below h b1) hn)
 have HB := Lib.hid b1
 have HR := Lib.hid (show batchB b seq = _ from rfl)
 clear h b1
 by_cases h1 : 1 ≤ seq
 · by_cases h2 : seq ≤ 1099511627776
   · have d1 : decide (seq < 1) = false := by simp; omega
     have d2 : decide ((1099511627776 : Int) < seq) = false := by simp; omega
     unfold batchB at HR ⊢
     obtain ⟨rows, fin, cnt⟩ := b
     dsimp only at *
     rw [show decide (1 ≤ seq) = true from by simpa using h1, show decide (seq ≤ 1099511627776) = true from by simpa using h2]
     rw [HL.out]
     clear HR
     cases fin
     · generalize rowsOk rows = ok at *
       clear h1 h2
       by_cases hc : cnt = 0
       · subst hc
         go_enter Try.func71, Try.ntmps71
         go_wp2_with fail
         refine HRW.out.mono ?_
         rintro e w2 ⟨rfl, q2⟩
         have HB2 := Lib.hid (bl_ca HB.out q2)
         clear q2
         go_wp2
         go_ret
         exact ⟨ret_bool (by simp), HB2.out⟩
       · have d3 : (cnt == 0) = false := by simpa using hc
         clear hc
         go_enter Try.func71, Try.ntmps71
         go_wp2
         go_ret
         exact ⟨ret_bool rfl, HB.out⟩
     · rcases Nat.eq_zero_or_pos n with h0 | h0
       · subst h0
         have hsq : IntKind.u64.wrap (seq - 1) = seq - 1 := by simp [IntKind.wrap, IntKind.signed, IntKind.bits]; omega
         generalize hz : seq - 1 = z at *
         go_enter Try.func71, Try.ntmps71
         go_wp2
         go_ret
         exact ⟨ret_bool (by simp), HB.out⟩
       · have d3 : ((n : Int) == 0) = false := by simp; omega
         clear h1 h2
         go_enter Try.func71, Try.ntmps71
         go_wp2
         go_ret
         exact ⟨ret_bool (by simp; omega), HB.out⟩
   · have d1 : decide (seq < 1) = false := by simp; omega
     have d2 : decide ((1099511627776 : Int) < seq) = true := by simp; omega
     have HF := Lib.hid (show batchB b seq = false from by unfold batchB; rw [show decide (seq ≤ 1099511627776) = false from by simpa using h2]; simp)
     clear HR h1 h2
     go_enter Try.func71, Try.ntmps71
     go_wp2
     go_ret
     exact ⟨ret_bool HF.out.symm, HB.out⟩
 · have d1 : decide (seq < 1) = true := by simp; omega
   have HF := Lib.hid (show batchB b seq = false from by unfold batchB; rw [show decide (1 ≤ seq) = false from by simpa using h1]; simp)
   clear HR h1
   go_enter Try.func71, Try.ntmps71
   go_wp2
   go_ret
   exact ⟨ret_bool HF.out.symm, HB.out⟩
end Go.Proofs.Ytojghgbaiiajfaa
/- When rows and batches are one: slices.Equal, row.Same, link.same. Conditions: the slices read so. -/
namespace Go.Proofs.Ytojghgbaiiajfaa
open Go.RowKit
/-- are two values one? -/
def eqVV (v u : VV) : Bool := v.k == u.k && (v.n == u.n && (v.u == u.u && v.s.toList == u.s.toList))
theorem eqVV_iff (v u : VV) : eqVV v u = true ↔ v = u := by
 rcases v with ⟨k, n, x, ⟨⟨s⟩⟩⟩
 rcases u with ⟨k', n', x', ⟨⟨s'⟩⟩⟩
 simp [eqVV, ByteArray.toList_eq]
theorem run_eqVV (v u : VV) : ∀ W, (Op.equalIn 10000 142 (.agg #[.int .i64 v.k, .int .i64 v.n, .int .u64 v.u, .string v.s]) (.agg #[.int .i64 u.k, .int .i64 u.n, .int .u64 u.u, .string u.s])).run Try.prog W = .ok (eqVV v u) W := by
 intro W
 unfold eqVV
 rw [run_equalIn_agg W 9999 _ _ _ (by kernel_rfl) (by kernel_rfl)]
 go_simp
 by_cases h1 : v.k = u.k <;> by_cases h2 : v.n = u.n <;> by_cases h3 : v.u = u.u <;> by_cases h4 : v.s.toList = u.s.toList <;> simp [h1, h2, h3, h4]
instance : DecidableEq VV := fun a b => decidable_of_iff (eqVV a b = true) (eqVV_iff a b)
set_option maxRecDepth 100000 in
set_option maxHeartbeats 8000000 in
theorem equalV (F G : Nat → Prop) (A B : Option Addr) (m c n d : Nat) (xs ys : List VV) (w : World) (hx : LV.rd w F A m xs) (hy : LV.rd w G B n ys) (hm : m ≤ 9223372036854775807) :
 Calls Try.prog 124 #[.slice A m c, .slice B n d] w fun e w' => e = .returned (.bool (decide (xs = ys))) ∧ Below w.heap.size w w' := by
 have hxl := Lay.rd_len hx
 have hyl := Lay.rd_len hy
 by_cases hmn : m = n
 · subst hmn
   obtain ⟨r, hr⟩ : ∃ r, r = decide (xs = ys) := ⟨_, rfl⟩
   rw [← hr]
   have HR := Lib.hid hr
   have HXL := Lib.hid hxl
   have HYL := Lib.hid hyl
   skip
   clear hr hxl hyl
   go_enter Try.func124, Try.ntmps124
   go_wp2_with fail
   go_loopg [13] m (fun g s wr => ∃ i : Nat, i + g ≤ m ∧ m ≤ i + g ∧ s = .int .i64 i ∧ xs.take i = ys.take i ∧ Below w.heap.size w wr)
   case atStart => exact ⟨0, by omega, by omega, rfl, rfl, Below.refl _ _⟩
   case round =>
    obtain ⟨i, hi1, hi2, rfl, hp, bb⟩ := hrel
    have HBB := Lib.hid bb
    have HP := Lib.hid hp
    clear hp
    by_cases hi : i < m
    · have hil : (i : Int) < (m : Int) := by omega
      obtain ⟨p1, v, rfl, hv, s1⟩ := LV_at (Lay.rd_below hx bb) hi
      obtain ⟨p2, u, rfl, hu, s2⟩ := LV_at (Lay.rd_below hy bb) hi
      have e0 := s1.c0
      have e1 := s1.c1
      have e2 := s1.c2
      have e3 := s1.c3
      have f0 := s2.c0
      have f1 := s2.c1
      have f2 := s2.c2
      have f3 := s2.c3
      clear s1 s2
      have HVI := Lib.hid hv
      have HUI := Lib.hid hu
      clear hv hu hx hy bb
      by_cases hvu : v = u
      · have HP2 := Lib.hid (show xs.take (i + 1) = ys.take (i + 1) from by rw [List.take_add_one, List.take_add_one, HP.out, HVI.out, HUI.out, hvu])
        have HVU := Lib.hid hvu
        clear hvu
        have HQ : ∀ W, (Op.equalIn 10000 142 (.agg #[.int .i64 v.k, .int .i64 v.n, .int .u64 v.u, .string v.s]) (.agg #[.int .i64 u.k, .int .i64 u.n, .int .u64 u.u, .string u.s])).run Try.prog W = .ok true W := fun W => by rw [run_eqVV, show eqVV v u = true from (eqVV_iff v u).2 HVU.out]
        go_wp2_with fail
        go_quiet (fail)
        go_wp2
        go_roundg (gk - 1)
        · exact ⟨i + 1, by omega, by omega, by go_num, HP2.out, bl_dr HBB.out _⟩
        · omega
      · have HF := Lib.hid (show r = false from by
         rw [HR.out]
         refine decide_eq_false fun e => hvu ?_
         have h1 := HVI.out
         rw [e, HUI.out] at h1
         injection h1 with h1
         exact h1.symm)
        have HVU := Lib.hid hvu
        clear hvu
        have HQ : ∀ W, (Op.equalIn 10000 142 (.agg #[.int .i64 v.k, .int .i64 v.n, .int .u64 v.u, .string v.s]) (.agg #[.int .i64 u.k, .int .i64 u.n, .int .u64 u.u, .string u.s])).run Try.prog W = .ok false W := fun W => by rw [run_eqVV, show eqVV v u = false from by cases he : eqVV v u; rfl; exact absurd ((eqVV_iff v u).1 he) HVU.out]
        go_wp2_with fail
        go_quiet (fail)
        go_wp2
        go_ret
        exact ⟨ret_bool (by rw [HF.out]), bl_dr HBB.out _⟩
    · obtain rfl : i = m := by omega
      have hil : (i : Int) ≤ (i : Int) := by omega
      have HT := Lib.hid (show r = true from by
       have hp := HP.out
       rw [List.take_of_length_le (by rw [HXL.out]; omega), List.take_of_length_le (by rw [HYL.out]; omega)] at hp
       rw [HR.out]
       exact decide_eq_true hp)
      clear hx hy bb
      go_wp2
      go_ret
      exact ⟨ret_bool (by rw [HT.out]), HBB.out⟩
 · have e : decide (xs = ys) = false := decide_eq_false fun e => hmn (by rw [← hxl, ← hyl, e])
   rw [e]
   clear e hx hy hxl hyl
   go_enter Try.func124, Try.ntmps124
   go_wp2
   go_ret
   exact ⟨rfl, Below.refl _ _⟩
set_option maxRecDepth 100000 in
theorem rowEq_any (F G : Nat → Prop) (A B : Option Addr) (m c n d : Nat) (xs ys : List VV) (w : World) (hx : LV.rd w F A m xs) (hy : LV.rd w G B n ys) (hm : m ≤ 9223372036854775807) :
 Calls Try.prog 115 #[.slice A m c, .slice B n d] w fun e w' => e = .returned (.bool (decide (xs = ys))) ∧ Below w.heap.size w w' := by
 have HE := Lib.hid (equalV F G A B m c n d xs ys w hx hy hm)
 clear hx hy
 generalize decide (xs = ys) = r at *
 go_enter Try.func115, Try.ntmps115
 go_wp2_with fail
 refine HE.out.mono ?_
 rintro e w2 ⟨rfl, q2⟩
 have HQ := Lib.hid q2
 clear q2
 go_wp2
 go_ret
 exact ⟨rfl, HQ.out⟩
set_option maxRecDepth 100000 in
set_option maxHeartbeats 8000000 in
theorem eqfR (F G : Nat → Prop) (A B : Option Addr) (m c n d : Nat) (xs ys : List (List VV)) (w : World) (hx : LR.rd w F A m xs) (hy : LR.rd w G B n ys) (hm : m ≤ 9223372036854775807) :
 Calls Try.prog 114 #[.slice A m c, .slice B n d, .func (.func 115) #[] #[]] w fun e w' => e = .returned (.bool (decide (xs = ys))) ∧ Below w.heap.size w w' := by
 have hxl := Lay.rd_len hx
 have hyl := Lay.rd_len hy
 by_cases hmn : m = n
 · subst hmn
   obtain ⟨r, hr⟩ : ∃ r, r = decide (xs = ys) := ⟨_, rfl⟩
   rw [← hr]
   have HR := Lib.hid hr
   have HXL := Lib.hid hxl
   have HYL := Lib.hid hyl
   have HEN : ∀ (args : Array Value) (w : World), (callFunc 115 args).run Try.prog w = .ok (.enter 115 args) w := Go.Proofs.enters_of Try.func115 (by kernel_rfl) rfl
   clear hr hxl hyl
   go_enter Try.func114, Try.ntmps114
   go_wp2_with fail
   go_loopg [17] m (fun g s wr => ∃ i : Nat, i + g ≤ m ∧ m ≤ i + g ∧ s = .int .i64 i ∧ xs.take i = ys.take i ∧ Below w.heap.size w wr)
   case atStart => exact ⟨0, by omega, by omega, rfl, rfl, Below.refl _ _⟩
   case round =>
    obtain ⟨i, hi1, hi2, rfl, hp, bb⟩ := hrel
    have HBB := Lib.hid bb
    have HP := Lib.hid hp
    clear hp
    by_cases hi : i < m
    · have hil : (i : Int) < (m : Int) := by omega
      obtain ⟨p1, v, B1, k1, c1, rfl, hv, e0, _, hk1, hr1⟩ := LR_at (Lay.rd_below hx bb) hi
      obtain ⟨p2, u, B2, k2, c2, rfl, hu, f0, _, _, hr2⟩ := LR_at (Lay.rd_below hy bb) hi
      have HC := Lib.hid (rowEq_any F G B1 B2 k1 c1 k2 c2 v u wr hr1 hr2 (by omega))
      clear hr1 hr2
      have HVI := Lib.hid hv
      have HUI := Lib.hid hu
      clear hv hu hx hy bb
      by_cases hvu : v = u
      · have HP2 := Lib.hid (show xs.take (i + 1) = ys.take (i + 1) from by rw [List.take_add_one, List.take_add_one, HP.out, HVI.out, HUI.out, hvu])
        have HVU := Lib.hid hvu
        clear hvu
        rw [show decide (v = u) = true from decide_eq_true HVU.out] at HC
        go_wp2_with fail
        refine HC.out.mono ?_
        rintro e w2 ⟨rfl, q2⟩
        have HBN := Lib.hid (bl_ca HBB.out q2)
        clear q2 e0 f0
        go_wp2
        go_roundg (gk - 1)
        · exact ⟨i + 1, by omega, by omega, by go_num, HP2.out, HBN.out⟩
        · omega
      · have HF := Lib.hid (show r = false from by
         rw [HR.out]
         refine decide_eq_false fun e => hvu ?_
         have h1 := HVI.out
         rw [e, HUI.out] at h1
         injection h1 with h1
         exact h1.symm)
        have HVU := Lib.hid hvu
        clear hvu
        rw [show decide (v = u) = false from decide_eq_false HVU.out] at HC
        go_wp2_with fail
        refine HC.out.mono ?_
        rintro e w2 ⟨rfl, q2⟩
        have HBN := Lib.hid (bl_ca HBB.out q2)
        clear q2 e0 f0
        go_wp2
        go_ret
        exact ⟨ret_bool (by rw [HF.out]), HBN.out⟩
    · obtain rfl : i = m := by omega
      have hil : (i : Int) ≤ (i : Int) := by omega
      have HT := Lib.hid (show r = true from by
       have hp := HP.out
       rw [List.take_of_length_le (by rw [HXL.out]; omega), List.take_of_length_le (by rw [HYL.out]; omega)] at hp
       rw [HR.out]
       exact decide_eq_true hp)
      clear hx hy bb
      go_wp2
      go_ret
      exact ⟨ret_bool (by rw [HT.out]), HBB.out⟩
 · have e : decide (xs = ys) = false := decide_eq_false fun e => hmn (by rw [← hxl, ← hyl, e])
   rw [e]
   clear e hx hy hxl hyl
   go_enter Try.func114, Try.ntmps114
   go_wp2
   go_ret
   exact ⟨rfl, Below.refl _ _⟩
set_option maxRecDepth 100000 in
theorem rowSame_any (F G : Nat → Prop) (A B : Option Addr) (m c n d : Nat) (xs ys : List (List VV)) (w : World) (hx : LR.rd w F A m xs) (hy : LR.rd w G B n ys) (hm : m ≤ 9223372036854775807) :
 Calls Try.prog 96 #[.slice A m c, .slice B n d] w fun e w' => e = .returned (.bool (decide (xs = ys))) ∧ Below w.heap.size w w' := by
 have HE := Lib.hid (eqfR F G A B m c n d xs ys w hx hy hm)
 clear hx hy
 generalize decide (xs = ys) = r at *
 go_enter Try.func96, Try.ntmps96
 go_wp2_with fail
 refine HE.out.mono ?_
 rintro e w2 ⟨rfl, q2⟩
 have HQ := Lib.hid q2
 clear q2
 go_wp2
 go_ret
 exact ⟨rfl, HQ.out⟩
/-- are two batches one? -/
def eqBC (a b : BC) : Bool := a.fin == b.fin && (a.cnt == b.cnt && decide (a.rows = b.rows))
theorem eqBC_iff (a b : BC) : eqBC a b = true ↔ a = b := by
 rcases a with ⟨r, f, n⟩
 rcases b with ⟨r', f', n'⟩
 simp [eqBC]
 exact ⟨fun ⟨x, y, z⟩ => ⟨z, x, y⟩, fun ⟨x, y, z⟩ => ⟨y, z, x⟩⟩
instance : DecidableEq BC := fun a b => decidable_of_iff (eqBC a b = true) (eqBC_iff a b)
set_option maxRecDepth 100000 in
set_option maxHeartbeats 4000000 in
theorem lsame_any (F G : Nat → Prop) (a b : BC) (A B : Option Addr) (m c n d : Nat) (w : World) (hx : LR.rd w F A m a.rows) (hy : LR.rd w G B n b.rows) (hm : m ≤ 9223372036854775807) :
 Calls Try.prog 65 #[.agg (a.cells A m c), .agg (b.cells B n d)] w fun e w' => e = .returned (.bool (eqBC a b)) ∧ Below w.heap.size w w' := by
 have b1 := bl_al (bl_al (Below.refl w.heap.size w) (.cells (a.cells A m c) 45)) (.cells (b.cells B n d) 45)
 have HE := Lib.hid (rowSame_any F G A B m c n d a.rows b.rows _ (Lay.rd_below hx b1) (Lay.rd_below hy b1) hm)
 have HB := Lib.hid b1
 have HR := Lib.hid (show eqBC a b = (a.fin == b.fin && (a.cnt == b.cnt && decide (a.rows = b.rows))) from rfl)
 generalize eqBC a b = r at *
 clear hx hy b1
 obtain ⟨ra, fa, na⟩ := a
 obtain ⟨rb, fb, nb⟩ := b
 dsimp only at *
 generalize decide (ra = rb) = z at *
 by_cases hf : fa = fb
 · subst hf
   by_cases hn : na = nb
   · subst hn
     go_enter Try.func65, Try.ntmps65
     go_wp2_with fail
     refine HE.out.mono ?_
     rintro e w2 ⟨rfl, q2⟩
     have HQ := Lib.hid (bl_ca HB.out q2)
     clear q2
     go_wp2
     go_ret
     exact ⟨ret_bool (by rw [HR.out]; simp), HQ.out⟩
   · have d1 : (na == nb) = false := by simpa using hn
     clear hn
     go_enter Try.func65, Try.ntmps65
     go_wp2
     go_ret
     exact ⟨ret_bool (by rw [HR.out, d1]; simp), HB.out⟩
 · have d1 : (fa == fb) = false := by simpa using hf
   clear hf
   go_enter Try.func65, Try.ntmps65
   go_wp2
   go_ret
   exact ⟨ret_bool (by rw [HR.out, d1]; simp), HB.out⟩
end Go.Proofs.Ytojghgbaiiajfaa
/- EqualFunc of batches; senders that are one. Conditions: the slices read so. -/
namespace Go.Proofs.Ytojghgbaiiajfaa
open Go.RowKit
end Go.Proofs.Ytojghgbaiiajfaa
/- link.Open, link.Listen. Conditions: none. -/
namespace Go.Proofs.Ytojghgbaiiajfaa
open Go.RowKit
theorem senderI : (Try.prog.info? 29).map (·.size) = some 7 := by kernel_rfl
theorem receiverI : (Try.prog.info? 36).map (·.size) = some 6 := by kernel_rfl
def zeroS : SC := ⟨0, 0, [], 0, 0, 0, false⟩
def zeroR : RC := ⟨0, 0, [], [], 0, false⟩
def openS (n : Int) : SC := if sesB n then ⟨n, 1, [], 0, 0, 0, false⟩ else zeroS
def openE (n : Int) : Int := if sesB n then 0 else 2
set_option maxRecDepth 100000 in
theorem open_any (n : Int) (w : World) : Calls Try.prog 11 #[.int .u32 n] w fun e w' => e = .returned (.tuple #[.agg ((openS n).cells none 0 0), .int .i64 (openE n)]) ∧ Below w.heap.size w w' := by
 have HS := Lib.hid (fun W => session_any n W)
 obtain ⟨s, hs⟩ : ∃ s, s = openS n := ⟨_, rfl⟩
 obtain ⟨E, hE⟩ : ∃ E, E = openE n := ⟨_, rfl⟩
 rw [← hs, ← hE]
 unfold openS at hs
 unfold openE at hE
 have b1 := bl_al (Below.refl w.heap.size w) (.cells (zeroS.cells none 0 0) 29)
 generalize sesB n = b at *
 cases b
 · obtain rfl : s = zeroS := hs
   obtain rfl : E = 2 := hE
   go_enter Try.func11, Try.ntmps11
   go_wp2_with fail
   refine (HS.out _).mono ?_
   rintro e w2 ⟨rfl, rfl⟩
   go_wp2_with (refine wpList_store_blk rfl 29 (.tmp 2) (.tmp 7) rfl w.heap.size 29 _ (zeroS.cells none 0 0) rfl rfl (Blk.new _ _ _) rfl senderI (by simp [Value.oneCell']) ?_; intro wz hZ gz)
   exact bodyPost_ret (res2 Try.results11 rfl rfl hZ Try.underlying29 rfl senderI) rfl ⟨rfl, bl_gr b1 gz (Nat.le_refl _)⟩
 · obtain rfl : s = ⟨n, 1, [], 0, 0, 0, false⟩ := hs
   obtain rfl : E = 0 := hE
   go_enter Try.func11, Try.ntmps11
   go_wp2_with fail
   refine (HS.out _).mono ?_
   rintro e w2 ⟨rfl, rfl⟩
   go_wp2_with (refine wpList_store_blk rfl 29 (.tmp 2) (.tmp 9) rfl w.heap.size 29 _ (SC.cells ⟨n, 1, [], 0, 0, 0, false⟩ none 0 0) rfl rfl (Blk.new _ _ _) rfl senderI (by simp [Value.oneCell']) ?_; intro wz hZ gz)
   exact bodyPost_ret (res2 Try.results11 rfl rfl hZ Try.underlying29 rfl senderI) rfl ⟨rfl, bl_gr b1 gz (Nat.le_refl _)⟩
def roomB (n room : Int) : Bool := sesB n && (decide (1 ≤ room) && decide (room ≤ 8))
def listenR (n room : Int) : RC := if roomB n room then ⟨n, 1, [], [], room, false⟩ else zeroR
def listenE (n room : Int) : Int := if roomB n room then 0 else 2
set_option maxRecDepth 100000 in
set_option maxHeartbeats 4000000 in
theorem listen_any (n room : Int) (w : World) : Calls Try.prog 13 #[.int .u32 n, .int .i64 room] w fun e w' => e = .returned (.tuple #[.agg ((listenR n room).cells none 0 0 none 0 0), .int .i64 (listenE n room)]) ∧ Below w.heap.size w w' := by
 have HS := Lib.hid (fun W => session_any n W)
 have b1 := bl_al (Below.refl w.heap.size w) (.cells (zeroR.cells none 0 0 none 0 0) 36)
 have HX := Lib.hid (show roomB n room = (sesB n && (decide (1 ≤ room) && decide (room ≤ 8))) from rfl)
 by_cases hr : roomB n room = true
 · have hr2 := hr
   rw [HX.out] at hr2
   simp only [Bool.and_eq_true, decide_eq_true_eq] at hr2
   obtain ⟨h0, h1, h2⟩ := hr2
   rw [show listenR n room = ⟨n, 1, [], [], room, false⟩ from by unfold listenR; rw [hr]; rfl, show listenE n room = 0 from by unfold listenE; rw [hr]; rfl]
   rw [h0] at HS
   clear h0 hr HX
   go_enter Try.func13, Try.ntmps13
   go_wp2_with fail
   refine (HS.out _).mono ?_
   rintro e w2 ⟨rfl, rfl⟩
   go_wp2_with (refine wpList_store_blk rfl 36 (.tmp 4) (.tmp 20) rfl w.heap.size 36 _ (RC.cells ⟨n, 1, [], [], room, false⟩ none 0 0 none 0 0) rfl rfl (Blk.new _ _ _) rfl receiverI (by simp [Value.oneCell']) ?_; intro wz hZ gz)
   exact bodyPost_ret (res2 Try.results13 rfl rfl hZ Try.underlying36 rfl receiverI) rfl ⟨rfl, bl_gr b1 gz (Nat.le_refl _)⟩
 · have hf : roomB n room = false := by simpa using hr
   rw [show listenR n room = zeroR from by unfold listenR; rw [hf]; rfl, show listenE n room = 2 from by unfold listenE; rw [hf]; rfl]
   rw [hf] at HX
   clear hr hf
   generalize sesB n = b at *
   cases b
   · go_enter Try.func13, Try.ntmps13
     go_wp2_with fail
     refine (HS.out _).mono ?_
     rintro e w2 ⟨rfl, rfl⟩
     go_wp2_with (refine wpList_store_blk rfl 36 (.tmp 4) (.tmp 17) rfl w.heap.size 36 _ (zeroR.cells none 0 0 none 0 0) rfl rfl (Blk.new _ _ _) rfl receiverI (by simp [Value.oneCell']) ?_; intro wz hZ gz)
     exact bodyPost_ret (res2 Try.results13 rfl rfl hZ Try.underlying36 rfl receiverI) rfl ⟨rfl, bl_gr b1 gz (Nat.le_refl _)⟩
   · have hx := HX.out
     have h3 : room < 1 ∨ (1 ≤ room ∧ 8 < room) := by
      simp at hx
      by_cases h1 : 1 ≤ room
      · exact .inr ⟨h1, hx h1⟩
      · exact .inl (by omega)
     clear hx HX
     rcases h3 with h3 | ⟨h3, h4⟩
     all_goals
      go_enter Try.func13, Try.ntmps13
      go_wp2_with fail
      refine (HS.out _).mono ?_
      rintro e w2 ⟨rfl, rfl⟩
      go_wp2_with (refine wpList_store_blk rfl 36 (.tmp 4) (.tmp 17) rfl w.heap.size 36 _ (zeroR.cells none 0 0 none 0 0) rfl rfl (Blk.new _ _ _) rfl receiverI (by simp [Value.oneCell']) ?_; intro wz hZ gz)
      exact bodyPost_ret (res2 Try.results13 rfl rfl hZ Try.underlying36 rfl receiverI) rfl ⟨rfl, bl_gr b1 gz (Nat.le_refl _)⟩
end Go.Proofs.Ytojghgbaiiajfaa
