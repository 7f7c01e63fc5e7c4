/- The law CatalogReads. Conditions: the slice reads so; what the tables hold. -/
import Derived.Test.YthgcdilkkldgjaaGreatDoorPkC17
import Derived.ProofKit
import Derived.OpenShut
import Derived.ShutString
import Derived.ChangeOld
import Derived.Deep.Slices
import Derived.ChangeSame
import Derived.Test.YthgcdilkkldgjaaGreatDoorTie
import Derived.LaidMore
import Derived.Lay
import Derived.Handed
import Derived.SevenTiedAt
import Derived.Stop.Joined
import Derived.Stop.LaidErr
import Derived.Lib.LaidCase
import Derived.Lib.LaidU8
import Derived.Deep.Fields
namespace Go.Proofs.YthgcdilkkldgjaaGreatDoor
open Go.RowKit
theorem large_noB {t : TC} (h : largeB t = false) : Sz t ∧ Ln t := by
  unfold largeB at h
  simp only [Bool.or_eq_false_iff, decide_eq_false_iff_not, List.any_eq_false, decide_eq_true_eq] at h
  obtain ⟨h1, h2, h3, h4⟩ := h
  refine ⟨⟨by omega, fun k c hk => ?_⟩, by omega, by omega⟩
  obtain ⟨hlt, e⟩ := List.getElem?_eq_some_iff.1 hk
  have := h4 c (by rw [← e]; exact List.getElem_mem hlt)
  omega
theorem over_noB {l : List TC} (h : overB l = false) : l.length ≤ 20 ∧ ∀ (k : Nat) (t : TC), l[k]? = some t → Sz t ∧ Ln t := by
  unfold overB at h
  simp only [Bool.or_eq_false_iff, decide_eq_false_iff_not, List.any_eq_false] at h
  refine ⟨by omega, fun k t hk => large_noB ?_⟩
  obtain ⟨hlt, e⟩ := List.getElem?_eq_some_iff.1 hk
  have := h.2 t (by rw [← e]; exact List.getElem_mem hlt)
  simpa using this
set_option maxRecDepth 100000 in
set_option maxHeartbeats 16000000 in
theorem reads_law (xs : List TC) (A : Option Addr) (n c : Nat) (s : ByteArray) (w : World) (hx : LT3.rd w AllB A n xs) (hm : n ≤ 9223372036854775807) (hT : Tab w) :
    Calls Tryz.prog 3 #[.agg #[.slice A n c], .string s] w fun e w' => e = .returned (.bool true) ∧ Below w.heap.size w w' := by
  have q1 := bl_al (Below.refl w.heap.size w) (.cells #[.slice A n c] 24)
  have HX1 := Lib.hid (Lay.rd_below hx q1)
  have HT1 := Lib.hid (hT.below q1)
  have HB1 := Lib.hid (Blk.new w 24 #[.slice A n c])
  have HQ1 := Lib.hid q1
  have HLX := Lib.hid (Lay.rd_len hx)
  have hs1 : (w.alloc (.cells #[.slice A n c] 24)).heap.size = w.heap.size + 1 := by simp only [World.size_alloc]
  clear q1 hx hT
  go_enter Tryz.func3, Tryz.ntmps3
  go_wp2_with fail
  generalize w.alloc (.cells #[.slice A n c] 24) = w1 at *
  refine (wakes_any w1 HT1.out).mono ?_
  rintro e w2 ⟨rfl, q2⟩
  have HX2 := Lib.hid (Lay.rd_below HX1.out q2)
  have HT2 := Lib.hid (HT1.out.below q2)
  have HB2 := Lib.hid (HB1.out.ca q2)
  have HQ2 := Lib.hid (bl_ca HQ1.out q2)
  clear q2
  have y0 := HB2.out.cell 0
  go_wp2_with fail
  refine (over_any AllB xs A n c w2 HX2.out hm).mono ?_
  rintro e w3 ⟨rfl, q3⟩
  have HX3 := Lib.hid (Lay.rd_below HX2.out q3)
  have HT3 := Lib.hid (HT2.out.below q3)
  have HB3 := Lib.hid (HB2.out.ca q3)
  have HQ3 := Lib.hid (bl_ca HQ2.out q3)
  clear q3
  clear y0
  cases hov : overB xs
  case true =>
    clear hov
    go_wp2
    go_ret
    exact ⟨rfl, HQ3.out⟩
  have HOV := Lib.hid (over_noB hov)
  clear hov
  have hn20 : n ≤ 20 := by have := HLX.out; have := HOV.out.1; omega
  by_cases h1 : (5000 : Int) < (s.size : Int)
  · go_wp2
    go_ret
    exact ⟨rfl, HQ3.out⟩
  have y0 := HB3.out.cell 0
  go_wp2_with fail
  refine (copied_any AllB xs A n c w3 HX3.out (by omega) (fun k t hk => (HOV.out.2 k t hk).2)).mono ?_
  rintro e w4 ⟨A2, n2, c2, rfl, hr2, hn2, hc2, q4⟩
  have HX4 := Lib.hid (Lay.rd_below HX3.out q4)
  have HT4 := Lib.hid (HT3.out.below q4)
  have HB4 := Lib.hid (HB3.out.ca q4)
  have HQ4 := Lib.hid (bl_ca HQ3.out q4)
  clear q4
  have HC4 := Lib.hid hr2
  have hl2 : n2 ≤ 20 := by have := Lay.rd_len hr2; have := HOV.out.1; omega
  clear hr2 hn2 hc2 y0
  go_wp2_with fail
  refine (print_any _ xs A2 n2 c2 w4 HC4.out (by omega) HT4.out (fun k t hk => (HOV.out.2 k t hk).1)).mono ?_
  rintro e w5 ⟨rfl, q5⟩
  have HX5 := Lib.hid (Lay.rd_below HX4.out q5)
  have HT5 := Lib.hid (HT4.out.below q5)
  have HB5 := Lib.hid (HB4.out.ca q5)
  have HQ5 := Lib.hid (bl_ca HQ4.out q5)
  clear q5
  clear HC4
  have y0 := HB5.out.cell 0
  have HP := Lib.hid (show prS xs = if catB xs = true then ⟨(linesL xs).toArray⟩ else ⟨#[]⟩ from rfl)
  generalize prS xs = PS at *
  go_wp2_with fail
  refine (rcat_any AllB xs A n c w5 HX5.out hm (fun k t hk => (HOV.out.2 k t hk).1)).mono ?_
  rintro e w6 ⟨rfl, q6⟩
  have HX6 := Lib.hid (Lay.rd_below HX5.out q6)
  have HT6 := Lib.hid (HT5.out.below q6)
  have HB6 := Lib.hid (HB5.out.ca q6)
  have HQ6 := Lib.hid (bl_ca HQ5.out q6)
  clear q6
  clear y0
  cases hc : catB xs
  case false =>
    have e0 : PS.toList.isEmpty = true := by
      have h9 := HP.out
      rw [hc, if_neg (by decide)] at h9
      rw [h9]; decide +kernel
    rw [show eC false = 210 from rfl]
    clear hc HP
    go_wp2_with fail
    refine (parse_any s w6 HT6.out).mono ?_
    rintro e v1 ⟨A3, n3, c3, rfl, hr3, hn3, hc3, p1⟩
    have PT1 := Lib.hid (HT6.out.below p1)
    have PQ1 := Lib.hid (bl_ca HQ6.out p1)
    have p2 := bl_al (Below.refl v1.heap.size v1) (.cells #[.slice A3 n3 c3] 24)
    have PT2 := Lib.hid (PT1.out.below p2)
    have PQ2 := Lib.hid (bl_ca PQ1.out p2)
    have PB2 := Lib.hid (Blk.new v1 24 #[.slice A3 n3 c3])
    have PR2 := Lib.hid (Lay.rd_below hr3 p2)
    have hn3' : n3 ≤ 9223372036854775807 := Nat.le_trans hn3 hc3
    clear p1 p2 hr3 hn3 hc3
    have HRP := Lib.hid (fun (W : World) => rparse_any s W)
    generalize parseT s = PT at *
    obtain ⟨pl, pa, pe⟩ := PT
    go_wp2_with fail
    generalize hv2 : v1.alloc (.cells #[.slice A3 n3 c3] 24) = v2 at *
    refine (HRP.out v2).mono ?_
    rintro e v3 ⟨A4, n4, c4, rfl, hr4, p3⟩
    have hs2 : v2.heap.size = v1.heap.size + 1 := by rw [← hv2, World.size_alloc]
    clear hv2
    have p4 := bl_al p3 (.cells #[.slice A4 n4 c4] 24)
    have PQ4 := Lib.hid (bl_ca PQ2.out p4)
    have PB4 := Lib.hid (PB2.out.ca p4)
    have PN4 := Lib.hid (Blk.new v3 24 #[.slice A4 n4 c4])
    have PR4 := Lib.hid (Lay.rd_below PR2.out p4)
    have PS4 := Lib.hid (Lay.rd_below hr4 (bl_al (Below.refl v3.heap.size v3) (.cells #[.slice A4 n4 c4] 24)))
    clear p3 p4 hr4
    have z0 := PB4.out.cell 0
    have z1 := PN4.out.cell 0
    go_wp2_with fail
    generalize v3.alloc (.cells #[.slice A4 n4 c4] 24) = v4 at *
    refine (rsame_any AllB AllB pl pl A3 n3 c3 A4 n4 c4 v4 PR4.out PS4.out hn3').mono ?_
    rintro e v5 ⟨rfl, p5⟩
    rw [decide_eq_true (p := pl = pl) rfl]
    have PQ5 := Lib.hid (bl_ca PQ4.out p5)
    clear p5 z0 z1
    go_wp2
    go_ret
    exact ⟨rfl, PQ5.out⟩
  case true =>
    have hPS : PS = ⟨(linesL xs).toArray⟩ := by have h9 := HP.out; rw [hc, if_pos rfl] at h9; exact h9
    have HPS := Lib.hid hPS
    have HCP := Lib.hid ((catB_iff xs).1 hc)
    rw [show eC true = 0 from rfl]
    clear hc HP hPS
    have y0 := HB6.out.cell 0
    go_wp2_with fail
    refine (rprint_any AllB xs A n c w6 HX6.out HCP.out).mono ?_
    rintro e w7 ⟨rfl, q7⟩
    rw [← HPS.out]
    have HX7 := Lib.hid (Lay.rd_below HX6.out q7)
    have HT7 := Lib.hid (HT6.out.below q7)
    have HB7 := Lib.hid (HB6.out.ca q7)
    have HQ7 := Lib.hid (bl_ca HQ6.out q7)
    clear q7
    clear y0
    go_wp2_with fail
    refine (parse_any s w7 HT7.out).mono ?_
    rintro e v1 ⟨A3, n3, c3, rfl, hr3, hn3, hc3, p1⟩
    have PT1 := Lib.hid (HT7.out.below p1)
    have PQ1 := Lib.hid (bl_ca HQ7.out p1)
    have p2 := bl_al (Below.refl v1.heap.size v1) (.cells #[.slice A3 n3 c3] 24)
    have PT2 := Lib.hid (PT1.out.below p2)
    have PQ2 := Lib.hid (bl_ca PQ1.out p2)
    have PB2 := Lib.hid (Blk.new v1 24 #[.slice A3 n3 c3])
    have PR2 := Lib.hid (Lay.rd_below hr3 p2)
    have hn3' : n3 ≤ 9223372036854775807 := Nat.le_trans hn3 hc3
    clear p1 p2 hr3 hn3 hc3
    have HRP := Lib.hid (fun (W : World) => rparse_any s W)
    generalize parseT s = PT at *
    obtain ⟨pl, pa, pe⟩ := PT
    go_wp2_with fail
    generalize hv2 : v1.alloc (.cells #[.slice A3 n3 c3] 24) = v2 at *
    refine (HRP.out v2).mono ?_
    rintro e v3 ⟨A4, n4, c4, rfl, hr4, p3⟩
    have hs2 : v2.heap.size = v1.heap.size + 1 := by rw [← hv2, World.size_alloc]
    clear hv2
    have p4 := bl_al p3 (.cells #[.slice A4 n4 c4] 24)
    have PQ4 := Lib.hid (bl_ca PQ2.out p4)
    have PB4 := Lib.hid (PB2.out.ca p4)
    have PN4 := Lib.hid (Blk.new v3 24 #[.slice A4 n4 c4])
    have PR4 := Lib.hid (Lay.rd_below PR2.out p4)
    have PS4 := Lib.hid (Lay.rd_below hr4 (bl_al (Below.refl v3.heap.size v3) (.cells #[.slice A4 n4 c4] 24)))
    clear p3 p4 hr4
    have z0 := PB4.out.cell 0
    have z1 := PN4.out.cell 0
    go_wp2_with fail
    generalize v3.alloc (.cells #[.slice A4 n4 c4] 24) = v4 at *
    refine (rsame_any AllB AllB pl pl A3 n3 c3 A4 n4 c4 v4 PR4.out PS4.out hn3').mono ?_
    rintro e v5 ⟨rfl, p5⟩
    rw [decide_eq_true (p := pl = pl) rfl]
    have PQ5 := Lib.hid (bl_ca PQ4.out p5)
    clear p5 z0 z1
    go_wp2
    go_ret
    exact ⟨rfl, PQ5.out⟩
theorem reads_walk (xs : List TC) (A : Option Addr) (m c : Nat) (s : ByteArray) (W : World) (r0 : LT3.rd W AllB A m xs) (h0 : m ≤ c) (k0 : c ≤ 9223372036854775807) (_ : s.size ≤ maxLen) (hT : Tab W) :
    Calls Tryz.prog 3 #[.agg #[.slice A m c], .string s] W fun e w' => e = .returned (.bool true) ∧ Below W.heap.size W w' := reads_law xs A m c s W r0 (Nat.le_trans h0 k0) hT
end Go.Proofs.YthgcdilkkldgjaaGreatDoor
/- Arguments, by what they are made of: what an argument's cells hold. Conditions: none. -/
namespace Go.Proofs.YthgcdilkkldgjaaGreatDoor
open Go.ChangeShapes Go.WideShapes Go.ChangeAt Go.RowKit Go.Deep
/-- whatever is laid of type t reads as such data -/
def Opens (P : Program) {α : Type} (t : TypeId) (L : Lay α) (G : α → Prop) : Prop :=
  P.cellsOf t = L.size ∧ ∀ {H : Type} (enc : TypeId × Value → H) (w : World) (fuel : Nat) (cs : List Value) (x : DataW H × List MemPlace),
    DataW.trod enc P w 0 (fun _ => true) true fuel t cs = some x → ∃ a, L.rep w AllB a cs ∧ G a
section
variable {P : Program} {t : TypeId}
theorem opens_int {k : IntKind} (ht : P.underlying t = some (.int k)) (hc : P.cellsOf t = 1) : Opens P t (Lay.cell (Value.int k) (fun _ => rfl)) (fun n => (Lit.int k n).wf = true) :=
  ⟨hc, fun enc w fuel cs x h => by obtain ⟨n, e, _, wf⟩ := DataW.trod_int ht h; exact ⟨n, e, wf⟩⟩
theorem opens_bool (ht : P.underlying t = some .bool) (hc : P.cellsOf t = 1) : Opens P t (Lay.cell Value.bool (fun _ => rfl)) (fun _ => True) :=
  ⟨hc, fun enc w fuel cs x h => by obtain ⟨n, e, _⟩ := DataW.trod_bool ht h; exact ⟨n, e, trivial⟩⟩
theorem opens_str (ht : P.underlying t = some .string) (hc : P.cellsOf t = 1) : Opens P t (Lay.cell Value.string (fun _ => rfl)) (fun s => s.size ≤ maxLen) :=
  ⟨hc, fun enc w fuel cs x h => by obtain ⟨n, e, _, wf⟩ := DataW.trod_string ht h; exact ⟨n, e, wf⟩⟩
theorem lays_of {α : Type} {L : Lay α} {w : World} {F : Nat → Prop} {G : α → Prop} {a : Addr} : ∀ (n : Nat), (∀ i, i < n → ∃ x cs, L.rep w F x cs ∧ G x ∧ ∀ j u, cs[j]? = some u → w.cell? (a.add (i * L.size + j)) = some u) →
    ∃ xs cs, xs.length = n ∧ L.reps w F xs cs ∧ (∀ x ∈ xs, G x) ∧ ∀ j u, cs[j]? = some u → w.cell? (a.add j) = some u
  | 0, _ => ⟨[], [], rfl, rfl, by simp, by simp⟩
  | n + 1, h => by
    obtain ⟨xs, cs, hl, hr, hg, hc⟩ := lays_of n (fun i hi => h i (by omega))
    obtain ⟨x, ds, hx, gx, hd⟩ := h n (by omega)
    refine ⟨xs ++ [x], cs ++ ds, by simp [hl], Lay.reps_append hr (Lay.reps_single hx), ?_, fun j u hu => ?_⟩
    · intro y hy
      rcases List.mem_append.1 hy with hy | hy
      · exact hg y hy
      · rw [List.mem_singleton.1 hy]; exact gx
    · have hcl := Lay.reps_len hr
      rw [hl] at hcl
      rcases Nat.lt_or_ge j cs.length with hj | hj
      · rw [List.getElem?_append_left hj] at hu; exact hc j u hu
      · rw [List.getElem?_append_right hj] at hu
        have := hd _ u hu
        rwa [show n * L.size + (j - cs.length) = j from by rw [hcl] at hj ⊢; omega] at this
theorem cells_block {w : World} {p : Addr} {v : Value} (h : w.cell? p = some v) : p.block < w.heap.size := by
  unfold World.cell? at h
  rcases Nat.lt_or_ge p.block w.heap.size with h' | h'
  · exact h'
  · rw [Array.getElem?_eq_none h'] at h; cases h
theorem opens_slice {α : Type} {L : Lay α} {G : α → Prop} {e : TypeId} (ht : P.underlying t = some (.slice e)) (hc : P.cellsOf t = 1) (hp : 0 < L.size) (ho : Opens P e L G) :
    Opens P t L.slice (fun xs => ∀ x ∈ xs, G x) := by
  refine ⟨hc, fun enc w fuel cs x h => ?_⟩
  obtain ⟨hs, ho⟩ := ho
  rcases open_slice ht h with ⟨hcs, _⟩ | ⟨a, len, cap, m, n, D, Pl, hcs, _, hl, hm, hmm, _, hi⟩
  · exact ⟨[], ⟨none, 0, 0, hcs, Nat.le_refl _, by omega, Lay.rd_nil _⟩, by simp⟩
  · simp only [if_true] at hmm
    obtain ⟨xs, cs', hxl, hr, hg, hcc⟩ := lays_of (L := L) (w := w) (F := AllB) (G := G) (a := a) len (fun i hil => by
      obtain ⟨cs', h1, h2⟩ := hi i (by omega)
      obtain ⟨y, hy, gy⟩ := ho enc w n cs' _ h2
      obtain ⟨_, hlen, hat⟩ := World.cells?_some h1
      refine ⟨y, cs', hy, gy, fun j u hu => ?_⟩
      have hj : j < cs'.length := (List.getElem?_eq_some_iff.1 hu).1
      rw [← hs, ← Go.Deep.add_add, hat j (by omega), hu])
    refine ⟨xs, ⟨some a, len, cap, hcs, hl, hm, hxl, cs', hr, fun hn => ⟨a, rfl, ?_, trivial, hcc⟩⟩, hg⟩
    have hcl := Lay.reps_len hr
    have h0 : cs'[0]? = some (cs'[0]'(by rw [hcl, hxl]; exact Nat.mul_pos hn hp)) := List.getElem?_eq_getElem _
    have := cells_block (hcc 0 _ h0)
    rwa [show (a.add 0).block = a.block from by unfold Addr.add; split <;> rfl] at this
/-- the fields from one on -/
def OpensAt (P : Program) {α : Type} (fs : Array Field) (off : Nat) (L : Lay α) (G : α → Prop) : Prop :=
  ∀ {H : Type} (enc : TypeId × Value → H) (w : World) (fuel : Nat) (cs : List Value), cs.length = off + L.size →
    (∀ (j : Nat) (f : Field), fs[j]? = some f → ∃ x, DataW.trod enc P w 0 (fun _ => true) true fuel f.type ((cs.drop f.offset).take (P.cellsOf f.type)) = some x) → ∃ a, L.rep w AllB a (cs.drop off) ∧ G a
theorem opensAt_last {α : Type} {L : Lay α} {G : α → Prop} {fs : Array Field} {off : Nat} (i : Nat) (ft : TypeId) (hf : (fs[i]?).map (fun f => (f.type, f.offset)) = some (ft, off)) (ho : Opens P ft L G) : OpensAt P fs off L G := by
  intro H enc w fuel cs hl h
  obtain ⟨f, hfi, hfe⟩ := Option.map_eq_some_iff.1 hf
  injection hfe with e1 e2
  obtain ⟨x, hx⟩ := h i f hfi
  rw [e1, e2, ho.1, List.take_of_length_le (by rw [List.length_drop]; omega)] at hx
  exact ho.2 enc w fuel _ x hx
theorem opensAt_cons {α β : Type} {L : Lay α} {G : α → Prop} {M : Lay β} {G' : β → Prop} {fs : Array Field} {off : Nat} (i : Nat) (ft : TypeId) (hf : (fs[i]?).map (fun f => (f.type, f.offset)) = some (ft, off)) (ho : Opens P ft L G) (h2 : OpensAt P fs (off + L.size) M G') :
    OpensAt P fs off (L.pair M) (fun p => G p.1 ∧ G' p.2) := by
  intro H enc w fuel cs hl h
  obtain ⟨f, hfi, hfe⟩ := Option.map_eq_some_iff.1 hf
  injection hfe with e1 e2
  obtain ⟨x, hx⟩ := h i f hfi
  rw [e1, e2, ho.1] at hx
  obtain ⟨a, ra, ga⟩ := ho.2 enc w fuel _ x hx
  obtain ⟨b, rb, gb⟩ := h2 enc w fuel cs (by rw [hl]; exact (Nat.add_assoc _ _ _).symm) h
  refine ⟨(a, b), ⟨_, _, ?_, ra, rb⟩, ga, gb⟩
  rw [← List.drop_drop]
  exact (List.take_append_drop _ _).symm
theorem opens_struct {α : Type} {L : Lay α} {G : α → Prop} {fs : Array Field} (ht : P.underlying t = some (.struct fs)) (hc : P.cellsOf t = L.size) (h : OpensAt P fs 0 L G) : Opens P t L G := by
  refine ⟨hc, fun enc w fuel cs x hx => ?_⟩
  obtain ⟨xs, n, _, _, hl, hxl, hf⟩ := DataW.trod_struct ht hx
  have := h enc w n cs (by rw [hl, hc, Nat.zero_add]) (fun j f hj => by
    have hjl : j < fs.size := (Array.getElem?_eq_some_iff.1 hj).1
    exact ⟨xs[j]'(by omega), (hf j f hj).trans (List.getElem?_eq_getElem _)⟩)
  simpa using this
theorem opens_as {α β : Type} {L : Lay α} {G : α → Prop} {M : Lay β} {G' : β → Prop} (h : Opens P t L G) (hs : L.size = M.size) (hm : ∀ w a cs, L.rep w AllB a cs → G a → ∃ b, M.rep w AllB b cs ∧ G' b) : Opens P t M G' :=
  ⟨h.1.trans hs, fun enc w fuel cs x hx => by obtain ⟨a, ra, ga⟩ := h.2 enc w fuel cs x hx; exact hm w a cs ra ga⟩
/-- an argument that is a slice -/
theorem open_arg {α : Type} {L : Lay α} {G : List α → Prop} (ho : Opens P t L.slice G) {H : Type} {enc : TypeId × Value → H} {W : World} {A : Option Addr} {n c : Nat} {d : DataW H} {p : List MemPlace}
    (h : DataW.Trod enc P W 0 (fun _ => true) true t (.slice A n c) d p) : ∃ xs, L.rd W AllB A n xs ∧ G xs ∧ n ≤ c ∧ c ≤ 9223372036854775807 := by
  obtain ⟨fuel, hf⟩ := h
  obtain ⟨xs, ⟨A', n', c', e, h1, h2, h3⟩, g⟩ := ho.2 enc W fuel _ _ hf
  simp [Value.cells] at e
  obtain ⟨rfl, rfl, rfl⟩ := e
  exact ⟨xs, h3, g, h1, h2⟩
end
end Go.Proofs.YthgcdilkkldgjaaGreatDoor
/- The frame of the catalog's laws: what the tables hold, the first world, the wrap with the world's shape, the arguments. Conditions: none. -/
namespace Go.Proofs.YthgcdilkkldgjaaGreatDoor
open Go.ChangeShapes Go.WideShapes Go.ChangeAt Go.RowKit Go.Deep
variable {H : Type} {enc : TypeId × Value → H}
theorem Tryz.own : ownKnob Tryz.prog.godebug = none := by kernel_rfl
theorem Tryz.laidOut : laidOutB Tryz.prog = true := by kernel_rfl
def LD : List (String × DataW Unit) := Rows.catalogReadsRow.laid
theorem wrap_and_shaped {a : Assume} {C : Checked} {os : Os} {f : FuncId} {fn : Func} {s : ChangeSpec} {conds : List PathCond} {apart fresh handsOn again : Bool} {X : World → Array Value → Prop}
    (hX : ∀ (w w' : World) (args : Array Value), w.heap = w'.heap → X w args → X w' args)
    (own : ownKnob C.prog.godebug = none) (started : os.Started) (noInit : C.prog.inits.idxOf? f = none) (hfn : C.prog.funcs[f]? = some fn)
    (witness : ∃ (w : World) (tape : Tape) (i : Input), w.os = os ∧ (w.forCall tape i).Shaped C.prog ∧ i.vars = [] ∧ Input.okWide C.prog (w.forCall tape i) .any w.heap.size f i ∧
      ((s.pre enc C.prog fn conds apart (w.forCall tape i).memory i.args ∧ X (w.forCall tape i).memory i.args) ∧ sizedMet enc C.prog fn (OpenSpec.ofChange s) apart (w.forCall tape i).memory i.args) ∧ a.holds C.prog (lone (Frame.enter C.prog f i.args .normal) [] (w.forCall tape i)))
    (contract : ∀ (W : World) (base : Nat) (args : Array Value) (ds gs : List (DataW H)) (before : List MemPlace),
      (∀ (j : Nat) t v, fn.params[j]? = some t → args[j]? = some v → Value.okWide C.prog W .any base t v) →
      DataW.Whole enc C.prog fn.params.toList s.vars apart W args.toList ds gs before →
      X W args → W.ShapedOpen C.prog →
      Calls C.prog f args W fun e W' => ∃ v, e = .returned v ∧ s.post enc C.prog fn apart fresh handsOn again W args v W') :
    ReturnsInHanded a C os f .any (fun w args => (s.pre enc C.prog fn conds apart w args ∧ X w args) ∧ sizedMet enc C.prog fn (OpenSpec.ofChange s) apart w args) (s.post enc C.prog fn apart fresh handsOn again) := by
  refine returnsInHanded_of_calls own started noInit witness ?_
  intro w tape i _ hsh _ hok hpre _
  obtain ⟨_, _, _, fn', hfn', _, _, _, _, hval⟩ := hok
  have e : fn' = fn := Option.some.inj (hfn'.symm.trans hfn)
  subst e
  obtain ⟨⟨⟨ds, gs, before, hw, _⟩, hx⟩, _⟩ := hpre
  have hw' := DataW.Whole.of_heap (w' := w.forCall tape i) (by rfl) hw
  refine (contract (w.forCall tape i) w.heap.size i.args ds gs before hval hw' (hX _ _ _ (by rfl) hx) hsh).mono fun e W' ⟨v, he, hp⟩ => ?_
  subst he
  exact ChangeSpec.post_blind hp
theorem first_met (os : Os) (args : Array Value) : laidMetH Tryz.prog LD ((World.laidAll Tryz.prog os LD).forCall (fun _ _ => 0) ⟨#[], args, []⟩).memory := by
  rw [MakeChecks.laidMetH_plain _ _ _ (by kernel_rfl)]; exact laidMet_laidAll _ (by kernel_rfl) (by kernel_rfl)
theorem words_data {H : Type} : (Rows.laid_bowsprit_lex_words : DataW H) = .agg (wordsL.map fun s => .lit (.string s.data.toList)) := rfl
theorem at_of1 {cs : List Value} {i : Nat} {v : Value} (h : (cs.drop i).take 1 = [v]) : cs[i]? = some v := by
  have h9 : ((cs.drop i).take 1)[0]? = some v := by rw [h]; rfl
  rw [List.getElem?_take, if_pos (by omega), List.getElem?_drop] at h9
  exact h9
theorem lit_str {s s' : ByteArray} {q q' : List MemPlace} (h : ((DataW.lit (.string s.data.toList) : DataW H), q) = (.lit (.string s'.data.toList), q')) : s' = s := by
  have h1 := (Prod.mk.inj h).1
  injection h1 with h1
  injection h1 with h1
  apply ByteArray.ext
  apply Array.ext'
  exact h1.symm
set_option maxRecDepth 100000 in
theorem words_of {W : World} (h : Lib.VarReads Tryz.prog W "bowsprit/lex.words" Rows.laid_bowsprit_lex_words) : ∀ i s, wordsL[i]? = some s → W.cell? ⟨1, i, none⟩ = some (.string s) := by
  obtain ⟨g, t, cs, fuel, p, hg, ht, hv, hd⟩ := h
  obtain rfl := Option.some.inj ((show Tryz.prog.globalNamed "bowsprit/lex.words" = some 1 by kernel_rfl).symm.trans hg)
  obtain rfl := Option.some.inj ((show (Tryz.prog.globals[1]?).map (·.type) = some 116 by kernel_rfl).symm.trans ht)
  intro i s hi
  rw [words_data] at hd
  have hlt : i < 28 := (List.getElem?_eq_some_iff.1 hi).1
  obtain ⟨f2, d, q, hdi, hdt⟩ := Lib.array_elem Tryz.underlying116 hd i hlt
  have k1 : Tryz.prog.cellsOf 9 = 1 := by kernel_rfl
  rw [k1, Nat.mul_one] at hdt
  rw [List.getElem?_map, hi] at hdi
  obtain rfl := Option.some.inj hdi
  obtain ⟨s', e, hx, _⟩ := DataW.trod_string Tryz.underlying9 hdt
  rw [World.var?_cell hg hv i, ← Array.getElem?_toList, at_of1 e, lit_str hx]
def kindsL : List (ByteArray × Int) := [(sBool, 1), (sInt, 2), (sText, 3)]
theorem kinds_data {H : Type} : (Rows.laid_bowsprit_catalog_kinds : DataW H) = .agg (kindsL.map fun s => .agg [.lit (.string s.1.data.toList), .lit (.int .i64 s.2)]) := rfl
set_option maxRecDepth 100000 in
theorem kinds_of {W : World} (h : Lib.VarReads Tryz.prog W "bowsprit/catalog.kinds" Rows.laid_bowsprit_catalog_kinds) : ∀ i x, kindsL[i]? = some x → W.cell? ⟨0, i * 2, none⟩ = some (.string x.1) ∧ W.cell? ⟨0, i * 2 + 1, none⟩ = some (.int .i64 x.2) := by
  obtain ⟨g, t, cs, fuel, p, hg, ht, hv, hd⟩ := h
  obtain rfl := Option.some.inj ((show Tryz.prog.globalNamed "bowsprit/catalog.kinds" = some 0 by kernel_rfl).symm.trans hg)
  obtain rfl := Option.some.inj ((show (Tryz.prog.globals[0]?).map (·.type) = some 88 by kernel_rfl).symm.trans ht)
  intro i x hi
  rw [kinds_data] at hd
  have hlt : i < 3 := (List.getElem?_eq_some_iff.1 hi).1
  obtain ⟨f2, d, q, hdi, hdt⟩ := Lib.array_elem Tryz.underlying88 hd i hlt
  have k2 : Tryz.prog.cellsOf 87 = 2 := by kernel_rfl
  rw [k2] at hdt
  rw [List.getElem?_map, hi] at hdi
  obtain rfl := Option.some.inj hdi
  obtain ⟨xs, m, _, ex, hcl, hl, hf⟩ := DataW.trod_struct Tryz.underlying87 hdt
  match xs, hl with
  | [x0, x1], _ =>
    have k1 : Tryz.prog.cellsOf 9 = 1 := by kernel_rfl
    have k3 : Tryz.prog.cellsOf 3 = 1 := by kernel_rfl
    have f0 : DataW.trod _ Tryz.prog W 0 _ _ m 9 ((((cs.toList.drop (i * 2)).take 2).drop 0).take (Tryz.prog.cellsOf 9)) = some x0 := hf 0 _ rfl
    rw [k1] at f0
    have f1 : DataW.trod _ Tryz.prog W 0 _ _ m 3 ((((cs.toList.drop (i * 2)).take 2).drop 1).take (Tryz.prog.cellsOf 3)) = some x1 := hf 1 _ rfl
    rw [k3] at f1
    obtain ⟨s0, a0, b0, _⟩ := DataW.trod_string Tryz.underlying9 f0
    obtain ⟨z1, a1, b1, _⟩ := DataW.trod_int Tryz.underlying3 f1
    have e := (Prod.mk.inj ex).1
    simp only [b0, b1, List.map_cons, List.map_nil, DataW.agg.injEq, List.cons.injEq, DataW.lit.injEq, Lit.int.injEq, Lit.string.injEq, true_and, and_true] at e
    obtain ⟨e1, e2⟩ := e
    have h0 := at_of1 a0
    have h1 := at_of1 a1
    rw [List.getElem?_take, if_pos (by omega), List.getElem?_drop] at h0 h1
    have es : s0 = x.1 := by apply ByteArray.ext; apply Array.ext'; exact e1.symm
    exact ⟨by rw [World.var?_cell hg hv, ← Array.getElem?_toList]; exact h0.trans (by rw [es]), by rw [World.var?_cell hg hv, ← Array.getElem?_toList]; exact h1.trans (by rw [e2])⟩
set_option maxRecDepth 100000 in
theorem of_laid {W : World} (h : laidMetH Tryz.prog LD W) (hs : W.ShapedOpen Tryz.prog) : Tab W := by
  rw [MakeChecks.laidMetH_plain _ _ _ (by kernel_rfl)] at h
  have hk := kinds_of (Lib.laidMet.reads h (.tail _ (.tail _ (.head _))))
  have hw := words_of (Lib.laidMet.reads h (.tail _ (.head _)))
  have hc := caseVar_of_reads { Tryz.lays158 with } Tryz.lays158.t206 ⟨by kernel_rfl, by kernel_rfl, by kernel_rfl, by kernel_rfl, by kernel_rfl, by kernel_rfl⟩ (Lib.laidMet.reads h (.tail _ (.tail _ (.tail _ (.head _)))))
  have hu := utf8Tabs_of_reads { Tryz.lays158 with } ⟨by kernel_rfl, by kernel_rfl, by kernel_rfl, by kernel_rfl, by kernel_rfl, by kernel_rfl, by kernel_rfl⟩ (Lib.laidMet.reads h (.tail _ (.tail _ (.tail _ (.tail _ (.head _)))))) (Lib.laidMet.reads h (.head _))
  exact ⟨(hk 0 _ rfl).1, (hk 0 _ rfl).2, (hk 1 _ rfl).1, (hk 1 _ rfl).2, (hk 2 _ rfl).1, (hk 2 _ rfl).2, hw,
    Go.Proofs.cell_of_shapedOpen_int (P := Tryz.prog) (w := W) (g := 2) (zero := #[.int .i64 0]) (t := 3) hs (of_decide_eq_true (by kernel_rfl)) (by kernel_rfl) rfl (by kernel_rfl) (by kernel_rfl) Tryz.underlying3, hc, hu⟩
theorem open_agg {P : Program} {t : TypeId} {fs : Array Field} (ht : P.underlying t = some (.struct fs)) {α : Type} {L : Lay α} {G : α → Prop} (ho : Opens P t L G) {H : Type} {enc : TypeId × Value → H} {W : World} {r : Reach} {base : Nat} {v : Value} {d : DataW H} {p : List MemPlace}
    (hv : Value.okWide P W r base t v) (h : DataW.Trod enc P W 0 (fun _ => true) true t v d p) : ∃ a cs, v = .agg cs ∧ L.rep W AllB a cs.toList ∧ G a := by
  obtain ⟨cs, rfl, _⟩ := okWide_struct ht hv
  obtain ⟨fuel, hf⟩ := h
  obtain ⟨a, ha, g⟩ := ho.2 enc W fuel _ _ hf
  exact ⟨a, cs, rfl, by simpa [Value.cells] using ha, g⟩
theorem opens_col : Opens Tryz.prog 71 LCO (fun _ => True) :=
  opens_as (opens_struct Tryz.underlying71 (by kernel_rfl)
    (opensAt_cons 0 9 (by kernel_rfl) (opens_str Tryz.underlying9 (by kernel_rfl))
      (opensAt_last 1 3 (by kernel_rfl) (opens_int Tryz.underlying3 (by kernel_rfl))))) rfl
    (fun w a cs h g => by
      obtain ⟨s, k⟩ := a
      obtain ⟨_, _, rfl, rfl, rfl⟩ := h
      exact ⟨⟨s, k⟩, rfl, trivial⟩)
set_option maxRecDepth 100000 in
theorem opens_table : Opens Tryz.prog 41 LT3 (fun _ => True) :=
  opens_as (opens_struct Tryz.underlying41 (by kernel_rfl)
    (opensAt_cons 0 9 (by kernel_rfl) (opens_str Tryz.underlying9 (by kernel_rfl))
    (opensAt_cons 1 38 (by kernel_rfl) (opens_slice Tryz.underlying38 (by kernel_rfl) (by decide) opens_col)
      (opensAt_last 2 39 (by kernel_rfl) (opens_slice Tryz.underlying39 (by kernel_rfl) (by decide) (opens_int Tryz.underlying3 (by kernel_rfl))))))) rfl
    (fun w a cs h g => by
      obtain ⟨s, l, ks⟩ := a
      obtain ⟨_, _, rfl, rfl, _, _, rfl, ⟨A, n, c, rfl, h1, h2, hr⟩, B, m, d, rfl, h3, h4, hr2⟩ := h
      exact ⟨⟨s, l, ks⟩, ⟨A, n, c, B, m, d, rfl, h1, h2, hr, h3, h4, hr2⟩, trivial⟩)
theorem opens_tables : Opens Tryz.prog 22 LT3.slice (fun xs => ∀ x ∈ xs, True) := opens_slice Tryz.underlying22 (by kernel_rfl) (by decide) opens_table
theorem opens_cat : Opens Tryz.prog 24 LT3.slice (fun xs => ∀ x ∈ xs, True) := opens_struct Tryz.underlying24 (by kernel_rfl) (opensAt_last 0 22 (by kernel_rfl) opens_tables)
set_option maxRecDepth 100000 in
theorem open_cat {W : World} {r : Reach} {base : Nat} {v : Value} {d : DataW H} {p : List MemPlace} (hv : Value.okWide Tryz.prog W r base 24 v) (h : DataW.Trod enc Tryz.prog W 0 (fun _ => true) true 24 v d p) :
    ∃ (xs : List TC) (A : Option Addr) (n c : Nat), v = .agg #[.slice A n c] ∧ LT3.rd W AllB A n xs ∧ n ≤ c ∧ c ≤ 9223372036854775807 := by
  obtain ⟨xs, cs, rfl, ⟨A, n, c, e, h1, h2, hr⟩, g⟩ := open_agg Tryz.underlying24 opens_cat hv h
  exact ⟨xs, A, n, c, by rw [show cs = #[.slice A n c] from by apply Array.ext'; exact e], hr, h1, h2⟩
set_option maxRecDepth 100000 in
theorem open_table {W : World} {r : Reach} {base : Nat} {v : Value} {d : DataW H} {p : List MemPlace} (hv : Value.okWide Tryz.prog W r base 41 v) (h : DataW.Trod enc Tryz.prog W 0 (fun _ => true) true 41 v d p) :
    ∃ (x : TC) (A : Option Addr) (n c : Nat) (B : Option Addr) (m k : Nat), v = .agg (x.cells A n c B m k) ∧ LCO.rd W AllB A n x.cols ∧ n ≤ c ∧ c ≤ 9223372036854775807 ∧ LK.rd W AllB B m x.keys ∧ m ≤ k ∧ k ≤ 9223372036854775807 := by
  obtain ⟨x, cs, rfl, ⟨A, n, c, B, m, k, e, h1, h2, hr, h3, h4, hr2⟩, g⟩ := open_agg Tryz.underlying41 opens_table hv h
  exact ⟨x, A, n, c, B, m, k, by rw [show cs = x.cells A n c B m k from by apply Array.ext'; exact e], hr, h1, h2, hr2, h3, h4⟩
set_option maxRecDepth 100000 in
theorem open_tables {W : World} {A : Option Addr} {n c : Nat} {d : DataW H} {p : List MemPlace} (h : DataW.Trod enc Tryz.prog W 0 (fun _ => true) true 22 (.slice A n c) d p) :
    ∃ xs, LT3.rd W AllB A n xs ∧ (∀ x ∈ xs, True) ∧ n ≤ c ∧ c ≤ 9223372036854775807 := open_arg opens_tables h
set_option maxRecDepth 100000 in
theorem open_strV {W : World} {r : Reach} {base : Nat} {v : Value} {d : DataW H} {p : List MemPlace} (hv : Value.okWide Tryz.prog W r base 9 v) (h : DataW.Trod enc Tryz.prog W 0 (fun _ => true) true 9 v d p) :
    ∃ s : ByteArray, v = .string s ∧ s.size ≤ maxLen := by
  obtain ⟨s, rfl⟩ := okWide_string Tryz.underlying9 hv
  obtain ⟨fuel, hf⟩ := h
  obtain ⟨n, e, _, wf⟩ := DataW.trod_string Tryz.underlying9 hf
  simp [Value.cells] at e
  subst e
  exact ⟨s, rfl, wf⟩
end Go.Proofs.YthgcdilkkldgjaaGreatDoor
