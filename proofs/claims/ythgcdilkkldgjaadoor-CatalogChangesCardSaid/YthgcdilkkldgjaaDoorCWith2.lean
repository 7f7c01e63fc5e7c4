/- The reference's With; the law's small. Conditions: the slices read so. -/
import Derived.Test.YthgcdilkkldgjaaDoorCWith
namespace Go.Proofs.YthgcdilkkldgjaaDoor
open Go.RowKit
theorem woF_none : ∀ (l : List TC) (i : Nat), woF (-1) i l = l
  | [], _ => rfl
  | t :: l, i => by
    simp only [woF]
    rw [if_neg (by omega), woF_none l (i + 1)]
set_option maxRecDepth 100000 in
set_option maxHeartbeats 4000000 in
theorem with_any (F : Nat → Prop) (l : List TC) (A : Option Addr) (m c : Nat) (t : TC) (A1 : Option Addr) (n1 c1 : Nat) (B1 : Option Addr) (m1 d1 : Nat) (w : World) (h : LT3.rd w F A m l) (hm : m ≤ 1000000)
    (h1 : LCO.rd w F A1 n1 t.cols) (h2 : n1 ≤ c1) (h3 : c1 ≤ 9223372036854775807) (h4 : LK.rd w F B1 m1 t.keys) (h5 : m1 ≤ d1) (h6 : d1 ≤ 9223372036854775807) :
    Calls Tryd.prog 18 #[.agg #[.slice A m c], .agg (t.cells A1 n1 c1 B1 m1 d1)] w fun e w' => ∃ A2 n2 c2, e = .returned (.agg #[.slice A2 n2 c2]) ∧ LT3.rd w' (fun b => (F b ∧ b < w.heap.size) ∨ w.heap.size ≤ b) A2 n2 (l ++ [t]) ∧ Below w.heap.size w w' := by
  have HL := Lib.hid (Lay.rd_len h)
  have q3 := bl_al (bl_al (bl_al (Below.refl w.heap.size w) (.cells #[.slice A m c] 24)) (.cells (t.cells A1 n1 c1 B1 m1 d1) 28)) (.cells #[.slice none 0 0] 24)
  have HRD := Lib.hid (Lay.rd_below (Lay.rd_weak (G := fun b => F b ∧ b < w.heap.size) (fun b hb hl => ⟨hb, hl⟩) h) q3)
  have HR1 := Lib.hid (Lay.rd_below (Lay.rd_weak (G := fun b => F b ∧ b < w.heap.size) (fun b hb hl => ⟨hb, hl⟩) h1) q3)
  have HR2 := Lib.hid (Lay.rd_below (Lay.rd_weak (G := fun b => F b ∧ b < w.heap.size) (fun b hb hl => ⟨hb, hl⟩) h4) q3)
  have HB := Lib.hid (((Blk.new w 24 #[.slice A m c]).alloc (.cells (t.cells A1 n1 c1 B1 m1 d1) 28)).alloc (.cells #[.slice none 0 0] 24))
  have HT := Lib.hid ((Blk.new (w.alloc (.cells #[.slice A m c] 24)) 28 (t.cells A1 n1 c1 B1 m1 d1)).alloc (.cells #[.slice none 0 0] 24))
  have HO := Lib.hid (Blk.new ((w.alloc (.cells #[.slice A m c] 24)).alloc (.cells (t.cells A1 n1 c1 B1 m1 d1) 28)) 24 #[.slice none 0 0])
  rw [World.size_alloc] at HT
  rw [World.size_alloc, World.size_alloc] at HO
  have HQ3 := Lib.hid q3
  clear q3 h h1 h4
  have y0 := HB.out.cell 0
  go_enter Tryd.func18, Tryd.ntmps18
  go_wp2_with fail
  have hs3 : (((w.alloc (.cells #[.slice A m c] 24)).alloc (.cells (t.cells A1 n1 c1 B1 m1 d1) 28)).alloc (.cells #[.slice none 0 0] 24)).heap.size = w.heap.size + 3 := by simp only [World.size_alloc]
  generalize ((w.alloc (.cells #[.slice A m c] 24)).alloc (.cells (t.cells A1 n1 c1 B1 m1 d1) 28)).alloc (.cells #[.slice none 0 0] 24) = w1 at *
  refine (without_any (fun b => F b ∧ b < w.heap.size) l A m c (-1) w1 HRD.out hm).mono ?_
  rintro e w2 ⟨A2, n2, c2, rfl, ho, q2, hs2⟩
  rw [woF_none] at ho
  have hln : n2 = m := (Lay.own_len ho).symm.trans HL.out
  subst hln
  have HOW := Lib.hid ho
  have HT2 := Lib.hid (HT.out.ca q2)
  have HO2 := Lib.hid (HO.out.ca q2)
  have HR12 := Lib.hid (Lay.rd_below HR1.out q2)
  have HR22 := Lib.hid (Lay.rd_below HR2.out q2)
  have HQ2 := Lib.hid (bl_ca HQ3.out q2)
  clear ho q2 y0 HB HT HO HR1 HR2 HRD HQ3
  obtain ⟨gz, hgz⟩ : ∃ g, g = w2.heap.size := ⟨_, rfl⟩
  have HZ := Lib.hid hgz
  have t0 := (HT2.out.alloc (.cells #[.slice A2 n2 c2] 24)).cell 0
  have t1 := (HT2.out.alloc (.cells #[.slice A2 n2 c2] 24)).cell 1
  have t2 := (HT2.out.alloc (.cells #[.slice A2 n2 c2] 24)).cell 2
  have z0 := (Blk.new w2 24 #[.slice A2 n2 c2]).cell 0
  have q21 := bl_al (bl_al (Below.refl w2.heap.size w2) (.cells #[.slice A2 n2 c2] 24)) (.cells (t.cells A1 n1 c1 B1 m1 d1) 28)
  have HOW3 := Lib.hid (Lay.own_below HOW.out q21)
  have HO3 := Lib.hid (HO2.out.ca q21)
  have HN3 := Lib.hid ((Blk.new w2 24 #[.slice A2 n2 c2]).alloc (.cells (t.cells A1 n1 c1 B1 m1 d1) 28))
  have HE3 := Lib.hid (Blk.new (w2.alloc (.cells #[.slice A2 n2 c2] 24)) 28 (t.cells A1 n1 c1 B1 m1 d1))
  have HR3 := Lib.hid (And.intro (Lay.rd_below HR12.out q21) (Lay.rd_below HR22.out q21))
  have HQ3 := Lib.hid (bl_ca HQ2.out q21)
  have hs4 : ((w2.alloc (.cells #[.slice A2 n2 c2] 24)).alloc (.cells (t.cells A1 n1 c1 B1 m1 d1) 28)).heap.size = w2.heap.size + 2 := by simp only [World.size_alloc]
  rw [World.size_alloc] at HE3
  have HOB := Lib.hid (fun k e => Lay.own_base HOW.out k e)
  have HRB := Lib.hid (show LT3.rd ((w2.alloc (.cells #[.slice A2 n2 c2] 24)).alloc (.cells (t.cells A1 n1 c1 B1 m1 d1) 28)) (fun b => (F b ∧ b < w.heap.size) ∧ b < w1.heap.size ∨ b = w2.heap.size + 1) (some ⟨w2.heap.size + 1, 0, none⟩) 1 [t] from Lay.rd_blk HE3.out rfl (Lay.reps_single ⟨A1, n1, c1, B1, m1, d1, rfl, h2, h3, Lay.rd_weak (fun b hb _ => .inl ⟨hb, by have := hb.2; omega⟩) HR3.out.1, h5, h6, Lay.rd_weak (fun b hb _ => .inl ⟨hb, by have := hb.2; omega⟩) HR3.out.2⟩) (.inr rfl))
  clear q21 HOW HO2 HT2 HR12 HR22 hgz
  go_wp2_with (first
    | (at_builtin; refine wpList_appLs (L := LT3) rfl (.tmp 9) (.tmp 11) 22 rfl _ 3 64 Tryd.underlying22 Tryd.tableInfo rfl rfl (by omega) (w1.heap.size + 3) (fun b => (F b ∧ b < w.heap.size) ∧ b < w1.heap.size ∨ b = w2.heap.size + 1) (fun b => (F b ∧ b < w.heap.size) ∧ b < w1.heap.size ∨ b = w2.heap.size + 1) A2 n2 c2 l (some ⟨w2.heap.size + 1, 0, none⟩) 1 1 [t] (n2 + 1) rfl rfl rfl (Lay.own_weak (fun b hb _ => .inl hb) HOW3.out) HRB.out (fun b hb _ => ⟨hb, fun e => by have h9 := HOB.out b e; omega⟩) (fun b hb => by simp only [World.size_alloc]; omega) (by omega) (by unfold maxLen; omega) (by simp only [World.size_alloc]; omega) ?_; intro A6 c6 w6 ho6 hg6 hat6; have HN6 := HN3.out.grown hg6 (fun e => by have h9 := HOB.out _ e.symm; omega); have HO6 := Lib.hid (HO3.out.grown hg6 (fun e => by have h9 := HOB.out _ e.symm; omega)); have HP6 := Lib.hid ho6; have HAT := Lib.hid hat6; have HQ6 := Lib.hid (HQ3.out.grown hg6 HQ3.out.size (fun k e => by have h9 := HOB.out k e; omega)); have z6 := HN6.cell 0; have f6 := HN6.frozen 0; have HNN := Lib.hid HN6; clear ho6 hg6 hat6 HN6)
    | (refine wpList_store_blk rfl 24 (.tmp 4) (.tmp 14) rfl (w.heap.size + 1 + 1) 24 #[.slice none 0 0] #[.slice A6 (n2 + 1) c6] rfl rfl (HO6.out.far (p := ⟨w2.heap.size, 0, none⟩) (by show w.heap.size + 1 + 1 ≠ w2.heap.size; omega) (.slice A6 (n2 + 1) c6)) rfl catI (by simp [Value.oneCell']) ?_; intro w8 h8 g8))
  have hg7 : w6.grownBy (w6.setCell ⟨w2.heap.size, 0, none⟩ (.slice A6 (n2 + 1) c6)) (some w2.heap.size) := only_setCell (World.grownBy.refl _ _) (.inl rfl) _
  have hr6 := Lay.own_rd2 (F := fun b => ((F b ∧ b < w.heap.size) ∨ w.heap.size ≤ b) ∧ b ≠ w2.heap.size ∧ b ≠ w.heap.size + 1 + 1) HP6.out (fun b e => by
    have h9 := Lay.own_base HP6.out b e
    rcases HAT.out with hat | hat
    · rw [hat] at e
      have h8 := HOB.out b e
      exact ⟨.inr (by omega), by omega, by omega⟩
    · rw [hat] at e
      injection e with e
      simp only [World.size_alloc] at e
      exact ⟨.inr (by omega), by omega, by omega⟩) (fun b hb _ => by
    rcases hb with hb | hb
    · exact ⟨.inl hb.1, by have := hb.2; omega, by have := hb.2; omega⟩
    · exact ⟨.inr (by omega), by omega, by omega⟩)
  exact bodyPost_ret (res1 Tryd.results18 rfl h8 Tryd.underlying24 rfl catI) rfl ⟨A6, n2 + 1, c6, rfl, Lay.rd_weak (fun b hb _ => hb.1) (rd_grownH (rd_grownH hr6 hg7 (fun b hb => hb.2.1)) g8 (fun b hb => hb.2.2)), bl_gr (bl_gr HQ6.out hg7 (by omega)) g8 (by omega)⟩
end Go.Proofs.YthgcdilkkldgjaaDoor
