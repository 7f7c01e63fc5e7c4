/- The layer's Drop. Conditions: the slice reads so; what the tables hold; names and rows are not endless. -/
import Derived.Test.YthgcdilkkldgjaaDoorCDel
namespace Go.Proofs.YthgcdilkkldgjaaDoor
open Go.RowKit
noncomputable def dropE (l : List TC) (s : ByteArray) : Int := if catB l = false then 210 else if 0 ≤ idxL (fun x : TC => decide (x.name = s)) l then 0 else 4
noncomputable def dropR (l : List TC) (s : ByteArray) : List TC := if dropE l s = 0 then l.eraseIdx (idxL (fun x : TC => decide (x.name = s)) l).toNat else []
set_option maxRecDepth 100000 in
set_option maxHeartbeats 16000000 in
theorem drop_any (F : Nat → Prop) (l : List TC) (A : Option Addr) (m c : Nat) (s : ByteArray) (w : World) (h : LT3.rd w F A m l) (hm : m ≤ 100000) (hT : Tab w) (hs : ∀ (k : Nat) (t : TC), l[k]? = some t → Sz t ∧ Ln t) :
    Calls Tryd.prog 13 #[.agg #[.slice A m c], .string s] w (AddO (dropE l s) (dropR l s) w) := by
  have HL := Lib.hid (Lay.rd_len h)
  have HS := Lib.hid hs
  have q3 := bl_al (bl_al (Below.refl w.heap.size w) (.cells #[.slice A m c] 24)) (.cells #[.slice none 0 0] 24)
  have HRD := Lib.hid (Lay.rd_below h q3)
  have HTB := Lib.hid (hT.below q3)
  have HB := Lib.hid ((Blk.new w 24 #[.slice A m c]).alloc (.cells #[.slice none 0 0] 24))
  have HO := Lib.hid (Blk.new (w.alloc (.cells #[.slice A m c] 24)) 24 #[.slice none 0 0])
  rw [World.size_alloc] at HO
  have HQ3 := Lib.hid q3
  have hs3 : ((w.alloc (.cells #[.slice A m c] 24)).alloc (.cells #[.slice none 0 0] 24)).heap.size = w.heap.size + 2 := by simp only [World.size_alloc]
  have y0 := HB.out.cell 0
  clear q3 h hs hT
  have HE := Lib.hid (show dropE l s = if catB l = false then 210 else if 0 ≤ idxL (fun x : TC => decide (x.name = s)) l then 0 else 4 from rfl)
  have HRR := Lib.hid (show dropR l s = if dropE l s = 0 then l.eraseIdx (idxL (fun x : TC => decide (x.name = s)) l).toNat else [] from rfl)
  generalize dropE l s = E at *
  generalize dropR l s = RR at *
  go_enter Tryd.func13, Tryd.ntmps13
  go_wp2_with fail
  generalize (w.alloc (.cells #[.slice A m c] 24)).alloc (.cells #[.slice none 0 0] 24) = w2 at *
  refine (check_any F l A m c w2 HRD.out (by omega) HTB.out (fun k x hx => (HS.out k x hx).1)).mono ?_
  rintro e w3 ⟨rfl, q3⟩
  clear y0
  have HB3 := Lib.hid (HB.out.ca q3)
  have HO3 := Lib.hid (HO.out.ca q3)
  have HRD3 := Lib.hid (Lay.rd_below HRD.out q3)
  have HQ3 := Lib.hid (bl_ca HQ3.out q3)
  have hs4 := q3.size
  clear q3 HB HO HRD HTB
  obtain ⟨cb, hcb⟩ : ∃ cb, cb = catB l := ⟨_, rfl⟩
  rw [← hcb] at HE ⊢
  clear hcb
  cases cb
  · have HF := Lib.hid (show E = 210 ∧ RR = [] from by
      have h9 : E = 210 := by rw [HE.out, if_pos rfl]
      exact ⟨h9, by rw [HRR.out, h9]; rfl⟩)
    rw [show eC false = 210 from rfl]
    go_wp2_with (first | (refine wpList_store_blk rfl 24 (.tmp 4) (.tmp 13) rfl (w.heap.size + 1) 24 #[.slice none 0 0] #[.slice none 0 0] rfl rfl HO3.out rfl catI (by simp [Value.oneCell']) ?_; intro w8 h8 g8))
    exact bodyPost_ret (res2 Tryd.results13 rfl rfl h8 Tryd.underlying24 rfl catI) rfl ⟨none, 0, 0, by rw [HF.out.1]; rfl, by rw [HF.out.2]; exact Lay.rd_nil _, by omega, by omega, bl_gr HQ3.out g8 (by omega)⟩
  rw [show eC true = 0 from rfl]
  have y0 := HB3.out.cell 0
  go_wp2_with fail
  refine (find_any F l A m c s w3 HRD3.out (by omega)).mono ?_
  rintro e w4 ⟨rfl, q4⟩
  clear y0
  obtain ⟨z, hz⟩ : ∃ z, z = idxL (fun x : TC => decide (x.name = s)) l := ⟨_, rfl⟩
  have hzl : z < l.length := by rw [hz]; unfold idxL; split <;> omega
  rw [← hz] at HE HRR ⊢
  clear hz
  have HB4 := Lib.hid (HB3.out.ca q4)
  have HO4 := Lib.hid (HO3.out.ca q4)
  have HRD4 := Lib.hid (Lay.rd_below HRD3.out q4)
  have HQ4 := Lib.hid (bl_ca HQ3.out q4)
  have hs5 := q4.size
  clear q4 HB3 HO3 HRD3 HQ3
  by_cases hz : 0 ≤ z
  · have HF := Lib.hid (show E = 0 ∧ RR = l.eraseIdx z.toNat from by
      have h9 : E = 0 := by rw [HE.out, if_neg (by simp), if_pos hz]
      exact ⟨h9, by rw [HRR.out, h9]; rfl⟩)
    have hz1 : decide (0 ≤ z) = true := decide_eq_true hz
    obtain ⟨i, hi⟩ : ∃ i : Nat, fnd z = (i : Int) := ⟨z.toNat, by unfold fnd; omega⟩
    have HI := Lib.hid (show z.toNat = i from by unfold fnd at hi; omega)
    have him : i < m := by have := HL.out; unfold fnd at hi; omega
    have y0 := HB4.out.cell 0
    rw [hi]
    clear hz hzl hi
    go_wp2_with fail
    refine (copies_any F l A m c w4 HRD4.out hm (fun k x hx => (HS.out k x hx).2)).mono ?_
    rintro e w5 ⟨A2, c2, rfl, ho, q5⟩
    clear y0
    have HOW := Lib.hid ho
    have HO5 := Lib.hid (HO4.out.ca q5)
    have HQ5 := Lib.hid (bl_ca HQ4.out q5)
    have hs6 := q5.size
    clear q5 ho
    go_wp2_with fail
    rw [show (i : Int) + 1 = ((i + 1 : Nat) : Int) from by omega]
    refine (del_any _ _ A2 m c2 i (i + 1) l w5 HOW.out (by omega) (by omega) (by omega) (by omega)).mono ?_
    rintro e w6 ⟨rfl, ho, g6⟩
    have hob := Lay.own_base HOW.out
    have q6 : Below w4.heap.size w5 w6 := (Below.refl _ _).grown g6 (by omega) (fun k e => (hob k e).1)
    have HCP := Lib.hid (Lay.own_caps ho)
    have HRD6 := Lib.hid (Lay.own_rd2 ho (F := fun b => w4.heap.size ≤ b) (fun b hb => (Lay.own_base ho b hb).1) (fun b hb _ => hb.1))
    have HO6 : Hid (Blk w6 (w.heap.size + 1) 24 #[.slice none 0 0]) := Lib.hid ((q6.block _ (by omega)).trans HO5.out)
    have HQ6 := Lib.hid (HQ5.out.trans (q6.mono (by omega)))
    have hs7 := q6.size
    clear q6 g6 hob ho HOW HO5 HQ5
    go_wp2_with (first | (refine wpList_store_blk rfl 24 (.tmp 4) (.tmp 31) rfl (w.heap.size + 1) 24 #[.slice none 0 0] #[.slice A2 (m - 1) c2] rfl rfl HO6.out rfl catI (by simp [Value.oneCell']) ?_; intro w8 h8 g8))
    exact bodyPost_ret (res2 Tryd.results13 rfl rfl h8 Tryd.underlying24 rfl catI) rfl ⟨A2, m - 1, c2, by rw [HF.out.1]; rfl, by rw [HF.out.2, HI.out]; exact Lay.rd_weak (fun b hb _ => by omega) (rd_grownH HRD6.out g8 (fun b hb => by omega)), HCP.out.1, HCP.out.2, bl_gr HQ6.out g8 (by omega)⟩
  have HF := Lib.hid (show E = 4 ∧ RR = [] from by
    have h9 : E = 4 := by rw [HE.out, if_neg (by simp), if_neg hz]
    exact ⟨h9, by rw [HRR.out, h9]; rfl⟩)
  have hz1 : decide (0 ≤ z) = false := decide_eq_false hz
  clear hz
  go_wp2_with (first | (refine wpList_store_blk rfl 24 (.tmp 4) (.tmp 23) rfl (w.heap.size + 1) 24 #[.slice none 0 0] #[.slice none 0 0] rfl rfl HO4.out rfl catI (by simp [Value.oneCell']) ?_; intro w8 h8 g8))
  exact bodyPost_ret (res2 Tryd.results13 rfl rfl h8 Tryd.underlying24 rfl catI) rfl ⟨none, 0, 0, by rw [HF.out.1]; rfl, by rw [HF.out.2]; exact Lay.rd_nil _, by omega, by omega, bl_gr HQ4.out g8 (by omega)⟩
end Go.Proofs.YthgcdilkkldgjaaDoor
