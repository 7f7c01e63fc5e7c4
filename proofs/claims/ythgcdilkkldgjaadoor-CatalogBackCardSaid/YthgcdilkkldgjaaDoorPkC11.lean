/- The layer's Add. Conditions: the slices read so; what the tables hold; names and rows are not endless. -/
import Derived.Test.YthgcdilkkldgjaaDoorPkC10
import Derived.Lib.SlicesDelete
import Derived.Deep.RegionLaw
import Derived.Shelf.RegionOpen
import Derived.Shelf.RegionOpenPlain
namespace Go.Proofs.YthgcdilkkldgjaaDoor
open Go.RowKit
/-- a table's rows are not endless -/
def Ln (t : TC) : Prop := t.cols.length ≤ 100000 ∧ t.keys.length ≤ 100000
noncomputable def addE (l : List TC) (t : TC) : Int := if catB l = false then 210 else if tabB t = false then 211 else if 0 ≤ idxL (fun x : TC => decide (x.name = t.name)) l then 5 else if l.length = 4 then 6 else 0
noncomputable def addR (l : List TC) (t : TC) : List TC := if addE l t = 0 then l ++ [t] else []
def AddO (E : Int) (R : List TC) (w : World) (e : Ending) (w' : World) : Prop := ∃ A2 n2 c2, e = .returned (.tuple #[.agg #[.slice A2 n2 c2], .int .i64 E]) ∧ LT3.rd w' (fun b => w.heap.size ≤ b) A2 n2 R ∧ n2 ≤ c2 ∧ c2 ≤ 9223372036854775807 ∧ Below w.heap.size w w'
set_option maxRecDepth 100000 in
set_option maxHeartbeats 16000000 in
theorem add_any (F : Nat → Prop) (l : List TC) (A : Option Addr) (m c : Nat) (t : TC) (A1 : Option Addr) (n1 c1 : Nat) (B1 : Option Addr) (m1 d1 : Nat) (w : World) (h : LT3.rd w F A m l) (hm : m ≤ 100000) (hT : Tab w) (hs : ∀ (k : Nat) (t : TC), l[k]? = some t → Sz t ∧ Ln t)
    (h1 : LCO.rd w F A1 n1 t.cols) (h2 : LK.rd w F B1 m1 t.keys) (hst : Sz t) (hlt : Ln t) :
    Calls Tryd.prog 12 #[.agg #[.slice A m c], .agg (t.cells A1 n1 c1 B1 m1 d1)] w (AddO (addE l t) (addR l t) w) := by
  have HL := Lib.hid (Lay.rd_len h)
  have HS := Lib.hid hs
  have HST := Lib.hid hst
  have hn1 : n1 ≤ 100000 := by have := hlt.1; rw [Lay.rd_len h1] at this; exact this
  have hm1 : m1 ≤ 100000 := by have := hlt.2; rw [Lay.rd_len h2] at this; exact this
  have q3 := bl_al (bl_al (bl_al (Below.refl w.heap.size w) (.cells #[.slice A m c] 24)) (.cells (t.cells A1 n1 c1 B1 m1 d1) 28)) (.cells #[.slice none 0 0] 24)
  have HRD := Lib.hid (Lay.rd_below h q3)
  have HR1 := Lib.hid (Lay.rd_below h1 q3)
  have HR2 := Lib.hid (Lay.rd_below h2 q3)
  have HTB := Lib.hid (hT.below q3)
  have HB := Lib.hid (((Blk.new w 24 #[.slice A m c]).alloc (.cells (t.cells A1 n1 c1 B1 m1 d1) 28)).alloc (.cells #[.slice none 0 0] 24))
  have HT := Lib.hid ((Blk.new (w.alloc (.cells #[.slice A m c] 24)) 28 (t.cells A1 n1 c1 B1 m1 d1)).alloc (.cells #[.slice none 0 0] 24))
  have HO := Lib.hid (Blk.new ((w.alloc (.cells #[.slice A m c] 24)).alloc (.cells (t.cells A1 n1 c1 B1 m1 d1) 28)) 24 #[.slice none 0 0])
  rw [World.size_alloc] at HT
  rw [World.size_alloc, World.size_alloc] at HO
  have HQ3 := Lib.hid q3
  have hs3 : (((w.alloc (.cells #[.slice A m c] 24)).alloc (.cells (t.cells A1 n1 c1 B1 m1 d1) 28)).alloc (.cells #[.slice none 0 0] 24)).heap.size = w.heap.size + 3 := by simp only [World.size_alloc]
  have y0 := HB.out.cell 0
  have t0 := HT.out.cell 0
  clear q3 h h1 h2 hs hst hlt hT
  have HE := Lib.hid (show addE l t = if catB l = false then 210 else if tabB t = false then 211 else if 0 ≤ idxL (fun x : TC => decide (x.name = t.name)) l then 5 else if l.length = 4 then 6 else 0 from rfl)
  have HRR := Lib.hid (show addR l t = if addE l t = 0 then l ++ [t] else [] from rfl)
  generalize addE l t = E at *
  generalize addR l t = RR at *
  go_enter Tryd.func12, Tryd.ntmps12
  go_wp2_with fail
  generalize ((w.alloc (.cells #[.slice A m c] 24)).alloc (.cells (t.cells A1 n1 c1 B1 m1 d1) 28)).alloc (.cells #[.slice none 0 0] 24) = w1 at *
  refine (find_any F l A m c t.name w1 HRD.out (by omega)).mono ?_
  rintro e w2 ⟨rfl, q2⟩
  clear y0 t0
  obtain ⟨z, hz⟩ : ∃ z, z = idxL (fun x : TC => decide (x.name = t.name)) l := ⟨_, rfl⟩
  rw [← hz] at HE ⊢
  clear hz
  have HB2 := Lib.hid (HB.out.ca q2)
  have HT2 := Lib.hid (HT.out.ca q2)
  have HO2 := Lib.hid (HO.out.ca q2)
  have HRD2 := Lib.hid (Lay.rd_below HRD.out q2)
  have HR12 := Lib.hid (Lay.rd_below HR1.out q2)
  have HR22 := Lib.hid (Lay.rd_below HR2.out q2)
  have HTB2 := Lib.hid (HTB.out.below q2)
  have HQ2 := Lib.hid (bl_ca HQ3.out q2)
  have hs2 := q2.size
  clear q2 HB HT HO HRD HR1 HR2 HTB HQ3
  have y0 := HB2.out.cell 0
  go_wp2_with fail
  refine (check_any F l A m c w2 HRD2.out (by omega) HTB2.out (fun k x hx => (HS.out k x hx).1)).mono ?_
  rintro e w3 ⟨rfl, q3⟩
  clear y0
  have HB3 := Lib.hid (HB2.out.ca q3)
  have HT3 := Lib.hid (HT2.out.ca q3)
  have HO3 := Lib.hid (HO2.out.ca q3)
  have HRD3 := Lib.hid (Lay.rd_below HRD2.out q3)
  have HR13 := Lib.hid (Lay.rd_below HR12.out q3)
  have HR23 := Lib.hid (Lay.rd_below HR22.out q3)
  have HTB3 := Lib.hid (HTB2.out.below q3)
  have HQ3 := Lib.hid (bl_ca HQ2.out q3)
  have hs4 := q3.size
  clear q3 HB2 HT2 HO2 HRD2 HR12 HR22 HTB2 HQ2
  obtain ⟨cb, hcb⟩ : ∃ cb, cb = catB l := ⟨_, rfl⟩
  rw [← hcb] at HE ⊢
  clear hcb
  cases cb
  · have HF := Lib.hid (show E = 210 ∧ RR = [] from by
      have h9 : E = 210 := by rw [HE.out, if_pos rfl]
      exact ⟨h9, by rw [HRR.out, h9]; rfl⟩)
    rw [show eC false = 210 from rfl]
    go_wp2_with (first | (refine wpList_store_blk rfl 24 (.tmp 4) (.tmp 19) rfl (w.heap.size + 1 + 1) 24 #[.slice none 0 0] #[.slice none 0 0] rfl rfl HO3.out rfl catI (by simp [Value.oneCell']) ?_; intro w8 h8 g8))
    exact bodyPost_ret (res2 Tryd.results12 rfl rfl h8 Tryd.underlying24 rfl catI) rfl ⟨none, 0, 0, by rw [HF.out.1]; rfl, by rw [HF.out.2]; exact Lay.rd_nil _, by omega, by omega, bl_gr HQ3.out g8 (by omega)⟩
  rw [show eC true = 0 from rfl]
  have t0 := HT3.out.cell 0
  have t1 := HT3.out.cell 1
  have t2 := HT3.out.cell 2
  go_wp2_with fail
  refine (checkt_any F F t A1 n1 c1 B1 m1 d1 w3 HR13.out HR23.out (by omega) (by omega) HTB3.out HST.out).mono ?_
  rintro e w4 ⟨rfl, q4⟩
  clear t0 t1 t2
  have HB4 := Lib.hid (HB3.out.ca q4)
  have HT4 := Lib.hid (HT3.out.ca q4)
  have HO4 := Lib.hid (HO3.out.ca q4)
  have HRD4 := Lib.hid (Lay.rd_below HRD3.out q4)
  have HR14 := Lib.hid (Lay.rd_below HR13.out q4)
  have HR24 := Lib.hid (Lay.rd_below HR23.out q4)
  have HQ4 := Lib.hid (bl_ca HQ3.out q4)
  have hs5 := q4.size
  clear q4 HB3 HT3 HO3 HRD3 HR13 HR23 HTB3 HQ3
  obtain ⟨tb, htb⟩ : ∃ tb, tb = tabB t := ⟨_, rfl⟩
  rw [← htb] at HE ⊢
  clear htb
  cases tb
  · have HF := Lib.hid (show E = 211 ∧ RR = [] from by
      have h9 : E = 211 := by rw [HE.out, if_neg (by simp), if_pos rfl]
      exact ⟨h9, by rw [HRR.out, h9]; rfl⟩)
    rw [show eT false = 211 from rfl]
    go_wp2_with (first | (refine wpList_store_blk rfl 24 (.tmp 4) (.tmp 24) rfl (w.heap.size + 1 + 1) 24 #[.slice none 0 0] #[.slice none 0 0] rfl rfl HO4.out rfl catI (by simp [Value.oneCell']) ?_; intro w8 h8 g8))
    exact bodyPost_ret (res2 Tryd.results12 rfl rfl h8 Tryd.underlying24 rfl catI) rfl ⟨none, 0, 0, by rw [HF.out.1]; rfl, by rw [HF.out.2]; exact Lay.rd_nil _, by omega, by omega, bl_gr HQ4.out g8 (by omega)⟩
  rw [show eT true = 0 from rfl]
  by_cases hz : 0 ≤ z
  · have HF := Lib.hid (show E = 5 ∧ RR = [] from by
      have h9 : E = 5 := by rw [HE.out, if_neg (by simp), if_neg (by simp), if_pos hz]
      exact ⟨h9, by rw [HRR.out, h9]; rfl⟩)
    have hz1 : decide (0 ≤ z) = true := decide_eq_true hz
    go_wp2_with (first | (refine wpList_store_blk rfl 24 (.tmp 4) (.tmp 27) rfl (w.heap.size + 1 + 1) 24 #[.slice none 0 0] #[.slice none 0 0] rfl rfl HO4.out rfl catI (by simp [Value.oneCell']) ?_; intro w8 h8 g8))
    exact bodyPost_ret (res2 Tryd.results12 rfl rfl h8 Tryd.underlying24 rfl catI) rfl ⟨none, 0, 0, by rw [HF.out.1]; rfl, by rw [HF.out.2]; exact Lay.rd_nil _, by omega, by omega, bl_gr HQ4.out g8 (by omega)⟩
  have hz1 : decide (0 ≤ z) = false := decide_eq_false hz
  have y0 := HB4.out.cell 0
  by_cases h4 : m = 4
  · have HF := Lib.hid (show E = 6 ∧ RR = [] from by
      have h9 : E = 6 := by rw [HE.out, if_neg (by simp), if_neg (by simp), if_neg hz, if_pos (by rw [HL.out]; exact h4)]
      exact ⟨h9, by rw [HRR.out, h9]; rfl⟩)
    have e4 : ((m : Int) == 4) = true := by simp; omega
    clear hz h4
    go_wp2_with (first | (refine wpList_store_blk rfl 24 (.tmp 4) (.tmp 33) rfl (w.heap.size + 1 + 1) 24 #[.slice none 0 0] #[.slice none 0 0] rfl rfl HO4.out rfl catI (by simp [Value.oneCell']) ?_; intro w8 h8 g8))
    exact bodyPost_ret (res2 Tryd.results12 rfl rfl h8 Tryd.underlying24 rfl catI) rfl ⟨none, 0, 0, by rw [HF.out.1]; rfl, by rw [HF.out.2]; exact Lay.rd_nil _, by omega, by omega, bl_gr HQ4.out g8 (by omega)⟩
  have HF := Lib.hid (show E = 0 ∧ RR = l ++ [t] from by
    have h9 : E = 0 := by rw [HE.out, if_neg (by simp), if_neg (by simp), if_neg hz, if_neg (by rw [HL.out]; exact h4)]
    exact ⟨h9, by rw [HRR.out, h9]; rfl⟩)
  have e4 : ((m : Int) == 4) = false := by simp; omega
  clear hz h4
  go_upto_region 10 with fail
  clear e4 hz1 y0 HE HRR
  refine wp_region_ps (S := SeqN [2, 4, 5, 6, 8] (fun z mm w' => match z with | 0 => Below w4.heap.size w4 w' | 1 => Below w4.heap.size w4 w' ∧ ∃ A2 c2 Bx, mm 2 = .slice A2 m c2 ∧ w4.heap.size ≤ Bx ∧ LT3.own 28 w' Bx (fun b => w4.heap.size ≤ b ∧ b < w'.heap.size) A2 m c2 l | 2 => Below w4.heap.size w4 w' ∧ ∃ A2 c2 Bx A4 c4 B4 d4, (mm 2 = .slice A2 m c2 ∧ w4.heap.size ≤ Bx ∧ LT3.own 28 w' Bx (fun b => w4.heap.size ≤ b ∧ b < w'.heap.size) A2 m c2 l) ∧ mm 4 = .agg #[.string t.name, .slice A4 n1 c4, .slice B4 m1 d4] ∧ LCO.rd w' (fun b => w4.heap.size ≤ b ∧ (Value.slice A2 m c2).ownBlock ≠ some b) A4 n1 t.cols ∧ n1 ≤ c4 ∧ c4 ≤ 9223372036854775807 ∧ LK.rd w' (fun b => w4.heap.size ≤ b ∧ (Value.slice A2 m c2).ownBlock ≠ some b) B4 m1 t.keys ∧ m1 ≤ d4 ∧ d4 ≤ 9223372036854775807 | 3 => Below w4.heap.size w4 w' ∧ ∃ A2 c2 Bx A4 c4 B4 d4 gb, (mm 2 = .slice A2 m c2 ∧ w4.heap.size ≤ Bx ∧ LT3.own 28 w' Bx (fun b => w4.heap.size ≤ b ∧ b < w'.heap.size) A2 m c2 l) ∧ (mm 4 = .agg #[.string t.name, .slice A4 n1 c4, .slice B4 m1 d4] ∧ LCO.rd w' (fun b => w4.heap.size ≤ b ∧ (Value.slice A2 m c2).ownBlock ≠ some b) A4 n1 t.cols ∧ n1 ≤ c4 ∧ c4 ≤ 9223372036854775807 ∧ LK.rd w' (fun b => w4.heap.size ≤ b ∧ (Value.slice A2 m c2).ownBlock ≠ some b) B4 m1 t.keys ∧ m1 ≤ d4 ∧ d4 ≤ 9223372036854775807) ∧ mm 5 = .slice (some ⟨gb, 0, none⟩) 1 1 ∧ Blk w' gb 28 #[.string t.name, .slice A4 n1 c4, .slice B4 m1 d4] ∧ w4.heap.size ≤ gb ∧ (Value.slice A2 m c2).ownBlock ≠ some gb | 4 => Below w4.heap.size w4 w' ∧ ∃ A6 c6, mm 6 = .slice A6 (m + 1) c6 ∧ LT3.rd w' (fun b => w4.heap.size ≤ b) A6 (m + 1) (l ++ [t]) ∧ m + 1 ≤ c6 ∧ c6 ≤ 9223372036854775807 | _ => Chg (fun b => b = w.heap.size + 1 + 1) w4 w' ∧ ∃ A6 c6, (mm 6 = .slice A6 (m + 1) c6 ∧ LT3.rd w' (fun b => w4.heap.size ≤ b) A6 (m + 1) (l ++ [t]) ∧ m + 1 ≤ c6 ∧ c6 ≤ 9223372036854775807) ∧ Blk w' (w.heap.size + 1 + 1) 24 #[.slice A6 (m + 1) c6])) (by kernel_rfl) ?spswg1 ?ppswg1
  case spswg1 =>
    exact SeqN.start (by decide) (Below.refl _ _).drew
  refine Ps.st (i := 0) (d := some 34) (u := (.pointer (some ⟨w.heap.size, 0, none⟩))) rfl rfl (by exact StepS.pure (SeqN.pass (by decide)) rfl fun _ => rfl) ?_
  try simp only [Act.put, sA, sZ, sS]
  refine Ps.st (i := 1) (d := some 35) (u := (.slice A m c)) rfl rfl ?ywg1_3 ?rwg1_3
  case ywg1_3 =>
    refine StepS.read [] (by kernel_rfl) (SeqN.pass (by decide)) (by rfl) (fun L9 m9 w9 hSh hAt hDn hS => ?_)
    have hT : Below w4.heap.size w4 w9 := SeqN.lt (ks := [2, 4, 5, 6, 8]) (k := 8) (by simp) (reach_no hSh (f := 14) (j := 8) (by kernel_rfl) hDn) (fun z _ _ hz h => by match z, hz, h with | 0, _, h => exact h | 1, _, h => exact h.1 | 2, _, h => exact h.1 | 3, _, h => exact h.1 | 4, _, h => exact h.1 | _ + 5, hz, _ => exact absurd hz (by simp)) hS
    have x0 : w9.cell? ⟨w.heap.size, 0, none⟩ = some (.slice A m c) := (HB4.out.ca hT).cell 0
    clear hT hS
    go_simp
    try rfl
  try simp only [Act.put, sA, sZ, sS]
  refine Ps.st (i := 3) (d := some 37) (u := (.agg #[.string t.name, .slice A1 n1 c1, .slice B1 m1 d1])) rfl rfl ?ywg1_4 ?rwg1_4
  case ywg1_4 =>
    refine StepS.read [] (by kernel_rfl) (SeqN.pass (by decide)) (by rfl) (fun L9 m9 w9 hSh hAt hDn hS => ?_)
    have hT : Below w4.heap.size w4 w9 := SeqN.lt (ks := [2, 4, 5, 6, 8]) (k := 8) (by simp) (reach_no hSh (f := 14) (j := 8) (by kernel_rfl) hDn) (fun z _ _ hz h => by match z, hz, h with | 0, _, h => exact h | 1, _, h => exact h.1 | 2, _, h => exact h.1 | 3, _, h => exact h.1 | 4, _, h => exact h.1 | _ + 5, hz, _ => exact absurd hz (by simp)) hS
    have x0 : w9.cell? ⟨w.heap.size + 1, 0, none⟩ = some (.string t.name) := (HT4.out.ca hT).cell 0
    have x1 : w9.cell? ⟨w.heap.size + 1, 1, none⟩ = some (.slice A1 n1 c1) := (HT4.out.ca hT).cell 1
    have x2 : w9.cell? ⟨w.heap.size + 1, 2, none⟩ = some (.slice B1 m1 d1) := (HT4.out.ca hT).cell 2
    clear hT hS
    go_simp
    try rfl
  try simp only [Act.put, sA, sZ, sS]
  refine Ps.one (k := 2) (d := some 36) rfl rfl (by kernel_rfl) (TurnS.call (V := fun v => ∃ A2 c2, v = .slice A2 m c2) ?fwg1_5 ?awg1_5 [] (by kernel_rfl) (by rfl) (fun w9 => ?hwg1_5) (fun L9 m9 w9 hSh hAt hDn hS => ?cwg1_5)) (fun v2 hVv2 => ?rwg1_5)
  case hwg1_5 => go_simp; refine ⟨?_, ?_⟩ <;> rfl
  case cwg1_5 =>
    have hT := SeqN.at_ (m0 := m9) (m1 := m9) [] [4, 5, 6, 8] hSh (fun d hd => by cases hd) hDn (by kernel_rfl) hS
    have hsz := hT.size
    refine (copies_any F l A m c w9 (Lay.rd_below HRD4.out hT) hm (fun k x hx => (HS.out k x hx).2)).mono ?_
    rintro e w8 ⟨A2, c2, rfl, ho, q8⟩
    exact ⟨_, rfl, ⟨A2, c2, rfl⟩, SeqN.set_ (m0 := m9) (m1 := m9) [] [4, 5, 6, 8] hSh (fun d hd => by cases hd) hDn (by kernel_rfl) (by decide) (by decide) ⟨bl_ca hT q8, A2, c2, w9.heap.size, upd_same _ _ _, hsz, Lay.own_weak (fun b hb _ => ⟨by have := hb.1; omega, hb.2⟩) ho⟩⟩
  try simp only [Act.put, sA, sZ, sS]
  obtain ⟨A2, c2, rfl⟩ := hVv2
  refine Ps.one (k := 4) (d := some 38) rfl rfl (by kernel_rfl) (TurnS.call (V := fun v => ∃ A4 c4 B4 d4, v = .agg #[.string t.name, .slice A4 n1 c4, .slice B4 m1 d4]) ?fwg1_6 ?awg1_6 [2] (by kernel_rfl) (by rfl) (fun w9 => ?hwg1_6) (fun L9 m9 w9 hSh hAt hDn hS => ?cwg1_6)) (fun v4 hVv4 => ?rwg1_6)
  case hwg1_6 => go_simp; refine ⟨?_, ?_⟩ <;> rfl
  case cwg1_6 =>
    obtain ⟨hT, A3, c3, Bx, hv, hB, ho⟩ := SeqN.at_ [2] [5, 6, 8] hSh hAt hDn (by kernel_rfl) hS
    have hsz := hT.size
    have hob := Lay.own_base ho
    refine (copiedt_any F t A1 n1 c1 B1 m1 d1 w9 (Lay.rd_below HR14.out hT) (Lay.rd_below HR24.out hT) hn1 hm1).mono ?_
    rintro e w8 ⟨A4, c4, B4, d4, rfl, hr, g1, g2, hk, g3, g4, q8⟩
    exact ⟨_, rfl, ⟨A4, c4, B4, d4, rfl⟩, SeqN.set_ [2] [5, 6, 8] hSh hAt hDn (by kernel_rfl) (by decide) (by decide) ⟨bl_ca hT q8, A3, c3, Bx, A4, c4, B4, d4, ⟨(upd_ne (by decide)).trans hv, hB, Lay.own_weak (fun b hb _ => ⟨hb.1, by have := hb.2; have := q8.size; omega⟩) (Lay.own_below ho q8)⟩, upd_same _ _ _, Lay.rd_weak (fun b hb _ => ⟨by omega, fun e => by have := hob b e; omega⟩) hr, g1, g2, Lay.rd_weak (fun b hb _ => ⟨by omega, fun e => by have := hob b e; omega⟩) hk, g3, g4⟩⟩
  try simp only [Act.put, sA, sZ, sS]
  obtain ⟨A4, c4, B4, d4, rfl⟩ := hVv4
  refine Ps.one (k := 5) (d := some 39) rfl rfl (by kernel_rfl) (TurnS.value (V := fun v => ∃ gb, v = .slice (some ⟨gb, 0, none⟩) 1 1) [2, 4] (by kernel_rfl) (by rfl) (fun L9 m9 w9 hSh hAt hDn hS => ?cwg1_7)) (fun v5 hVv5 => ?rwg1_7)
  case cwg1_7 =>
    obtain ⟨hT, A3, c3, Bx, A5, c5, B5, d5, ⟨hv, hB, ho⟩, hv4, hr, g1, g2, hk, g3, g4⟩ := SeqN.at_ [2, 4] [6, 8] hSh hAt hDn (by kernel_rfl) hS
    obtain ⟨rfl, rfl⟩ : A2 = A3 ∧ c2 = c3 := by have h9 : Value.slice A2 m c2 = .slice A3 m c3 := (hAt 2 (by simp)).2.symm.trans hv; simpa using h9
    obtain ⟨rfl, rfl, rfl, rfl⟩ : A4 = A5 ∧ c4 = c5 ∧ B4 = B5 ∧ d4 = d5 := by have h9 : Value.agg #[.string t.name, .slice A4 n1 c4, .slice B4 m1 d4] = .agg #[.string t.name, .slice A5 n1 c5, .slice B5 m1 d5] := (hAt 4 (by simp)).2.symm.trans hv4; simpa [and_assoc] using h9
    have hsz := hT.size
    have hob := Lay.own_base ho
    have q8 := bl_al (Below.refl w9.heap.size w9) (.cells #[.string t.name, .slice A4 n1 c4, .slice B4 m1 d4] 28)
    refine ⟨.slice (some ⟨w9.heap.size, 0, none⟩) 1 1, w9.alloc (.cells #[.string t.name, .slice A4 n1 c4, .slice B4 m1 d4] 28), ?_, ⟨_, rfl⟩, SeqN.set_ [2, 4] [6, 8] hSh hAt hDn (by kernel_rfl) (by decide) (by decide) ⟨bl_ca hT q8, A2, c2, Bx, A4, c4, B4, d4, w9.heap.size, ⟨(upd_ne (by decide)).trans hv, hB, Lay.own_weak (fun b hb _ => ⟨hb.1, by have := hb.2; have := q8.size; omega⟩) (Lay.own_below ho q8)⟩, ⟨(upd_ne (by decide)).trans hv4, Lay.rd_below hr q8, g1, g2, Lay.rd_below hk q8, g3, g4⟩, upd_same _ _ _, Blk.new _ _ _, hsz, fun e => by have := hob _ e; omega⟩⟩
    clear hT hS ho hr hk q8 hv hv4 hob
    go_simp
  try simp only [Act.put, sA, sZ, sS]
  obtain ⟨gb, rfl⟩ := hVv5
  refine Ps.one (k := 6) (d := some 40) rfl rfl (by kernel_rfl) (TurnS.value (V := fun v => ∃ A6 c6, v = .slice A6 (m + 1) c6) [2, 4, 5] (by kernel_rfl) (by rfl) (fun L9 m9 w9 hSh hAt hDn hS => ?cwg1_8)) (fun v6 hVv6 => ?rwg1_8)
  case cwg1_8 =>
    obtain ⟨hT, A3, c3, Bx, A5, c5, B5, d5, gb2, ⟨hv, hB, ho⟩, ⟨hv4, hr, g1, g2, hk, g3, g4⟩, hv5, hbk, hgb, hne⟩ := SeqN.at_ [2, 4, 5] [8] hSh hAt hDn (by kernel_rfl) hS
    obtain ⟨rfl, rfl⟩ : A2 = A3 ∧ c2 = c3 := by have h9 : Value.slice A2 m c2 = .slice A3 m c3 := (hAt 2 (by simp)).2.symm.trans hv; simpa using h9
    obtain ⟨rfl, rfl, rfl, rfl⟩ : A4 = A5 ∧ c4 = c5 ∧ B4 = B5 ∧ d4 = d5 := by have h9 : Value.agg #[.string t.name, .slice A4 n1 c4, .slice B4 m1 d4] = .agg #[.string t.name, .slice A5 n1 c5, .slice B5 m1 d5] := (hAt 4 (by simp)).2.symm.trans hv4; simpa [and_assoc] using h9
    obtain rfl : gb = gb2 := by have h9 : Value.slice (some ⟨gb, 0, none⟩) 1 1 = .slice (some ⟨gb2, 0, none⟩) 1 1 := (hAt 5 (by simp)).2.symm.trans hv5; simpa using h9
    have hsz9 := hT.size
    have hob := Lay.own_base ho
    have ho2 := Lay.own_weak (G' := fun b => w4.heap.size ≤ b ∧ b < w9.heap.size) (fun b hb _ => hb) ho
    obtain ⟨A6, c6, w8, hrun, ho6, hgr, hat6⟩ := run_appL (L := LT3) (e := 28) (P := Tryd.prog) (w := w9) 22 22 _ 3 64 Tryd.underlying22 Tryd.tableInfo rfl rfl (by decide) w4.heap.size (fun b => w4.heap.size ≤ b ∧ b < w9.heap.size) A2 m c2 l gb 1 28 #[.string t.name, .slice A4 n1 c4, .slice B4 m1 d4] t (Lay.own_less ho2 hB) hbk ⟨A4, n1, c4, B4, m1, d4, rfl, g1, g2, Lay.rd_weak (fun b hb hl => ⟨⟨hb.1, hl⟩, hb.2⟩) hr, g3, g4, Lay.rd_weak (fun b hb hl => ⟨⟨hb.1, hl⟩, hb.2⟩) hk⟩ (fun b hb => hb.2) (by omega) (by unfold maxLen; omega) hsz9
    have hbel : Below w4.heap.size w4 w8 := hT.grown hgr hsz9 (fun k e => by have := hob k e; omega)
    exact ⟨_, w8, exec_append (.tmp 36) (.tmp 39) 22 rfl rfl rfl hrun, ⟨A6, c6, rfl⟩, SeqN.set_ [2, 4, 5] [8] hSh hAt hDn (by kernel_rfl) (by decide) (by decide) ⟨hbel, A6, c6, upd_same _ _ _, Lay.own_rd ho6 (fun b hb _ => hb) (fun b hb _ => hb.1), (Lay.own_caps ho6).1, (Lay.own_caps ho6).2⟩⟩
  try simp only [Act.put, sA, sZ, sS]
  obtain ⟨A6, c6, rfl⟩ := hVv6
  refine Ps.st (i := 7) (d := some 41) (u := (.agg #[.slice A6 (m + 1) c6])) rfl rfl (by exact StepS.pure (SeqN.pass (by decide)) rfl fun _ => by first | rfl | (go_simp; done) | (go_simp; rfl)) ?_
  try simp only [Act.put, sA, sZ, sS]
  refine Ps.st (i := 8) (d := none) (u := undef) rfl rfl ?ywg1_10 ?rwg1_10
  case ywg1_10 =>
    refine StepS.store [2, 4, 5, 6] (by kernel_rfl) (by rfl) (fun L9 m9 w9 hSh hAt hDn hS => ?_)
    obtain ⟨hT, A7, c7, hv, hr, g1, g2⟩ := SeqN.at_ [2, 4, 5, 6] [] hSh hAt hDn (by kernel_rfl) hS
    obtain ⟨rfl, rfl⟩ : A6 = A7 ∧ c6 = c7 := by have h9 : Value.slice A6 (m + 1) c6 = .slice A7 (m + 1) c7 := (hAt 6 (by simp)).2.symm.trans hv; simpa using h9
    refine (exec_store_blk (w := w9) 24 (.tmp 4) (.tmp 41) (by rfl) (w.heap.size + 1 + 1) 24 #[.slice none 0 0] #[.slice A6 (m + 1) c6] (by rfl) (by rfl) (HO4.out.ca hT) rfl catI (by simp [Value.oneCell'])).imp fun w7 hx => ⟨hx.1, SeqN.set_ [2, 4, 5, 6] [] hSh hAt hDn (by kernel_rfl) (by decide) (by decide) ⟨(Chg.of_below hT).grown hx.2.2 (fun k e => .inl (by injection e with e; exact e.symm)), A6, c6, ⟨hv, rd_grownH hr hx.2.2 (fun b hb => by omega), g1, g2⟩, hx.2.1⟩⟩
  try simp only [Act.put]
  refine Ps.st (i := 9) (d := some 5) (u := (.int .i64 (0))) rfl rfl (by exact StepS.pure (SeqN.pass (by decide)) rfl fun _ => rfl) ?_
  try simp only [Act.put, sA, sZ, sS]
  refine Ps.done (by kernel_rfl) (fun wg1 hS => ?_) _
  obtain ⟨hch, A7, c7, ⟨hv, hr, g1, g2⟩, hbx⟩ := SeqN.fin (by rfl) hS
  clear hS
  obtain ⟨rfl, rfl⟩ : A6 = A7 ∧ c6 = c7 := by have h9 : Value.slice A6 (m + 1) c6 = .slice A7 (m + 1) c7 := hv; simpa using h9
  clear hv
  obtain ⟨w6, rfl⟩ : ∃ x, x = wg1 := ⟨_, rfl⟩
  have HCH := Lib.hid hch
  have HRO := Lib.hid hr
  have HBX := Lib.hid hbx
  have HCP := Lib.hid (And.intro g1 g2)
  clear hch hr hbx g1 g2
  have hs6 := HCH.out.size
  go_wp2
  exact bodyPost_ret (res2 Tryd.results12 rfl rfl HBX.out Tryd.underlying24 rfl catI) rfl ⟨A6, m + 1, c6, by rw [HF.out.1]; rfl, by rw [HF.out.2]; exact Lay.rd_weak (fun b hb _ => by omega) HRO.out, HCP.out.1, HCP.out.2, Chg.bel HQ4.out HCH.out (fun b _ h9 => by omega) HQ4.out.size⟩
end Go.Proofs.YthgcdilkkldgjaaDoor
/- slices.Delete of one table of tables of one's own. Conditions: the place is there. -/
namespace Go.Proofs.YthgcdilkkldgjaaDoor
open Go.RowKit
theorem isSome_setCellsI (b : Nat) (vs : List Value) (o : Nat) (w : World) (h : ∀ j, j < vs.length → (w.cell? ⟨b, o + j, none⟩).isSome = true) (k : Nat) (hk : (w.cell? ⟨b, k, none⟩).isSome = true) : ((w.setCells b o vs).cell? ⟨b, k, none⟩).isSome = true := by
  by_cases hin : o ≤ k ∧ k < o + vs.length
  · have := World.cell?_setCells_in b vs o w h (k - o) (by omega)
    rw [show o + (k - o) = k by omega] at this
    rw [this]; rfl
  · rw [World.cell?_setCells_out b vs o w ⟨b, k, none⟩ (fun _ _ => by show k < o ∨ o + vs.length ≤ k; omega)]
    exact hk
theorem cell_list {w : World} {g : Nat} {t : TypeId} {cs : Array Value} (h : Blk w g t cs) {j : Nat} {v : Value} (hj : cs.toList[j]? = some v) : w.cell? ⟨g, j, none⟩ = some v := by
  have := h.cell j
  rw [this]
  simpa using hj
theorem run_clear_sliceK {P : Program} (w : World) (t e ty : TypeId) (z : Value) (ht : P.underlying t = some (.slice e)) (hv : (zeroValue e).run P w = .ok z w) (b o n c : Nat) (hn : 0 < n) (zs : List Value) (hz : (Builtin.zeroCells z.cells n).toList = zs) (h1 : ∀ v ∈ zs, v.oneCell' = true)
    (hc : ∀ j, j < zs.length → (w.cell? ⟨b, o + j, none⟩).isSome = true) (hf : ∀ j, j < zs.length → w.frozen? ⟨b, o + j, none⟩ = false) :
    (Builtin.clear_ #[t] ty #[.slice (some ⟨b, o, none⟩) n c]).run P w = .ok (.tuple #[]) (w.setCells b o zs) := by
  have hst := run_storeCells_cells (P := P) b o zs 0 w (by simpa using hc) (by simpa using hf) h1
  simp only [Nat.add_zero] at hst
  obtain ⟨m, rfl⟩ : ∃ m, n = m + 1 := ⟨n - 1, by omega⟩
  simp [Builtin.clear_, run_underlying ht, hv, hz, hst]
set_option maxHeartbeats 8000000 in
set_option maxRecDepth 100000 in
theorem del_run (b n c i j : Nat) (cs : List Value) (cur : Array Value) (w : World) (hi : i < j) (hi2 : j ≤ i + 1) (hj : j ≤ n) (hnc : n ≤ c) (hbig : n ≤ 100000) (hcl : cs.length = n * 3)
    (hB : Blk w b 28 cur) (hcur : cur.size = c * 3) (htk : cur.toList.take (n * 3) = cs) (h1c : ∀ v ∈ cs, v.oneCell' = true) :
    Calls Tryd.prog 32 #[.slice (some ⟨b, 0, none⟩) n c, .int .i64 i, .int .i64 j] w fun e w' =>
      ∃ zs : List Value, zs.length = 3 ∧ e = .returned (.slice (some ⟨b, 0, none⟩) (n - 1) c) ∧ w' = (w.drew.setCells b (i * 3) (cs.drop (j * 3))).setCells b ((n - 1) * 3) zs := by
  obtain ⟨i0, hi0, hz0, hzs, hzb⟩ := info_parts Tryd.tableInfo
  obtain ⟨news, hnews⟩ : ∃ news, news = cs.drop (j * 3) := ⟨_, rfl⟩
  have hlen : news.length = (n - j) * 3 := by rw [hnews, List.length_drop, hcl]; omega
  have hcs : ∀ k v, cs[k]? = some v → w.cell? ⟨b, k, none⟩ = some v := fun k v hk => cell_list hB (by
    rw [← htk, List.getElem?_take] at hk
    split at hk
    · exact hk
    · cases hk)
  obtain ⟨A, hA, hsrc⟩ : ∃ A : Addr, (if c = j then some (⟨b, 0, none⟩ : Addr) else some ⟨b, j * 3, none⟩) = some A ∧ Hid (∀ t u, news[t]? = some u → w.drew.cell? (A.add t) = some u) := by
    by_cases h : c = j
    · refine ⟨⟨b, 0, none⟩, by simp [h], fun t u hu => ?_⟩
      have h0 : news.length = 0 := by rw [hlen]; omega
      rw [List.length_eq_zero_iff.1 h0] at hu
      simp at hu
    · refine ⟨⟨b, j * 3, none⟩, by simp [h], fun t u hu => ?_⟩
      rw [Addr.add_lit]
      rw [hnews, List.getElem?_drop] at hu
      exact hcs _ _ hu
  have s1 : Hid (news.length = (n - j) * 3) := hlen
  have s2 : Hid (∀ u ∈ news, u.oneCell' = true) := fun u hu => h1c u (by rw [hnews] at hu; exact List.mem_of_mem_drop hu)
  have hsp : ∀ k, k < n * 3 → (w.cell? ⟨b, k, none⟩).isSome = true := fun k hk => by
    rw [hB.cell k, Array.getElem?_eq_getElem (show k < cur.size by rw [hcur]; omega)]; rfl
  have s3 : Hid (∀ t, t < news.length → (w.drew.cell? ⟨b, 0 + i * 3 + t, none⟩).isSome = true ∧ w.drew.frozen? ⟨b, 0 + i * 3 + t, none⟩ = false) := fun t ht => by
    rw [hlen] at ht
    exact ⟨hsp (0 + i * 3 + t) (by omega), hB.frozen _⟩
  obtain ⟨W1, hW1⟩ : ∃ W1, W1 = w.drew.setCells b (0 + i * 3) news := ⟨_, rfl⟩
  obtain ⟨zz, hzz⟩ : ∃ zz : Value, zz = .agg #[.string ByteArray.empty, .slice none 0 0, .slice none 0 0] := ⟨_, rfl⟩
  obtain ⟨zs, hzsd⟩ : ∃ zs, zs = (Builtin.zeroCells zz.cells (n - (i + (n - j)))).toList := ⟨_, rfl⟩
  have hzl : zs.length = 3 := by
    rw [hzsd, Array.length_toList, size_zeroCells, hzz]
    show (n - (i + (n - j))) * 3 = _
    omega
  have hz1 : ∀ v ∈ zs, v.oneCell' = true := fun v hv => by
    rw [hzsd, hzz] at hv
    simp only [Builtin.zeroCells, Array.toList_map, List.mem_map] at hv
    obtain ⟨i, _, rfl⟩ := hv
    have h4 : i % 3 < 3 := Nat.mod_lt _ (by omega)
    show ((#[.string ByteArray.empty, .slice none 0 0, .slice none 0 0] : Array Value)[i % 3]!).oneCell' = true
    rcases (show i % 3 = 0 ∨ i % 3 = 1 ∨ i % 3 = 2 by omega) with h | h | h <;> rw [h] <;> rfl
  have hcl : ∀ ty cp, (Builtin.clear_ #[22] ty #[.slice (some ⟨b, (i + (n - j)) * 3, none⟩) (n - (i + (n - j))) cp]).run Tryd.prog W1 = .ok (.tuple #[]) (W1.setCells b ((i + (n - j)) * 3) zs) := fun ty cp =>
    run_clear_sliceK W1 _ _ ty zz Tryd.underlying22 (by rw [hzz]; kernel_rfl) b ((i + (n - j)) * 3) (n - (i + (n - j))) cp (by omega) zs hzsd.symm hz1
      (fun t ht => by rw [hW1]; exact isSome_setCellsI b _ _ w.drew (fun k hk => hsp (0 + i * 3 + k) (by rw [hlen] at hk; omega)) _ (hsp ((i + (n - j)) * 3 + t) (by rw [hzl] at ht; omega)))
      (fun t _ => by rw [hW1, World.frozen?_setCells]; exact hB.frozen _)
  have hW : Hid (W1 = w.drew.setCells b (0 + i * 3) news) := hW1
  have hNW : Hid (news = cs.drop (j * 3)) := hnews
  have hjc : j ≤ c := by omega
  have hic : i ≤ c := by omega
  have hz2 : ¬ ((i : Int) = (j : Int)) := by omega
  have hcj : ¬ (c = i + (n - j)) := by omega
  have hu0 := Tryd.underlying22
  have mixed : Tryd.prog.follows Departure.mixedOrders = true := by kernel_rfl
  clear hW1 hnews hlen hcs hsp hz1 hzsd hzz htk h1c
  go_enter Tryd.func32, Tryd.ntmps32
  go_wp2_with fail
  go_region_law_o (refine step_append_room rfl (.tmp 22) (.tmp 25) 22 rfl 28 i0 3 hu0 hi0 hzs b 0 i c (by simp [Act.eval, Act.put]) A (n - j) (c - j) news (by simp [Act.eval, Act.put]) s1.out hsrc.out s2.out (by omega) s3.out ?_; rw [← hW.out])
  go_wp2
  go_ret
  exact ⟨zs, hzl, by simp; omega, by rw [hW.out, hNW.out, show i + (n - j) = n - 1 by omega, Nat.zero_add]⟩
set_option maxRecDepth 100000 in
theorem del_any (B : Nat) (G : Nat → Prop) (A : Option Addr) (n c i j : Nat) (xs : List TC) (w : World) (hown : LT3.own 28 w B G A n c xs) (hi : i < j) (hi2 : j ≤ i + 1) (hj : j ≤ n) (hbig : n ≤ 100000) :
    Calls Tryd.prog 32 #[.slice A n c, .int .i64 i, .int .i64 j] w fun e w' =>
      e = .returned (.slice A (n - 1) c) ∧ LT3.own 28 w' B G A (n - 1) c (xs.eraseIdx i) ∧ w.grownBy w' (Value.slice A n c).ownBlock := by
  obtain ⟨hl, cs, hreps, hrow⟩ := hown
  have hcl := Lay.reps_len hreps
  rw [hl] at hcl
  have hcl4 : cs.length = n * 3 := hcl
  have hdc : (cs.drop (j * 3)).length = (n - j) * 3 := by rw [List.length_drop]; omega
  rcases hrow.2 with ⟨_, h⟩ | ⟨g, cap, cur, e, hg, hh, hnc, hcm, hcs, htk⟩
  · omega
  injection e with e1 _ e3
  subst e1 e3
  have hcs4 : cur.size = c * 3 := hcs
  have htk4 : cur.toList.take (n * 3) = cs := htk
  refine (del_run g n c i j cs cur w hi hi2 hj hnc hbig hcl4 hh hcs4 htk4 (Lay.reps_one hreps)).mono ?_
  rintro e w' ⟨zs, hzl, rfl, rfl⟩
  have b0 : Blk w.drew g 28 cur.toList.toArray := by simpa using (show Blk w g _ cur from hh).drew
  have b1 := blk_setMid (cs.drop (j * 3)) (i * 3) _ cur.toList b0 (by rw [hdc, Array.length_toList, hcs4]; omega)
  have b2 := blk_setMid zs ((n - 1) * 3) _ _ b1 (by simp only [List.length_append, List.length_take, List.length_drop, Array.length_toList, hcs4, hzl, hdc]; omega)
  have hgr : w.grownBy ((w.drew.setCells g (i * 3) (cs.drop (j * 3))).setCells g ((n - 1) * 3) zs) (some g) := grown_setCells _ _ _ (grown_setCells _ _ _ (only_drew (World.grownBy.refl w _)))
  have hs0 := Lay.reps_keep (fun b hb hl => hgr.block b hl (fun e => hb.2 (by simp [Value.ownBlock]; injection e with e; exact e.symm))) hreps
  have hij : j = i + 1 := by omega
  have herase : xs.eraseIdx i = xs.take i ++ xs.drop j := by rw [hij]; exact List.eraseIdx_eq_take_drop_succ xs i
  have hs := Lay.reps_append (Lay.reps_take i hs0) (Lay.reps_drop j hs0)
  rw [← herase] at hs
  have hel : (xs.eraseIdx i).length = n - 1 := by rw [herase, List.length_append, List.length_take, List.length_drop, hl]; omega
  have hdl : (cs.take (i * 3) ++ cs.drop (j * 3)).length = (n - 1) * 3 := by rw [List.length_append, List.length_take, hdc, hcl4]; omega
  refine ⟨rfl, ⟨hel, _, hs, hdl, .inr ⟨_, _, _, rfl, hg, b2, by omega, hcm, ?_, ?_⟩⟩, hgr⟩
  · simp only [List.size_toArray, List.length_append, List.length_take, List.length_drop, Array.length_toList, hcs4, hzl, hdc]
    show _ = c * 3
    omega
  · show List.take ((n - 1) * 3) _ = _
    have h9 : cur.toList.take (i * 3) = cs.take (i * 3) := by rw [← htk4, List.take_take, Nat.min_eq_left (by omega)]
    have hlc : cur.toList.length = c * 3 := by rw [Array.length_toList]; exact hcs4
    have h8 : (n - 1) * 3 ≤ (List.take ((n - 1) * 3) (List.take (i * 3) cs ++ List.drop (j * 3) cs ++ List.drop (i * 3 + (List.drop (j * 3) cs).length) cur.toList)).length := by
      simp only [List.length_append, List.length_take, List.length_drop, hlc, hcl4]
      omega
    rw [h9, List.append_assoc, List.take_append_of_le_length h8, List.take_take, Nat.min_self]
    exact List.take_left' hdl
end Go.Proofs.YthgcdilkkldgjaaDoor
/- The layer's Drop. Conditions: the slice reads so; what the tables hold; names and rows are not endless. -/
namespace Go.Proofs.YthgcdilkkldgjaaDoor
open Go.RowKit
noncomputable def dropE (l : List TC) (s : ByteArray) : Int := if catB l = false then 210 else if 0 ≤ idxL (fun x : TC => decide (x.name = s)) l then 0 else 4
noncomputable def dropR (l : List TC) (s : ByteArray) : List TC := if dropE l s = 0 then l.eraseIdx (idxL (fun x : TC => decide (x.name = s)) l).toNat else []
set_option maxRecDepth 100000 in
set_option maxHeartbeats 16000000 in
theorem drop_any (F : Nat → Prop) (l : List TC) (A : Option Addr) (m c : Nat) (s : ByteArray) (w : World) (h : LT3.rd w F A m l) (hm : m ≤ 100000) (hT : Tab w) (hs : ∀ (k : Nat) (t : TC), l[k]? = some t → Sz t ∧ Ln t) :
    Calls Tryd.prog 13 #[.agg #[.slice A m c], .string s] w (AddO (dropE l s) (dropR l s) w) := by
  have HL := Lib.hid (Lay.rd_len h)
  have HS := Lib.hid hs
  have q3 := bl_al (bl_al (Below.refl w.heap.size w) (.cells #[.slice A m c] 24)) (.cells #[.slice none 0 0] 24)
  have HRD := Lib.hid (Lay.rd_below h q3)
  have HTB := Lib.hid (hT.below q3)
  have HB := Lib.hid ((Blk.new w 24 #[.slice A m c]).alloc (.cells #[.slice none 0 0] 24))
  have HO := Lib.hid (Blk.new (w.alloc (.cells #[.slice A m c] 24)) 24 #[.slice none 0 0])
  rw [World.size_alloc] at HO
  have HQ3 := Lib.hid q3
  have hs3 : ((w.alloc (.cells #[.slice A m c] 24)).alloc (.cells #[.slice none 0 0] 24)).heap.size = w.heap.size + 2 := by simp only [World.size_alloc]
  have y0 := HB.out.cell 0
  clear q3 h hs hT
  have HE := Lib.hid (show dropE l s = if catB l = false then 210 else if 0 ≤ idxL (fun x : TC => decide (x.name = s)) l then 0 else 4 from rfl)
  have HRR := Lib.hid (show dropR l s = if dropE l s = 0 then l.eraseIdx (idxL (fun x : TC => decide (x.name = s)) l).toNat else [] from rfl)
  generalize dropE l s = E at *
  generalize dropR l s = RR at *
  go_enter Tryd.func13, Tryd.ntmps13
  go_wp2_with fail
  generalize (w.alloc (.cells #[.slice A m c] 24)).alloc (.cells #[.slice none 0 0] 24) = w2 at *
  refine (check_any F l A m c w2 HRD.out (by omega) HTB.out (fun k x hx => (HS.out k x hx).1)).mono ?_
  rintro e w3 ⟨rfl, q3⟩
  clear y0
  have HB3 := Lib.hid (HB.out.ca q3)
  have HO3 := Lib.hid (HO.out.ca q3)
  have HRD3 := Lib.hid (Lay.rd_below HRD.out q3)
  have HQ3 := Lib.hid (bl_ca HQ3.out q3)
  have hs4 := q3.size
  clear q3 HB HO HRD HTB
  obtain ⟨cb, hcb⟩ : ∃ cb, cb = catB l := ⟨_, rfl⟩
  rw [← hcb] at HE ⊢
  clear hcb
  cases cb
  · have HF := Lib.hid (show E = 210 ∧ RR = [] from by
      have h9 : E = 210 := by rw [HE.out, if_pos rfl]
      exact ⟨h9, by rw [HRR.out, h9]; rfl⟩)
    rw [show eC false = 210 from rfl]
    go_wp2_with (first | (refine wpList_store_blk rfl 24 (.tmp 4) (.tmp 13) rfl (w.heap.size + 1) 24 #[.slice none 0 0] #[.slice none 0 0] rfl rfl HO3.out rfl catI (by simp [Value.oneCell']) ?_; intro w8 h8 g8))
    exact bodyPost_ret (res2 Tryd.results13 rfl rfl h8 Tryd.underlying24 rfl catI) rfl ⟨none, 0, 0, by rw [HF.out.1]; rfl, by rw [HF.out.2]; exact Lay.rd_nil _, by omega, by omega, bl_gr HQ3.out g8 (by omega)⟩
  rw [show eC true = 0 from rfl]
  have y0 := HB3.out.cell 0
  go_wp2_with fail
  refine (find_any F l A m c s w3 HRD3.out (by omega)).mono ?_
  rintro e w4 ⟨rfl, q4⟩
  clear y0
  obtain ⟨z, hz⟩ : ∃ z, z = idxL (fun x : TC => decide (x.name = s)) l := ⟨_, rfl⟩
  have hzl : z < l.length := by rw [hz]; unfold idxL; split <;> omega
  rw [← hz] at HE HRR ⊢
  clear hz
  have HB4 := Lib.hid (HB3.out.ca q4)
  have HO4 := Lib.hid (HO3.out.ca q4)
  have HRD4 := Lib.hid (Lay.rd_below HRD3.out q4)
  have HQ4 := Lib.hid (bl_ca HQ3.out q4)
  have hs5 := q4.size
  clear q4 HB3 HO3 HRD3 HQ3
  by_cases hz : 0 ≤ z
  · have HF := Lib.hid (show E = 0 ∧ RR = l.eraseIdx z.toNat from by
      have h9 : E = 0 := by rw [HE.out, if_neg (by simp), if_pos hz]
      exact ⟨h9, by rw [HRR.out, h9]; rfl⟩)
    have hz1 : decide (0 ≤ z) = true := decide_eq_true hz
    obtain ⟨i, hi⟩ : ∃ i : Nat, fnd z = (i : Int) := ⟨z.toNat, by unfold fnd; omega⟩
    have HI := Lib.hid (show z.toNat = i from by unfold fnd at hi; omega)
    have him : i < m := by have := HL.out; unfold fnd at hi; omega
    have y0 := HB4.out.cell 0
    rw [hi]
    clear hz hzl hi
    go_wp2_with fail
    refine (copies_any F l A m c w4 HRD4.out hm (fun k x hx => (HS.out k x hx).2)).mono ?_
    rintro e w5 ⟨A2, c2, rfl, ho, q5⟩
    clear y0
    have HOW := Lib.hid ho
    have HO5 := Lib.hid (HO4.out.ca q5)
    have HQ5 := Lib.hid (bl_ca HQ4.out q5)
    have hs6 := q5.size
    clear q5 ho
    go_wp2_with fail
    rw [show (i : Int) + 1 = ((i + 1 : Nat) : Int) from by omega]
    refine (del_any _ _ A2 m c2 i (i + 1) l w5 HOW.out (by omega) (by omega) (by omega) (by omega)).mono ?_
    rintro e w6 ⟨rfl, ho, g6⟩
    have hob := Lay.own_base HOW.out
    have q6 : Below w4.heap.size w5 w6 := (Below.refl _ _).grown g6 (by omega) (fun k e => (hob k e).1)
    have HCP := Lib.hid (Lay.own_caps ho)
    have HRD6 := Lib.hid (Lay.own_rd2 ho (F := fun b => w4.heap.size ≤ b) (fun b hb => (Lay.own_base ho b hb).1) (fun b hb _ => hb.1))
    have HO6 : Hid (Blk w6 (w.heap.size + 1) 24 #[.slice none 0 0]) := Lib.hid ((q6.block _ (by omega)).trans HO5.out)
    have HQ6 := Lib.hid (HQ5.out.trans (q6.mono (by omega)))
    have hs7 := q6.size
    clear q6 g6 hob ho HOW HO5 HQ5
    go_wp2_with (first | (refine wpList_store_blk rfl 24 (.tmp 4) (.tmp 31) rfl (w.heap.size + 1) 24 #[.slice none 0 0] #[.slice A2 (m - 1) c2] rfl rfl HO6.out rfl catI (by simp [Value.oneCell']) ?_; intro w8 h8 g8))
    exact bodyPost_ret (res2 Tryd.results13 rfl rfl h8 Tryd.underlying24 rfl catI) rfl ⟨A2, m - 1, c2, by rw [HF.out.1]; rfl, by rw [HF.out.2, HI.out]; exact Lay.rd_weak (fun b hb _ => by omega) (rd_grownH HRD6.out g8 (fun b hb => by omega)), HCP.out.1, HCP.out.2, bl_gr HQ6.out g8 (by omega)⟩
  have HF := Lib.hid (show E = 4 ∧ RR = [] from by
    have h9 : E = 4 := by rw [HE.out, if_neg (by simp), if_neg hz]
    exact ⟨h9, by rw [HRR.out, h9]; rfl⟩)
  have hz1 : decide (0 ≤ z) = false := decide_eq_false hz
  clear hz
  go_wp2_with (first | (refine wpList_store_blk rfl 24 (.tmp 4) (.tmp 23) rfl (w.heap.size + 1) 24 #[.slice none 0 0] #[.slice none 0 0] rfl rfl HO4.out rfl catI (by simp [Value.oneCell']) ?_; intro w8 h8 g8))
  exact bodyPost_ret (res2 Tryd.results13 rfl rfl h8 Tryd.underlying24 rfl catI) rfl ⟨none, 0, 0, by rw [HF.out.1]; rfl, by rw [HF.out.2]; exact Lay.rd_nil _, by omega, by omega, bl_gr HQ4.out g8 (by omega)⟩
end Go.Proofs.YthgcdilkkldgjaaDoor
/- A text's lines, in plain Lean: cut behind each line feed. Conditions: none. -/
namespace Go.Proofs.YthgcdilkkldgjaaDoor
/-- a text, cut behind each line feed; the last piece has none -/
def pcs : List UInt8 → List (List UInt8)
  | [] => [[]]
  | b :: r => if b = 10 then [b] :: pcs r else (b :: (pcs r).headD []) :: (pcs r).tail
theorem pcs_ne : ∀ (l : List UInt8), pcs l ≠ []
  | [] => by simp [pcs]
  | b :: r => by
    unfold pcs
    split <;> simp
theorem pcs_cons (l : List UInt8) : ∃ p ps, pcs l = p :: ps := by
  cases h : pcs l with
  | nil => exact absurd h (pcs_ne l)
  | cons p ps => exact ⟨p, ps, rfl⟩
theorem idxB_range : ∀ (l : List UInt8) (c : UInt8), Lib.indexByte l c = -1 ∨ ∃ i : Nat, Lib.indexByte l c = (i : Int) ∧ i < l.length
  | [], _ => .inl rfl
  | b :: r, c => by
    unfold Lib.indexByte
    by_cases h : b = c
    · rw [if_pos (by simp [h])]
      exact .inr ⟨0, rfl, by simp⟩
    · rw [if_neg (by simp [h])]
      rcases idxB_range r c with e | ⟨i, e, hi⟩
      · rw [e]; exact .inl rfl
      · rw [e, if_neg (by simp)]
        exact .inr ⟨i + 1, by omega, by simp; omega⟩
theorem pcs_none : ∀ (l : List UInt8), Lib.indexByte l 10 = -1 → pcs l = [l]
  | [], _ => rfl
  | b :: r, h => by
    unfold Lib.indexByte at h
    by_cases hb : b = 10
    · rw [if_pos (by simp [hb])] at h; cases h
    · rw [if_neg (by simp [hb])] at h
      have hr : Lib.indexByte r 10 = -1 := by
        rcases idxB_range r 10 with e | ⟨i, e, _⟩
        · exact e
        · rw [e, if_neg (by simp)] at h; omega
      unfold pcs
      rw [if_neg hb, pcs_none r hr]
      rfl
theorem pcs_some : ∀ (l : List UInt8) (i : Nat), Lib.indexByte l 10 = (i : Int) → pcs l = l.take (i + 1) :: pcs (l.drop (i + 1))
  | [], i, h => by cases h
  | b :: r, i, h => by
    unfold Lib.indexByte at h
    by_cases hb : b = 10
    · rw [if_pos (by simp [hb])] at h
      obtain rfl : i = 0 := by omega
      conv => lhs; unfold pcs
      rw [if_pos hb]
      rfl
    · rw [if_neg (by simp [hb])] at h
      rcases idxB_range r 10 with e | ⟨k, e, _⟩
      · rw [e, if_pos (by rfl)] at h; omega
      · rw [e, if_neg (by simp)] at h
        obtain rfl : i = k + 1 := by omega
        conv => lhs; unfold pcs
        rw [if_neg hb, pcs_some r k e]
        rfl
/-- the lines: the pieces up to an empty one, with their places -/
def linesAt : Nat → List (List UInt8) → List (Nat × List UInt8)
  | _, [] => []
  | at_, p :: ps => if p = [] then [] else (at_, p) :: linesAt (at_ + p.length) ps
theorem pcs_flat : ∀ (l : List UInt8), (pcs l).flatten = l
  | [] => rfl
  | b :: r => by
    unfold pcs
    obtain ⟨p, ps, e⟩ := pcs_cons r
    have h := pcs_flat r
    rw [e] at h
    split
    · rw [e, List.flatten_cons, h]; rfl
    · rw [e]
      simp only [List.headD_cons, List.tail_cons, List.flatten_cons, List.cons_append]
      rw [← List.flatten_cons, h]
end Go.Proofs.YthgcdilkkldgjaaDoor
