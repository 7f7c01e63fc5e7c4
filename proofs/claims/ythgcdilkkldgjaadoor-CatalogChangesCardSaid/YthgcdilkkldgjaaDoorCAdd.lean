/- The layer's Add. Conditions: the slices read so; what the tables hold; names and rows are not endless. -/
import Derived.Test.YthgcdilkkldgjaaDoorCCopies
namespace Go.Proofs.YthgcdilkkldgjaaDoor
open Go.RowKit
/-- a table's rows are not endless -/
def Ln (t : TC) : Prop := t.cols.length ≤ 100000 ∧ t.keys.length ≤ 100000
noncomputable def addE (l : List TC) (t : TC) : Int := if catB l = false then 210 else if tabB t = false then 211 else if 0 ≤ idxL (fun x : TC => decide (x.name = t.name)) l then 5 else if l.length = 4 then 6 else 0
noncomputable def addR (l : List TC) (t : TC) : List TC := if addE l t = 0 then l ++ [t] else []
def AddO (E : Int) (R : List TC) (w : World) (e : Ending) (w' : World) : Prop := ∃ A2 n2 c2, e = .returned (.tuple #[.agg #[.slice A2 n2 c2], .int .i64 E]) ∧ LT3.rd w' (fun b => w.heap.size ≤ b) A2 n2 R ∧ n2 ≤ c2 ∧ c2 ≤ 9223372036854775807 ∧ Below w.heap.size w w'
set_option maxRecDepth 100000 in
set_option maxHeartbeats 16000000 in
theorem add_any (F : Nat → Prop) (l : List TC) (A : Option Addr) (m c : Nat) (t : TC) (A1 : Option Addr) (n1 c1 : Nat) (B1 : Option Addr) (m1 d1 : Nat) (w : World) (h : LT3.rd w F A m l) (hm : m ≤ 100000) (hT : Tab w) (hs : ∀ (k : Nat) (t : TC), l[k]? = some t → Sz t ∧ Ln t)
    (h1 : LCO.rd w F A1 n1 t.cols) (h2 : LK.rd w F B1 m1 t.keys) (hst : Sz t) (hlt : Ln t) :
    Calls Tryd.prog 12 #[.agg #[.slice A m c], .agg (t.cells A1 n1 c1 B1 m1 d1)] w (AddO (addE l t) (addR l t) w) := by
  have HL := Lib.hid (Lay.rd_len h)
  have HS := Lib.hid hs
  have HST := Lib.hid hst
  have hn1 : n1 ≤ 100000 := by have := hlt.1; rw [Lay.rd_len h1] at this; exact this
  have hm1 : m1 ≤ 100000 := by have := hlt.2; rw [Lay.rd_len h2] at this; exact this
  have q3 := bl_al (bl_al (bl_al (Below.refl w.heap.size w) (.cells #[.slice A m c] 24)) (.cells (t.cells A1 n1 c1 B1 m1 d1) 28)) (.cells #[.slice none 0 0] 24)
  have HRD := Lib.hid (Lay.rd_below h q3)
  have HR1 := Lib.hid (Lay.rd_below h1 q3)
  have HR2 := Lib.hid (Lay.rd_below h2 q3)
  have HTB := Lib.hid (hT.below q3)
  have HB := Lib.hid (((Blk.new w 24 #[.slice A m c]).alloc (.cells (t.cells A1 n1 c1 B1 m1 d1) 28)).alloc (.cells #[.slice none 0 0] 24))
  have HT := Lib.hid ((Blk.new (w.alloc (.cells #[.slice A m c] 24)) 28 (t.cells A1 n1 c1 B1 m1 d1)).alloc (.cells #[.slice none 0 0] 24))
  have HO := Lib.hid (Blk.new ((w.alloc (.cells #[.slice A m c] 24)).alloc (.cells (t.cells A1 n1 c1 B1 m1 d1) 28)) 24 #[.slice none 0 0])
  rw [World.size_alloc] at HT
  rw [World.size_alloc, World.size_alloc] at HO
  have HQ3 := Lib.hid q3
  have hs3 : (((w.alloc (.cells #[.slice A m c] 24)).alloc (.cells (t.cells A1 n1 c1 B1 m1 d1) 28)).alloc (.cells #[.slice none 0 0] 24)).heap.size = w.heap.size + 3 := by simp only [World.size_alloc]
  have y0 := HB.out.cell 0
  have t0 := HT.out.cell 0
  clear q3 h h1 h2 hs hst hlt hT
  have HE := Lib.hid (show addE l t = if catB l = false then 210 else if tabB t = false then 211 else if 0 ≤ idxL (fun x : TC => decide (x.name = t.name)) l then 5 else if l.length = 4 then 6 else 0 from rfl)
  have HRR := Lib.hid (show addR l t = if addE l t = 0 then l ++ [t] else [] from rfl)
  generalize addE l t = E at *
  generalize addR l t = RR at *
  go_enter Tryd.func12, Tryd.ntmps12
  go_wp2_with fail
  generalize ((w.alloc (.cells #[.slice A m c] 24)).alloc (.cells (t.cells A1 n1 c1 B1 m1 d1) 28)).alloc (.cells #[.slice none 0 0] 24) = w1 at *
  refine (find_any F l A m c t.name w1 HRD.out (by omega)).mono ?_
  rintro e w2 ⟨rfl, q2⟩
  clear y0 t0
  obtain ⟨z, hz⟩ : ∃ z, z = idxL (fun x : TC => decide (x.name = t.name)) l := ⟨_, rfl⟩
  rw [← hz] at HE ⊢
  clear hz
  have HB2 := Lib.hid (HB.out.ca q2)
  have HT2 := Lib.hid (HT.out.ca q2)
  have HO2 := Lib.hid (HO.out.ca q2)
  have HRD2 := Lib.hid (Lay.rd_below HRD.out q2)
  have HR12 := Lib.hid (Lay.rd_below HR1.out q2)
  have HR22 := Lib.hid (Lay.rd_below HR2.out q2)
  have HTB2 := Lib.hid (HTB.out.below q2)
  have HQ2 := Lib.hid (bl_ca HQ3.out q2)
  have hs2 := q2.size
  clear q2 HB HT HO HRD HR1 HR2 HTB HQ3
  have y0 := HB2.out.cell 0
  go_wp2_with fail
  refine (check_any F l A m c w2 HRD2.out (by omega) HTB2.out (fun k x hx => (HS.out k x hx).1)).mono ?_
  rintro e w3 ⟨rfl, q3⟩
  clear y0
  have HB3 := Lib.hid (HB2.out.ca q3)
  have HT3 := Lib.hid (HT2.out.ca q3)
  have HO3 := Lib.hid (HO2.out.ca q3)
  have HRD3 := Lib.hid (Lay.rd_below HRD2.out q3)
  have HR13 := Lib.hid (Lay.rd_below HR12.out q3)
  have HR23 := Lib.hid (Lay.rd_below HR22.out q3)
  have HTB3 := Lib.hid (HTB2.out.below q3)
  have HQ3 := Lib.hid (bl_ca HQ2.out q3)
  have hs4 := q3.size
  clear q3 HB2 HT2 HO2 HRD2 HR12 HR22 HTB2 HQ2
  obtain ⟨cb, hcb⟩ : ∃ cb, cb = catB l := ⟨_, rfl⟩
  rw [← hcb] at HE ⊢
  clear hcb
  cases cb
  · have HF := Lib.hid (show E = 210 ∧ RR = [] from by
      have h9 : E = 210 := by rw [HE.out, if_pos rfl]
      exact ⟨h9, by rw [HRR.out, h9]; rfl⟩)
    rw [show eC false = 210 from rfl]
    go_wp2_with (first | (refine wpList_store_blk rfl 24 (.tmp 4) (.tmp 19) rfl (w.heap.size + 1 + 1) 24 #[.slice none 0 0] #[.slice none 0 0] rfl rfl HO3.out rfl catI (by simp [Value.oneCell']) ?_; intro w8 h8 g8))
    exact bodyPost_ret (res2 Tryd.results12 rfl rfl h8 Tryd.underlying24 rfl catI) rfl ⟨none, 0, 0, by rw [HF.out.1]; rfl, by rw [HF.out.2]; exact Lay.rd_nil _, by omega, by omega, bl_gr HQ3.out g8 (by omega)⟩
  rw [show eC true = 0 from rfl]
  have t0 := HT3.out.cell 0
  have t1 := HT3.out.cell 1
  have t2 := HT3.out.cell 2
  go_wp2_with fail
  refine (checkt_any F F t A1 n1 c1 B1 m1 d1 w3 HR13.out HR23.out (by omega) (by omega) HTB3.out HST.out).mono ?_
  rintro e w4 ⟨rfl, q4⟩
  clear t0 t1 t2
  have HB4 := Lib.hid (HB3.out.ca q4)
  have HT4 := Lib.hid (HT3.out.ca q4)
  have HO4 := Lib.hid (HO3.out.ca q4)
  have HRD4 := Lib.hid (Lay.rd_below HRD3.out q4)
  have HR14 := Lib.hid (Lay.rd_below HR13.out q4)
  have HR24 := Lib.hid (Lay.rd_below HR23.out q4)
  have HQ4 := Lib.hid (bl_ca HQ3.out q4)
  have hs5 := q4.size
  clear q4 HB3 HT3 HO3 HRD3 HR13 HR23 HTB3 HQ3
  obtain ⟨tb, htb⟩ : ∃ tb, tb = tabB t := ⟨_, rfl⟩
  rw [← htb] at HE ⊢
  clear htb
  cases tb
  · have HF := Lib.hid (show E = 211 ∧ RR = [] from by
      have h9 : E = 211 := by rw [HE.out, if_neg (by simp), if_pos rfl]
      exact ⟨h9, by rw [HRR.out, h9]; rfl⟩)
    rw [show eT false = 211 from rfl]
    go_wp2_with (first | (refine wpList_store_blk rfl 24 (.tmp 4) (.tmp 24) rfl (w.heap.size + 1 + 1) 24 #[.slice none 0 0] #[.slice none 0 0] rfl rfl HO4.out rfl catI (by simp [Value.oneCell']) ?_; intro w8 h8 g8))
    exact bodyPost_ret (res2 Tryd.results12 rfl rfl h8 Tryd.underlying24 rfl catI) rfl ⟨none, 0, 0, by rw [HF.out.1]; rfl, by rw [HF.out.2]; exact Lay.rd_nil _, by omega, by omega, bl_gr HQ4.out g8 (by omega)⟩
  rw [show eT true = 0 from rfl]
  by_cases hz : 0 ≤ z
  · have HF := Lib.hid (show E = 5 ∧ RR = [] from by
      have h9 : E = 5 := by rw [HE.out, if_neg (by simp), if_neg (by simp), if_pos hz]
      exact ⟨h9, by rw [HRR.out, h9]; rfl⟩)
    have hz1 : decide (0 ≤ z) = true := decide_eq_true hz
    go_wp2_with (first | (refine wpList_store_blk rfl 24 (.tmp 4) (.tmp 27) rfl (w.heap.size + 1 + 1) 24 #[.slice none 0 0] #[.slice none 0 0] rfl rfl HO4.out rfl catI (by simp [Value.oneCell']) ?_; intro w8 h8 g8))
    exact bodyPost_ret (res2 Tryd.results12 rfl rfl h8 Tryd.underlying24 rfl catI) rfl ⟨none, 0, 0, by rw [HF.out.1]; rfl, by rw [HF.out.2]; exact Lay.rd_nil _, by omega, by omega, bl_gr HQ4.out g8 (by omega)⟩
  have hz1 : decide (0 ≤ z) = false := decide_eq_false hz
  have y0 := HB4.out.cell 0
  by_cases h4 : m = 4
  · have HF := Lib.hid (show E = 6 ∧ RR = [] from by
      have h9 : E = 6 := by rw [HE.out, if_neg (by simp), if_neg (by simp), if_neg hz, if_pos (by rw [HL.out]; exact h4)]
      exact ⟨h9, by rw [HRR.out, h9]; rfl⟩)
    have e4 : ((m : Int) == 4) = true := by simp; omega
    clear hz h4
    go_wp2_with (first | (refine wpList_store_blk rfl 24 (.tmp 4) (.tmp 33) rfl (w.heap.size + 1 + 1) 24 #[.slice none 0 0] #[.slice none 0 0] rfl rfl HO4.out rfl catI (by simp [Value.oneCell']) ?_; intro w8 h8 g8))
    exact bodyPost_ret (res2 Tryd.results12 rfl rfl h8 Tryd.underlying24 rfl catI) rfl ⟨none, 0, 0, by rw [HF.out.1]; rfl, by rw [HF.out.2]; exact Lay.rd_nil _, by omega, by omega, bl_gr HQ4.out g8 (by omega)⟩
  have HF := Lib.hid (show E = 0 ∧ RR = l ++ [t] from by
    have h9 : E = 0 := by rw [HE.out, if_neg (by simp), if_neg (by simp), if_neg hz, if_neg (by rw [HL.out]; exact h4)]
    exact ⟨h9, by rw [HRR.out, h9]; rfl⟩)
  have e4 : ((m : Int) == 4) = false := by simp; omega
  clear hz h4
  go_upto_region 10 with fail
  clear e4 hz1 y0 HE HRR
  refine wp_region_ps (S := SeqN [2, 4, 5, 6, 8] (fun z mm w' => match z with | 0 => Below w4.heap.size w4 w' | 1 => Below w4.heap.size w4 w' ∧ ∃ A2 c2 Bx, mm 2 = .slice A2 m c2 ∧ w4.heap.size ≤ Bx ∧ LT3.own 28 w' Bx (fun b => w4.heap.size ≤ b ∧ b < w'.heap.size) A2 m c2 l | 2 => Below w4.heap.size w4 w' ∧ ∃ A2 c2 Bx A4 c4 B4 d4, (mm 2 = .slice A2 m c2 ∧ w4.heap.size ≤ Bx ∧ LT3.own 28 w' Bx (fun b => w4.heap.size ≤ b ∧ b < w'.heap.size) A2 m c2 l) ∧ mm 4 = .agg #[.string t.name, .slice A4 n1 c4, .slice B4 m1 d4] ∧ LCO.rd w' (fun b => w4.heap.size ≤ b ∧ (Value.slice A2 m c2).ownBlock ≠ some b) A4 n1 t.cols ∧ n1 ≤ c4 ∧ c4 ≤ 9223372036854775807 ∧ LK.rd w' (fun b => w4.heap.size ≤ b ∧ (Value.slice A2 m c2).ownBlock ≠ some b) B4 m1 t.keys ∧ m1 ≤ d4 ∧ d4 ≤ 9223372036854775807 | 3 => Below w4.heap.size w4 w' ∧ ∃ A2 c2 Bx A4 c4 B4 d4 gb, (mm 2 = .slice A2 m c2 ∧ w4.heap.size ≤ Bx ∧ LT3.own 28 w' Bx (fun b => w4.heap.size ≤ b ∧ b < w'.heap.size) A2 m c2 l) ∧ (mm 4 = .agg #[.string t.name, .slice A4 n1 c4, .slice B4 m1 d4] ∧ LCO.rd w' (fun b => w4.heap.size ≤ b ∧ (Value.slice A2 m c2).ownBlock ≠ some b) A4 n1 t.cols ∧ n1 ≤ c4 ∧ c4 ≤ 9223372036854775807 ∧ LK.rd w' (fun b => w4.heap.size ≤ b ∧ (Value.slice A2 m c2).ownBlock ≠ some b) B4 m1 t.keys ∧ m1 ≤ d4 ∧ d4 ≤ 9223372036854775807) ∧ mm 5 = .slice (some ⟨gb, 0, none⟩) 1 1 ∧ Blk w' gb 28 #[.string t.name, .slice A4 n1 c4, .slice B4 m1 d4] ∧ w4.heap.size ≤ gb ∧ (Value.slice A2 m c2).ownBlock ≠ some gb | 4 => Below w4.heap.size w4 w' ∧ ∃ A6 c6, mm 6 = .slice A6 (m + 1) c6 ∧ LT3.rd w' (fun b => w4.heap.size ≤ b) A6 (m + 1) (l ++ [t]) ∧ m + 1 ≤ c6 ∧ c6 ≤ 9223372036854775807 | _ => Chg (fun b => b = w.heap.size + 1 + 1) w4 w' ∧ ∃ A6 c6, (mm 6 = .slice A6 (m + 1) c6 ∧ LT3.rd w' (fun b => w4.heap.size ≤ b) A6 (m + 1) (l ++ [t]) ∧ m + 1 ≤ c6 ∧ c6 ≤ 9223372036854775807) ∧ Blk w' (w.heap.size + 1 + 1) 24 #[.slice A6 (m + 1) c6])) (by kernel_rfl) ?spswg1 ?ppswg1
  case spswg1 =>
    exact SeqN.start (by decide) (Below.refl _ _).drew
  refine Ps.st (i := 0) (d := some 34) (u := (.pointer (some ⟨w.heap.size, 0, none⟩))) rfl rfl (by exact StepS.pure (SeqN.pass (by decide)) rfl fun _ => rfl) ?_
  try simp only [Act.put, sA, sZ, sS]
  refine Ps.st (i := 1) (d := some 35) (u := (.slice A m c)) rfl rfl ?ywg1_3 ?rwg1_3
  case ywg1_3 =>
    refine StepS.read [] (by kernel_rfl) (SeqN.pass (by decide)) (by rfl) (fun L9 m9 w9 hSh hAt hDn hS => ?_)
    have hT : Below w4.heap.size w4 w9 := SeqN.lt (ks := [2, 4, 5, 6, 8]) (k := 8) (by simp) (reach_no hSh (f := 14) (j := 8) (by kernel_rfl) hDn) (fun z _ _ hz h => by match z, hz, h with | 0, _, h => exact h | 1, _, h => exact h.1 | 2, _, h => exact h.1 | 3, _, h => exact h.1 | 4, _, h => exact h.1 | _ + 5, hz, _ => exact absurd hz (by simp)) hS
    have x0 : w9.cell? ⟨w.heap.size, 0, none⟩ = some (.slice A m c) := (HB4.out.ca hT).cell 0
    clear hT hS
    go_simp
    try rfl
  try simp only [Act.put, sA, sZ, sS]
  refine Ps.st (i := 3) (d := some 37) (u := (.agg #[.string t.name, .slice A1 n1 c1, .slice B1 m1 d1])) rfl rfl ?ywg1_4 ?rwg1_4
  case ywg1_4 =>
    refine StepS.read [] (by kernel_rfl) (SeqN.pass (by decide)) (by rfl) (fun L9 m9 w9 hSh hAt hDn hS => ?_)
    have hT : Below w4.heap.size w4 w9 := SeqN.lt (ks := [2, 4, 5, 6, 8]) (k := 8) (by simp) (reach_no hSh (f := 14) (j := 8) (by kernel_rfl) hDn) (fun z _ _ hz h => by match z, hz, h with | 0, _, h => exact h | 1, _, h => exact h.1 | 2, _, h => exact h.1 | 3, _, h => exact h.1 | 4, _, h => exact h.1 | _ + 5, hz, _ => exact absurd hz (by simp)) hS
    have x0 : w9.cell? ⟨w.heap.size + 1, 0, none⟩ = some (.string t.name) := (HT4.out.ca hT).cell 0
    have x1 : w9.cell? ⟨w.heap.size + 1, 1, none⟩ = some (.slice A1 n1 c1) := (HT4.out.ca hT).cell 1
    have x2 : w9.cell? ⟨w.heap.size + 1, 2, none⟩ = some (.slice B1 m1 d1) := (HT4.out.ca hT).cell 2
    clear hT hS
    go_simp
    try rfl
  try simp only [Act.put, sA, sZ, sS]
  refine Ps.one (k := 2) (d := some 36) rfl rfl (by kernel_rfl) (TurnS.call (V := fun v => ∃ A2 c2, v = .slice A2 m c2) ?fwg1_5 ?awg1_5 [] (by kernel_rfl) (by rfl) (fun w9 => ?hwg1_5) (fun L9 m9 w9 hSh hAt hDn hS => ?cwg1_5)) (fun v2 hVv2 => ?rwg1_5)
  case hwg1_5 => go_simp; refine ⟨?_, ?_⟩ <;> rfl
  case cwg1_5 =>
    have hT := SeqN.at_ (m0 := m9) (m1 := m9) [] [4, 5, 6, 8] hSh (fun d hd => by cases hd) hDn (by kernel_rfl) hS
    have hsz := hT.size
    refine (copies_any F l A m c w9 (Lay.rd_below HRD4.out hT) hm (fun k x hx => (HS.out k x hx).2)).mono ?_
    rintro e w8 ⟨A2, c2, rfl, ho, q8⟩
    exact ⟨_, rfl, ⟨A2, c2, rfl⟩, SeqN.set_ (m0 := m9) (m1 := m9) [] [4, 5, 6, 8] hSh (fun d hd => by cases hd) hDn (by kernel_rfl) (by decide) (by decide) ⟨bl_ca hT q8, A2, c2, w9.heap.size, upd_same _ _ _, hsz, Lay.own_weak (fun b hb _ => ⟨by have := hb.1; omega, hb.2⟩) ho⟩⟩
  try simp only [Act.put, sA, sZ, sS]
  obtain ⟨A2, c2, rfl⟩ := hVv2
  refine Ps.one (k := 4) (d := some 38) rfl rfl (by kernel_rfl) (TurnS.call (V := fun v => ∃ A4 c4 B4 d4, v = .agg #[.string t.name, .slice A4 n1 c4, .slice B4 m1 d4]) ?fwg1_6 ?awg1_6 [2] (by kernel_rfl) (by rfl) (fun w9 => ?hwg1_6) (fun L9 m9 w9 hSh hAt hDn hS => ?cwg1_6)) (fun v4 hVv4 => ?rwg1_6)
  case hwg1_6 => go_simp; refine ⟨?_, ?_⟩ <;> rfl
  case cwg1_6 =>
    obtain ⟨hT, A3, c3, Bx, hv, hB, ho⟩ := SeqN.at_ [2] [5, 6, 8] hSh hAt hDn (by kernel_rfl) hS
    have hsz := hT.size
    have hob := Lay.own_base ho
    refine (copiedt_any F t A1 n1 c1 B1 m1 d1 w9 (Lay.rd_below HR14.out hT) (Lay.rd_below HR24.out hT) hn1 hm1).mono ?_
    rintro e w8 ⟨A4, c4, B4, d4, rfl, hr, g1, g2, hk, g3, g4, q8⟩
    exact ⟨_, rfl, ⟨A4, c4, B4, d4, rfl⟩, SeqN.set_ [2] [5, 6, 8] hSh hAt hDn (by kernel_rfl) (by decide) (by decide) ⟨bl_ca hT q8, A3, c3, Bx, A4, c4, B4, d4, ⟨(upd_ne (by decide)).trans hv, hB, Lay.own_weak (fun b hb _ => ⟨hb.1, by have := hb.2; have := q8.size; omega⟩) (Lay.own_below ho q8)⟩, upd_same _ _ _, Lay.rd_weak (fun b hb _ => ⟨by omega, fun e => by have := hob b e; omega⟩) hr, g1, g2, Lay.rd_weak (fun b hb _ => ⟨by omega, fun e => by have := hob b e; omega⟩) hk, g3, g4⟩⟩
  try simp only [Act.put, sA, sZ, sS]
  obtain ⟨A4, c4, B4, d4, rfl⟩ := hVv4
  refine Ps.one (k := 5) (d := some 39) rfl rfl (by kernel_rfl) (TurnS.value (V := fun v => ∃ gb, v = .slice (some ⟨gb, 0, none⟩) 1 1) [2, 4] (by kernel_rfl) (by rfl) (fun L9 m9 w9 hSh hAt hDn hS => ?cwg1_7)) (fun v5 hVv5 => ?rwg1_7)
  case cwg1_7 =>
    obtain ⟨hT, A3, c3, Bx, A5, c5, B5, d5, ⟨hv, hB, ho⟩, hv4, hr, g1, g2, hk, g3, g4⟩ := SeqN.at_ [2, 4] [6, 8] hSh hAt hDn (by kernel_rfl) hS
    obtain ⟨rfl, rfl⟩ : A2 = A3 ∧ c2 = c3 := by have h9 : Value.slice A2 m c2 = .slice A3 m c3 := (hAt 2 (by simp)).2.symm.trans hv; simpa using h9
    obtain ⟨rfl, rfl, rfl, rfl⟩ : A4 = A5 ∧ c4 = c5 ∧ B4 = B5 ∧ d4 = d5 := by have h9 : Value.agg #[.string t.name, .slice A4 n1 c4, .slice B4 m1 d4] = .agg #[.string t.name, .slice A5 n1 c5, .slice B5 m1 d5] := (hAt 4 (by simp)).2.symm.trans hv4; simpa [and_assoc] using h9
    have hsz := hT.size
    have hob := Lay.own_base ho
    have q8 := bl_al (Below.refl w9.heap.size w9) (.cells #[.string t.name, .slice A4 n1 c4, .slice B4 m1 d4] 28)
    refine ⟨.slice (some ⟨w9.heap.size, 0, none⟩) 1 1, w9.alloc (.cells #[.string t.name, .slice A4 n1 c4, .slice B4 m1 d4] 28), ?_, ⟨_, rfl⟩, SeqN.set_ [2, 4] [6, 8] hSh hAt hDn (by kernel_rfl) (by decide) (by decide) ⟨bl_ca hT q8, A2, c2, Bx, A4, c4, B4, d4, w9.heap.size, ⟨(upd_ne (by decide)).trans hv, hB, Lay.own_weak (fun b hb _ => ⟨hb.1, by have := hb.2; have := q8.size; omega⟩) (Lay.own_below ho q8)⟩, ⟨(upd_ne (by decide)).trans hv4, Lay.rd_below hr q8, g1, g2, Lay.rd_below hk q8, g3, g4⟩, upd_same _ _ _, Blk.new _ _ _, hsz, fun e => by have := hob _ e; omega⟩⟩
    clear hT hS ho hr hk q8 hv hv4 hob
    go_simp
  try simp only [Act.put, sA, sZ, sS]
  obtain ⟨gb, rfl⟩ := hVv5
  refine Ps.one (k := 6) (d := some 40) rfl rfl (by kernel_rfl) (TurnS.value (V := fun v => ∃ A6 c6, v = .slice A6 (m + 1) c6) [2, 4, 5] (by kernel_rfl) (by rfl) (fun L9 m9 w9 hSh hAt hDn hS => ?cwg1_8)) (fun v6 hVv6 => ?rwg1_8)
  case cwg1_8 =>
    obtain ⟨hT, A3, c3, Bx, A5, c5, B5, d5, gb2, ⟨hv, hB, ho⟩, ⟨hv4, hr, g1, g2, hk, g3, g4⟩, hv5, hbk, hgb, hne⟩ := SeqN.at_ [2, 4, 5] [8] hSh hAt hDn (by kernel_rfl) hS
    obtain ⟨rfl, rfl⟩ : A2 = A3 ∧ c2 = c3 := by have h9 : Value.slice A2 m c2 = .slice A3 m c3 := (hAt 2 (by simp)).2.symm.trans hv; simpa using h9
    obtain ⟨rfl, rfl, rfl, rfl⟩ : A4 = A5 ∧ c4 = c5 ∧ B4 = B5 ∧ d4 = d5 := by have h9 : Value.agg #[.string t.name, .slice A4 n1 c4, .slice B4 m1 d4] = .agg #[.string t.name, .slice A5 n1 c5, .slice B5 m1 d5] := (hAt 4 (by simp)).2.symm.trans hv4; simpa [and_assoc] using h9
    obtain rfl : gb = gb2 := by have h9 : Value.slice (some ⟨gb, 0, none⟩) 1 1 = .slice (some ⟨gb2, 0, none⟩) 1 1 := (hAt 5 (by simp)).2.symm.trans hv5; simpa using h9
    have hsz9 := hT.size
    have hob := Lay.own_base ho
    have ho2 := Lay.own_weak (G' := fun b => w4.heap.size ≤ b ∧ b < w9.heap.size) (fun b hb _ => hb) ho
    obtain ⟨A6, c6, w8, hrun, ho6, hgr, hat6⟩ := run_appL (L := LT3) (e := 28) (P := Tryd.prog) (w := w9) 22 22 _ 3 64 Tryd.underlying22 Tryd.tableInfo rfl rfl (by decide) w4.heap.size (fun b => w4.heap.size ≤ b ∧ b < w9.heap.size) A2 m c2 l gb 1 28 #[.string t.name, .slice A4 n1 c4, .slice B4 m1 d4] t (Lay.own_less ho2 hB) hbk ⟨A4, n1, c4, B4, m1, d4, rfl, g1, g2, Lay.rd_weak (fun b hb hl => ⟨⟨hb.1, hl⟩, hb.2⟩) hr, g3, g4, Lay.rd_weak (fun b hb hl => ⟨⟨hb.1, hl⟩, hb.2⟩) hk⟩ (fun b hb => hb.2) (by omega) (by unfold maxLen; omega) hsz9
    have hbel : Below w4.heap.size w4 w8 := hT.grown hgr hsz9 (fun k e => by have := hob k e; omega)
    exact ⟨_, w8, exec_append (.tmp 36) (.tmp 39) 22 rfl rfl rfl hrun, ⟨A6, c6, rfl⟩, SeqN.set_ [2, 4, 5] [8] hSh hAt hDn (by kernel_rfl) (by decide) (by decide) ⟨hbel, A6, c6, upd_same _ _ _, Lay.own_rd ho6 (fun b hb _ => hb) (fun b hb _ => hb.1), (Lay.own_caps ho6).1, (Lay.own_caps ho6).2⟩⟩
  try simp only [Act.put, sA, sZ, sS]
  obtain ⟨A6, c6, rfl⟩ := hVv6
  refine Ps.st (i := 7) (d := some 41) (u := (.agg #[.slice A6 (m + 1) c6])) rfl rfl (by exact StepS.pure (SeqN.pass (by decide)) rfl fun _ => by first | rfl | (go_simp; done) | (go_simp; rfl)) ?_
  try simp only [Act.put, sA, sZ, sS]
  refine Ps.st (i := 8) (d := none) (u := undef) rfl rfl ?ywg1_10 ?rwg1_10
  case ywg1_10 =>
    refine StepS.store [2, 4, 5, 6] (by kernel_rfl) (by rfl) (fun L9 m9 w9 hSh hAt hDn hS => ?_)
    obtain ⟨hT, A7, c7, hv, hr, g1, g2⟩ := SeqN.at_ [2, 4, 5, 6] [] hSh hAt hDn (by kernel_rfl) hS
    obtain ⟨rfl, rfl⟩ : A6 = A7 ∧ c6 = c7 := by have h9 : Value.slice A6 (m + 1) c6 = .slice A7 (m + 1) c7 := (hAt 6 (by simp)).2.symm.trans hv; simpa using h9
    refine (exec_store_blk (w := w9) 24 (.tmp 4) (.tmp 41) (by rfl) (w.heap.size + 1 + 1) 24 #[.slice none 0 0] #[.slice A6 (m + 1) c6] (by rfl) (by rfl) (HO4.out.ca hT) rfl catI (by simp [Value.oneCell'])).imp fun w7 hx => ⟨hx.1, SeqN.set_ [2, 4, 5, 6] [] hSh hAt hDn (by kernel_rfl) (by decide) (by decide) ⟨(Chg.of_below hT).grown hx.2.2 (fun k e => .inl (by injection e with e; exact e.symm)), A6, c6, ⟨hv, rd_grownH hr hx.2.2 (fun b hb => by omega), g1, g2⟩, hx.2.1⟩⟩
  try simp only [Act.put]
  refine Ps.st (i := 9) (d := some 5) (u := (.int .i64 (0))) rfl rfl (by exact StepS.pure (SeqN.pass (by decide)) rfl fun _ => rfl) ?_
  try simp only [Act.put, sA, sZ, sS]
  refine Ps.done (by kernel_rfl) (fun wg1 hS => ?_) _
  obtain ⟨hch, A7, c7, ⟨hv, hr, g1, g2⟩, hbx⟩ := SeqN.fin (by rfl) hS
  clear hS
  obtain ⟨rfl, rfl⟩ : A6 = A7 ∧ c6 = c7 := by have h9 : Value.slice A6 (m + 1) c6 = .slice A7 (m + 1) c7 := hv; simpa using h9
  clear hv
  obtain ⟨w6, rfl⟩ : ∃ x, x = wg1 := ⟨_, rfl⟩
  have HCH := Lib.hid hch
  have HRO := Lib.hid hr
  have HBX := Lib.hid hbx
  have HCP := Lib.hid (And.intro g1 g2)
  clear hch hr hbx g1 g2
  have hs6 := HCH.out.size
  go_wp2
  exact bodyPost_ret (res2 Tryd.results12 rfl rfl HBX.out Tryd.underlying24 rfl catI) rfl ⟨A6, m + 1, c6, by rw [HF.out.1]; rfl, by rw [HF.out.2]; exact Lay.rd_weak (fun b hb _ => by omega) HRO.out, HCP.out.1, HCP.out.2, Chg.bel HQ4.out HCH.out (fun b _ h9 => by omega) HQ4.out.size⟩
end Go.Proofs.YthgcdilkkldgjaaDoor
