/- The reference's Without, With. Conditions: the slices read so. -/
import Derived.Test.YthgcdilkkldgjaaGreatDoorPkC5
namespace Go.Proofs.YthgcdilkkldgjaaGreatDoor
open Go.RowKit
theorem Tryz.tableInfo : (Tryz.prog.info? 41).map (fun i => (i.zero, i.size, i.bytes)) = some (some (.agg #[.string ⟨#[]⟩, .slice none 0 0, .slice none 0 0]), 3, 64) := by kernel_rfl
theorem catI : (Tryz.prog.info? 24).map (·.size) = some 1 := by kernel_rfl
/-- without the one at a place -/
def woF (at_ : Int) : Nat → List TC → List TC
  | _, [] => []
  | i, t :: l => if (i : Int) = at_ then woF at_ (i + 1) l else t :: woF at_ (i + 1) l
theorem woF_snoc (at_ : Int) (x : TC) : ∀ (l : List TC) (i : Nat), woF at_ i (l ++ [x]) = woF at_ i l ++ (if ((i + l.length : Nat) : Int) = at_ then [] else [x])
  | [], i => by
    simp only [List.nil_append, woF, List.length_nil, Nat.add_zero]
  | t :: l, i => by
    simp only [List.cons_append, woF, woF_snoc at_ x l (i + 1), List.length_cons]
    rw [show i + 1 + l.length = i + (l.length + 1) from by omega]
    by_cases h : (i : Int) = at_
    · rw [if_pos h, if_pos h]
    · rw [if_neg h, if_neg h]; rfl
theorem take_next {α : Type} {l : List α} {i : Nat} {x : α} (h : l[i]? = some x) : l.take (i + 1) = l.take i ++ [x] := by rw [List.take_add_one, h]; rfl
set_option maxRecDepth 100000 in
set_option maxHeartbeats 4000000 in
theorem without_any (F : Nat → Prop) (l : List TC) (A : Option Addr) (m c : Nat) (at_ : Int) (w : World) (h : LT3.rd w F A m l) (hm : m ≤ 1000000) :
    Calls Tryz.prog 50 #[.agg #[.slice A m c], .int .i64 at_] w fun e w' => ∃ A2 n2 c2, e = .returned (.agg #[.slice A2 n2 c2]) ∧ LT3.own 41 w' (w.heap.size + 3) (fun b => F b ∧ b < w.heap.size) A2 n2 c2 (woF at_ 0 l) ∧ Below w.heap.size w w' ∧ w.heap.size + 3 ≤ w'.heap.size := by
  have HL := Lib.hid (Lay.rd_len h)
  have HRD := Lib.hid (Lay.rd_weak (G := fun b => F b ∧ b < w.heap.size) (fun b hb hl => ⟨hb, hl⟩) h)
  clear h
  have q3 := bl_al (bl_al (bl_al (Below.refl w.heap.size w) (.cells #[.slice A m c] 24)) (.cells #[.slice none 0 0] 24)) (.cells #[.slice none 0 0] 24)
  have HB := Lib.hid (((Blk.new w 24 #[.slice A m c]).alloc (.cells #[.slice none 0 0] 24)).alloc (.cells #[.slice none 0 0] 24))
  have HRes := Lib.hid ((Blk.new (w.alloc (.cells #[.slice A m c] 24)) 24 #[.slice none 0 0]).alloc (.cells #[.slice none 0 0] 24))
  have HO := Lib.hid (Blk.new ((w.alloc (.cells #[.slice A m c] 24)).alloc (.cells #[.slice none 0 0] 24)) 24 #[.slice none 0 0])
  rw [World.size_alloc] at HRes
  rw [World.size_alloc, World.size_alloc] at HO
  have HQ3 := Lib.hid q3
  clear q3
  go_enter Tryz.func50, Tryz.ntmps50
  go_wp2_with fail
  have hs3 : (((w.alloc (.cells #[.slice A m c] 24)).alloc (.cells #[.slice none 0 0] 24)).alloc (.cells #[.slice none 0 0] 24)).heap.size = w.heap.size + 3 := by simp only [World.size_alloc]
  generalize ((w.alloc (.cells #[.slice A m c] 24)).alloc (.cells #[.slice none 0 0] 24)).alloc (.cells #[.slice none 0 0] 24) = w1 at *
  go_loopg [6] m (fun g a wr => ∃ (i : Nat) (A2 : Option Addr) (n2 c2 : Nat), i + g = m ∧ a = .int .i64 i ∧ n2 ≤ i ∧ Blk wr (w.heap.size + 1 + 1) 24 #[.slice A2 n2 c2] ∧ LT3.own 41 wr (w.heap.size + 3) (fun b => F b ∧ b < w.heap.size) A2 n2 c2 (woF at_ 0 (l.take i)) ∧ Blk wr w.heap.size 24 #[.slice A m c] ∧ Blk wr (w.heap.size + 1) 24 #[.slice none 0 0] ∧ Below w.heap.size w wr ∧ w.heap.size + 3 ≤ wr.heap.size)
  case atStart => exact ⟨0, none, 0, 0, by omega, rfl, by omega, HO.out, Lay.own_nil _ _, HB.out, HRes.out, HQ3.out, by omega⟩
  case round =>
    obtain ⟨i, A2, n2, c2, hig, rfl, hni, hbo, hown, hbb, hbr, hbel, hsz⟩ := hrel
    have HBO := Lib.hid hbo
    have HOW := Lib.hid hown
    have HBB := Lib.hid hbb
    have HBR := Lib.hid hbr
    have HBL := Lib.hid hbel
    have h1 := Lay.rd_below HRD.out hbel
    clear hbo hown hbb hbr hbel HB HO HRes HQ3
    have y0 := HBB.out.cell 0
    by_cases hlt : i < m
    · have hi1 : (i : Int) < (m : Int) := by omega
      by_cases hat : (i : Int) = at_
      · have e1 : ((i : Int) == at_) = true := by simpa using hat
        obtain ⟨p, t, cs, hAe, hx, _⟩ := Lay.rd_at h1 hlt
        have HQ := Lib.hid (show woF at_ 0 (l.take (i + 1)) = woF at_ 0 (l.take i) from by rw [take_next hx, woF_snoc, if_pos (by rw [List.length_take, HL.out]; omega), List.append_nil])
        clear hat hx hAe
        go_wp2
        go_roundg (gk - 1)
        · exact ⟨i + 1, A2, n2, c2, by omega, by go_num, by omega, HBO.out, by rw [HQ.out]; exact HOW.out, HBB.out, HBR.out, HBL.out, hsz⟩
        · omega
      · have e1 : ((i : Int) == at_) = false := by simpa using hat
        obtain ⟨p, t, A1, n1, c1, B1, m1, d1, hAe, hx, s1⟩ := LT3_at h1 hlt
        obtain rfl : A = some p := hAe
        have HQ := Lib.hid (show woF at_ 0 (l.take (i + 1)) = woF at_ 0 (l.take i) ++ [t] from by rw [take_next hx, woF_snoc, if_neg (by rw [List.length_take, HL.out]; omega)])
        have f0 := s1.c0
        have f1 := s1.c1
        have f2 := s1.c2
        have HS := Lib.hid s1
        clear hat hx s1
        go_wp2_with fail
        clear y0
        refine wp_region_ps (S := SeqN [7, 8, 10] (fun z mm w' => match z with | 0 => Below wr.heap.size wr w' | 1 => Below wr.heap.size wr w' ∧ ∃ gb, mm 7 = .slice (some ⟨gb, 0, none⟩) 1 1 ∧ Blk w' gb 41 #[.string t.name, .slice A1 n1 c1, .slice B1 m1 d1] | 2 => Chg (fun k => k = w.heap.size + 1 + 1 ∨ (Value.slice A2 n2 c2).ownBlock = some k) wr w' ∧ Blk w' (w.heap.size + 1 + 1) 24 #[.slice A2 n2 c2] ∧ ∃ A6 c6, mm 8 = .slice A6 (n2 + 1) c6 ∧ LT3.own 41 w' (w.heap.size + 3) (fun b => F b ∧ b < w.heap.size) A6 (n2 + 1) c6 (woF at_ 0 (l.take i) ++ [t]) | _ => Chg (fun k => k = w.heap.size + 1 + 1 ∨ (Value.slice A2 n2 c2).ownBlock = some k) wr w' ∧ ∃ A6 c6, mm 8 = .slice A6 (n2 + 1) c6 ∧ LT3.own 41 w' (w.heap.size + 3) (fun b => F b ∧ b < w.heap.size) A6 (n2 + 1) c6 (woF at_ 0 (l.take i) ++ [t]) ∧ Blk w' (w.heap.size + 1 + 1) 24 #[.slice A6 (n2 + 1) c6])) (by kernel_rfl) ?spswg1 ?ppswg1
        case spswg1 =>
          exact SeqN.start (by decide) (Below.refl _ _).drew
        refine Ps.st (i := 0) (d := some 17) (u := (.pointer (some ⟨w.heap.size + 1 + 1, 0, none⟩))) rfl rfl (by exact StepS.pure (SeqN.pass (by decide)) rfl fun _ => rfl) ?_
        try simp only [Act.put, sA, sZ, sS]
        refine Ps.st (i := 1) (d := some 18) (u := (.slice A2 n2 c2)) rfl rfl ?ywg1_3 ?rwg1_3
        case ywg1_3 =>
          refine StepS.read [] (by kernel_rfl) (SeqN.pass (by decide)) (by rfl) (fun L9 m9 w9 hSh hAt hDn hS => ?_)
          have hT : Below wr.heap.size wr w9 := SeqN.z01 hSh (reach_no hSh (f := 12) (j := 8) (by kernel_rfl) hDn) (by kernel_rfl) (fun _ _ h => h) (fun _ _ h => h.1) hS
          have x0 : w9.cell? ⟨w.heap.size + 1 + 1, 0, none⟩ = some (.slice A2 n2 c2) := (HBO.out.ca hT).cell 0
          clear hT hS
          go_simp
          try rfl
        try simp only [Act.put, sA, sZ, sS]
        refine Ps.st (i := 2) (d := some 19) (u := (.pointer (some ⟨w.heap.size, 0, none⟩))) rfl rfl (by exact StepS.pure (SeqN.pass (by decide)) rfl fun _ => rfl) ?_
        try simp only [Act.put, sA, sZ, sS]
        refine Ps.st (i := 3) (d := some 20) (u := (.slice (some p) m c)) rfl rfl ?ywg1_5 ?rwg1_5
        case ywg1_5 =>
          refine StepS.read [] (by kernel_rfl) (SeqN.pass (by decide)) (by rfl) (fun L9 m9 w9 hSh hAt hDn hS => ?_)
          have hT : Below wr.heap.size wr w9 := SeqN.z01 hSh (reach_no hSh (f := 12) (j := 8) (by kernel_rfl) hDn) (by kernel_rfl) (fun _ _ h => h) (fun _ _ h => h.1) hS
          have x0 : w9.cell? ⟨w.heap.size, 0, none⟩ = some (.slice (some p) m c) := (HBB.out.ca hT).cell 0
          clear hT hS
          go_simp
          try rfl
        try simp only [Act.put, sA, sZ, sS]
        refine Ps.st (i := 4) (d := some 21) (u := (.int .i64 ((i : Int)))) rfl rfl (by exact StepS.pure (SeqN.pass (by decide)) rfl fun _ => rfl) ?_
        try simp only [Act.put, sA, sZ, sS]
        refine Ps.st (i := 5) (d := some 22) (u := (.pointer (some (p.add (i * 3))))) rfl rfl (by exact StepS.pure (SeqN.pass (by decide)) rfl fun _ => by first | rfl | (go_simp; done) | (go_simp; rfl)) ?_
        try simp only [Act.put, sA, sZ, sS]
        refine Ps.st (i := 6) (d := some 23) (u := (.agg #[.string t.name, .slice A1 n1 c1, .slice B1 m1 d1])) rfl rfl ?ywg1_8 ?rwg1_8
        case ywg1_8 =>
          refine StepS.read [] (by kernel_rfl) (SeqN.pass (by decide)) (by rfl) (fun L9 m9 w9 hSh hAt hDn hS => ?_)
          have hT : Below wr.heap.size wr w9 := SeqN.z01 hSh (reach_no hSh (f := 12) (j := 8) (by kernel_rfl) hDn) (by kernel_rfl) (fun _ _ h => h) (fun _ _ h => h.1) hS
          have x0 : w9.cell? (p.add (i * 3)) = some (.string t.name) := ce f0 hT
          have x1 : w9.cell? ⟨(p.add (i * 3)).block, (p.add (i * 3)).off + 1, none⟩ = some (.slice A1 n1 c1) := ce f1 hT
          have x2 : w9.cell? ⟨(p.add (i * 3)).block, (p.add (i * 3)).off + 2, none⟩ = some (.slice B1 m1 d1) := ce f2 hT
          clear hT hS
          go_simp
          try rfl
        try simp only [Act.put, sA, sZ, sS]
        refine Ps.one (k := 7) (d := some 24) rfl rfl (by kernel_rfl) (TurnS.value (V := fun v => ∃ gb, v = .slice (some ⟨gb, 0, none⟩) 1 1) [] (by kernel_rfl) (by rfl) (fun L9 m9 w9 hSh hAt hDn hS => ?cwg1_9)) (fun v7 hVv7 => ?rwg1_9)
        case cwg1_9 =>
          have hT := SeqN.at_ (m0 := m9) (m1 := m9) [] [8, 10] hSh (fun d hd => by cases hd) hDn (by kernel_rfl) hS
          refine ⟨.slice (some ⟨w9.heap.size, 0, none⟩) 1 1, w9.alloc (.cells #[.string t.name, .slice A1 n1 c1, .slice B1 m1 d1] 41), ?_, ⟨_, rfl⟩, SeqN.set_ (m0 := m9) (m1 := m9) [] [8, 10] hSh (fun d hd => by cases hd) hDn (by kernel_rfl) (by decide) (by decide) ⟨bl_al hT _, _, upd_same _ _ _, Blk.new _ _ _⟩⟩
          clear hT hS
          go_simp
        try simp only [Act.put, sA, sZ, sS]
        obtain ⟨gb, rfl⟩ := hVv7
        refine Ps.one (k := 8) (d := some 25) rfl rfl (by kernel_rfl) (TurnS.value (V := fun v => ∃ A6 c6, v = .slice A6 (n2 + 1) c6) [7] (by kernel_rfl) (by rfl) (fun L9 m9 w9 hSh hAt hDn hS => ?cwg1_10)) (fun v8 hVv8 => ?rwg1_10)
        case cwg1_10 =>
          obtain ⟨hT, gb2, hv, hg2⟩ := SeqN.at_ [7] [10] hSh hAt hDn (by kernel_rfl) hS
          obtain rfl : gb = gb2 := by have h9 : Value.slice (some ⟨gb, 0, none⟩) 1 1 = .slice (some ⟨gb2, 0, none⟩) 1 1 := (hAt 7 (by simp)).2.symm.trans hv; simpa using h9
          have hsz9 := hT.size
          obtain ⟨A6, c6, w8, hrun, ho6, hgr, hat6⟩ := run_appL (L := LT3) (e := 41) (P := Tryz.prog) (w := w9) 22 22 _ 3 64 Tryz.underlying22 Tryz.tableInfo rfl rfl (by decide) (w.heap.size + 3) (fun b => F b ∧ b < w.heap.size) A2 n2 c2 _ gb 1 41 #[.string t.name, .slice A1 n1 c1, .slice B1 m1 d1] t (Lay.own_below HOW.out hT) hg2 ⟨A1, n1, c1, B1, m1, d1, rfl, HS.out.nc, HS.out.cm, Lay.rd_weak (fun b hb _ => ⟨hb, fun e => absurd (Lay.own_base HOW.out b e).1 (by have := hb.2; omega)⟩) (Lay.rd_below HS.out.rd hT), HS.out.md, HS.out.dm, Lay.rd_weak (fun b hb _ => ⟨hb, fun e => absurd (Lay.own_base HOW.out b e).1 (by have := hb.2; omega)⟩) (Lay.rd_below HS.out.rk hT)⟩ (fun b hb => by have := hb.2; omega) (by omega) (by unfold maxLen; omega) (by omega)
          have hch : Chg (fun k => k = w.heap.size + 1 + 1 ∨ (Value.slice A2 n2 c2).ownBlock = some k) wr w8 := (Chg.of_below hT).grown hgr (fun k e => .inl (.inr e))
          exact ⟨_, w8, exec_append (.tmp 18) (.tmp 24) 22 rfl rfl rfl hrun, ⟨A6, c6, rfl⟩, SeqN.set_ [7] [10] hSh hAt hDn (by kernel_rfl) (by decide) (by decide) ⟨hch, (HBO.out.ca hT).grown hgr (fun e => absurd (Lay.own_base HOW.out _ e.symm).1 (by omega)), A6, c6, upd_same _ _ _, ho6⟩⟩
        try simp only [Act.put, sA, sZ, sS]
        obtain ⟨A6, c6, rfl⟩ := hVv8
        refine Ps.st (i := 9) (d := some 26) (u := (.pointer (some ⟨w.heap.size + 1 + 1, 0, none⟩))) rfl rfl (by exact StepS.pure (SeqN.pass (by decide)) rfl fun _ => rfl) ?_
        try simp only [Act.put, sA, sZ, sS]
        refine Ps.st (i := 10) (d := none) (u := undef) rfl rfl ?ywg1_12 ?rwg1_12
        case ywg1_12 =>
          refine StepS.store [7, 8] (by kernel_rfl) (by rfl) (fun L9 m9 w9 hSh hAt hDn hS => ?_)
          obtain ⟨hch, hN, A7, c7, hv, ho⟩ := SeqN.at_ [7, 8] [] hSh hAt hDn (by kernel_rfl) hS
          obtain ⟨rfl, rfl⟩ : A6 = A7 ∧ c6 = c7 := by have h9 : Value.slice A6 (n2 + 1) c6 = .slice A7 (n2 + 1) c7 := (hAt 8 (by simp)).2.symm.trans hv; simpa using h9
          have hN2 : Blk (w9.setCell ⟨w.heap.size + 1 + 1, 0, none⟩ (.slice A6 (n2 + 1) c6)) (w.heap.size + 1 + 1) 24 #[.slice A6 (n2 + 1) c6] := by simpa using hN.set_ 0 (.slice A6 (n2 + 1) c6)
          have hg2 : w9.grownBy (w9.setCell ⟨w.heap.size + 1 + 1, 0, none⟩ (.slice A6 (n2 + 1) c6)) (some (w.heap.size + 1 + 1)) := only_setCell (World.grownBy.refl _ _) (.inl rfl) _
          have x2 : w9.cell? ⟨w.heap.size + 1 + 1, 0, none⟩ = some (.slice A2 n2 c2) := hN.cell 0
          have fx : w9.frozen? ⟨w.heap.size + 1 + 1, 0, none⟩ = false := hN.frozen 0
          refine ⟨w9.setCell ⟨w.heap.size + 1 + 1, 0, none⟩ (.slice A6 (n2 + 1) c6), ?_, SeqN.set_ [7, 8] [] hSh hAt hDn (by kernel_rfl) (by decide) (by decide) ⟨hch.grown hg2 (fun k e => .inl (.inl (by injection e with e; exact e.symm))), A6, c6, hv, own_grownH ho hg2 (by omega) (fun b hb => by have := hb.2; omega), hN2⟩⟩
          clear hv ho hN hN2 hg2 hch hS
          go_simp
        try simp only [Act.put]
        refine Ps.done (by kernel_rfl) (fun wg1 hS => ?_) _
        obtain ⟨hch, A7, c7, hv, ho, hN⟩ := SeqN.fin (by rfl) hS
        clear hS
        obtain ⟨rfl, rfl⟩ : A6 = A7 ∧ c6 = c7 := by have h9 : Value.slice A6 (n2 + 1) c6 = .slice A7 (n2 + 1) c7 := hv; simpa using h9
        clear hv
        obtain ⟨wz, rfl⟩ : ∃ x, x = wg1 := ⟨_, rfl⟩
        have HCH := Lib.hid hch
        have HOZ := Lib.hid ho
        have HBZ := Lib.hid hN
        clear hch ho hN f0 f1 f2
        have HZ := Lib.hid (show wz.heap.size ≥ w.heap.size + 3 from Nat.le_trans hsz HCH.out.size)
        go_wp2_with fail
        go_roundg (gk - 1)
        · exact ⟨i + 1, A6, n2 + 1, c6, by omega, by go_num, by omega, HBZ.out, by rw [HQ.out]; exact HOZ.out, HBB.out.chg HCH.out (by have := HBB.out.lt; intro h9; rcases h9 with h9 | h9; omega; exact absurd (Lay.own_base HOW.out _ h9).1 (by omega)), HBR.out.chg HCH.out (by intro h9; rcases h9 with h9 | h9; omega; exact absurd (Lay.own_base HOW.out _ h9).1 (by omega)), Chg.bel HBL.out HCH.out (fun b _ h9 => by rcases h9 with h9 | h9; omega; have := (Lay.own_base HOW.out _ h9).1; omega) HBL.out.size, HZ.out⟩
        · omega
    · obtain rfl : i = m := by omega
      have hi1 : (i : Int) ≤ (i : Int) := by omega
      have HTK := Lib.hid (show l.take i = l from List.take_of_length_le (by rw [HL.out]; exact Nat.le_refl _))
      have z0 := HBO.out.cell 0
      go_wp2_with (first | (refine wpList_store_blk rfl 24 (.tmp 4) (.tmp 27) rfl (w.heap.size + 1) 24 #[.slice none 0 0] #[.slice A2 n2 c2] rfl rfl HBR.out rfl catI (by simp [Value.oneCell']) ?_; intro w8 h8 g8))
      exact bodyPost_ret (res1 Tryz.results50 rfl h8 Tryz.underlying24 rfl catI) rfl ⟨A2, n2, c2, rfl, by rw [HTK.out] at HOW; exact own_grownH HOW.out g8 (by omega) (fun b hb => by omega), bl_gr HBL.out g8 (by omega), Nat.le_trans hsz g8.size⟩
end Go.Proofs.YthgcdilkkldgjaaGreatDoor
/- The reference's With; the law's small. Conditions: the slices read so. -/
namespace Go.Proofs.YthgcdilkkldgjaaGreatDoor
open Go.RowKit
theorem woF_none : ∀ (l : List TC) (i : Nat), woF (-1) i l = l
  | [], _ => rfl
  | t :: l, i => by
    simp only [woF]
    rw [if_neg (by omega), woF_none l (i + 1)]
set_option maxRecDepth 100000 in
set_option maxHeartbeats 4000000 in
theorem with_any (F : Nat → Prop) (l : List TC) (A : Option Addr) (m c : Nat) (t : TC) (A1 : Option Addr) (n1 c1 : Nat) (B1 : Option Addr) (m1 d1 : Nat) (w : World) (h : LT3.rd w F A m l) (hm : m ≤ 1000000)
    (h1 : LCO.rd w F A1 n1 t.cols) (h2 : n1 ≤ c1) (h3 : c1 ≤ 9223372036854775807) (h4 : LK.rd w F B1 m1 t.keys) (h5 : m1 ≤ d1) (h6 : d1 ≤ 9223372036854775807) :
    Calls Tryz.prog 27 #[.agg #[.slice A m c], .agg (t.cells A1 n1 c1 B1 m1 d1)] w fun e w' => ∃ A2 n2 c2, e = .returned (.agg #[.slice A2 n2 c2]) ∧ LT3.rd w' (fun b => (F b ∧ b < w.heap.size) ∨ w.heap.size ≤ b) A2 n2 (l ++ [t]) ∧ Below w.heap.size w w' := by
  have HL := Lib.hid (Lay.rd_len h)
  have q3 := bl_al (bl_al (bl_al (Below.refl w.heap.size w) (.cells #[.slice A m c] 24)) (.cells (t.cells A1 n1 c1 B1 m1 d1) 41)) (.cells #[.slice none 0 0] 24)
  have HRD := Lib.hid (Lay.rd_below (Lay.rd_weak (G := fun b => F b ∧ b < w.heap.size) (fun b hb hl => ⟨hb, hl⟩) h) q3)
  have HR1 := Lib.hid (Lay.rd_below (Lay.rd_weak (G := fun b => F b ∧ b < w.heap.size) (fun b hb hl => ⟨hb, hl⟩) h1) q3)
  have HR2 := Lib.hid (Lay.rd_below (Lay.rd_weak (G := fun b => F b ∧ b < w.heap.size) (fun b hb hl => ⟨hb, hl⟩) h4) q3)
  have HB := Lib.hid (((Blk.new w 24 #[.slice A m c]).alloc (.cells (t.cells A1 n1 c1 B1 m1 d1) 41)).alloc (.cells #[.slice none 0 0] 24))
  have HT := Lib.hid ((Blk.new (w.alloc (.cells #[.slice A m c] 24)) 41 (t.cells A1 n1 c1 B1 m1 d1)).alloc (.cells #[.slice none 0 0] 24))
  have HO := Lib.hid (Blk.new ((w.alloc (.cells #[.slice A m c] 24)).alloc (.cells (t.cells A1 n1 c1 B1 m1 d1) 41)) 24 #[.slice none 0 0])
  rw [World.size_alloc] at HT
  rw [World.size_alloc, World.size_alloc] at HO
  have HQ3 := Lib.hid q3
  clear q3 h h1 h4
  have y0 := HB.out.cell 0
  go_enter Tryz.func27, Tryz.ntmps27
  go_wp2_with fail
  have hs3 : (((w.alloc (.cells #[.slice A m c] 24)).alloc (.cells (t.cells A1 n1 c1 B1 m1 d1) 41)).alloc (.cells #[.slice none 0 0] 24)).heap.size = w.heap.size + 3 := by simp only [World.size_alloc]
  generalize ((w.alloc (.cells #[.slice A m c] 24)).alloc (.cells (t.cells A1 n1 c1 B1 m1 d1) 41)).alloc (.cells #[.slice none 0 0] 24) = w1 at *
  refine (without_any (fun b => F b ∧ b < w.heap.size) l A m c (-1) w1 HRD.out hm).mono ?_
  rintro e w2 ⟨A2, n2, c2, rfl, ho, q2, hs2⟩
  rw [woF_none] at ho
  have hln : n2 = m := (Lay.own_len ho).symm.trans HL.out
  subst hln
  have HOW := Lib.hid ho
  have HT2 := Lib.hid (HT.out.ca q2)
  have HO2 := Lib.hid (HO.out.ca q2)
  have HR12 := Lib.hid (Lay.rd_below HR1.out q2)
  have HR22 := Lib.hid (Lay.rd_below HR2.out q2)
  have HQ2 := Lib.hid (bl_ca HQ3.out q2)
  clear ho q2 y0 HB HT HO HR1 HR2 HRD HQ3
  obtain ⟨gz, hgz⟩ : ∃ g, g = w2.heap.size := ⟨_, rfl⟩
  have HZ := Lib.hid hgz
  have t0 := (HT2.out.alloc (.cells #[.slice A2 n2 c2] 24)).cell 0
  have t1 := (HT2.out.alloc (.cells #[.slice A2 n2 c2] 24)).cell 1
  have t2 := (HT2.out.alloc (.cells #[.slice A2 n2 c2] 24)).cell 2
  have z0 := (Blk.new w2 24 #[.slice A2 n2 c2]).cell 0
  have q21 := bl_al (bl_al (Below.refl w2.heap.size w2) (.cells #[.slice A2 n2 c2] 24)) (.cells (t.cells A1 n1 c1 B1 m1 d1) 41)
  have HOW3 := Lib.hid (Lay.own_below HOW.out q21)
  have HO3 := Lib.hid (HO2.out.ca q21)
  have HN3 := Lib.hid ((Blk.new w2 24 #[.slice A2 n2 c2]).alloc (.cells (t.cells A1 n1 c1 B1 m1 d1) 41))
  have HE3 := Lib.hid (Blk.new (w2.alloc (.cells #[.slice A2 n2 c2] 24)) 41 (t.cells A1 n1 c1 B1 m1 d1))
  have HR3 := Lib.hid (And.intro (Lay.rd_below HR12.out q21) (Lay.rd_below HR22.out q21))
  have HQ3 := Lib.hid (bl_ca HQ2.out q21)
  have hs4 : ((w2.alloc (.cells #[.slice A2 n2 c2] 24)).alloc (.cells (t.cells A1 n1 c1 B1 m1 d1) 41)).heap.size = w2.heap.size + 2 := by simp only [World.size_alloc]
  rw [World.size_alloc] at HE3
  have HOB := Lib.hid (fun k e => Lay.own_base HOW.out k e)
  have HRB := Lib.hid (show LT3.rd ((w2.alloc (.cells #[.slice A2 n2 c2] 24)).alloc (.cells (t.cells A1 n1 c1 B1 m1 d1) 41)) (fun b => (F b ∧ b < w.heap.size) ∧ b < w1.heap.size ∨ b = w2.heap.size + 1) (some ⟨w2.heap.size + 1, 0, none⟩) 1 [t] from Lay.rd_blk HE3.out rfl (Lay.reps_single ⟨A1, n1, c1, B1, m1, d1, rfl, h2, h3, Lay.rd_weak (fun b hb _ => .inl ⟨hb, by have := hb.2; omega⟩) HR3.out.1, h5, h6, Lay.rd_weak (fun b hb _ => .inl ⟨hb, by have := hb.2; omega⟩) HR3.out.2⟩) (.inr rfl))
  clear q21 HOW HO2 HT2 HR12 HR22 hgz
  go_wp2_with (first
    | (at_builtin; refine wpList_appLs (L := LT3) rfl (.tmp 9) (.tmp 11) 22 rfl _ 3 64 Tryz.underlying22 Tryz.tableInfo rfl rfl (by omega) (w1.heap.size + 3) (fun b => (F b ∧ b < w.heap.size) ∧ b < w1.heap.size ∨ b = w2.heap.size + 1) (fun b => (F b ∧ b < w.heap.size) ∧ b < w1.heap.size ∨ b = w2.heap.size + 1) A2 n2 c2 l (some ⟨w2.heap.size + 1, 0, none⟩) 1 1 [t] (n2 + 1) rfl rfl rfl (Lay.own_weak (fun b hb _ => .inl hb) HOW3.out) HRB.out (fun b hb _ => ⟨hb, fun e => by have h9 := HOB.out b e; omega⟩) (fun b hb => by simp only [World.size_alloc]; omega) (by omega) (by unfold maxLen; omega) (by simp only [World.size_alloc]; omega) ?_; intro A6 c6 w6 ho6 hg6 hat6; have HN6 := HN3.out.grown hg6 (fun e => by have h9 := HOB.out _ e.symm; omega); have HO6 := Lib.hid (HO3.out.grown hg6 (fun e => by have h9 := HOB.out _ e.symm; omega)); have HP6 := Lib.hid ho6; have HAT := Lib.hid hat6; have HQ6 := Lib.hid (HQ3.out.grown hg6 HQ3.out.size (fun k e => by have h9 := HOB.out k e; omega)); have z6 := HN6.cell 0; have f6 := HN6.frozen 0; have HNN := Lib.hid HN6; clear ho6 hg6 hat6 HN6)
    | (refine wpList_store_blk rfl 24 (.tmp 4) (.tmp 14) rfl (w.heap.size + 1 + 1) 24 #[.slice none 0 0] #[.slice A6 (n2 + 1) c6] rfl rfl (HO6.out.far (p := ⟨w2.heap.size, 0, none⟩) (by show w.heap.size + 1 + 1 ≠ w2.heap.size; omega) (.slice A6 (n2 + 1) c6)) rfl catI (by simp [Value.oneCell']) ?_; intro w8 h8 g8))
  have hg7 : w6.grownBy (w6.setCell ⟨w2.heap.size, 0, none⟩ (.slice A6 (n2 + 1) c6)) (some w2.heap.size) := only_setCell (World.grownBy.refl _ _) (.inl rfl) _
  have hr6 := Lay.own_rd2 (F := fun b => ((F b ∧ b < w.heap.size) ∨ w.heap.size ≤ b) ∧ b ≠ w2.heap.size ∧ b ≠ w.heap.size + 1 + 1) HP6.out (fun b e => by
    have h9 := Lay.own_base HP6.out b e
    rcases HAT.out with hat | hat
    · rw [hat] at e
      have h8 := HOB.out b e
      exact ⟨.inr (by omega), by omega, by omega⟩
    · rw [hat] at e
      injection e with e
      simp only [World.size_alloc] at e
      exact ⟨.inr (by omega), by omega, by omega⟩) (fun b hb _ => by
    rcases hb with hb | hb
    · exact ⟨.inl hb.1, by have := hb.2; omega, by have := hb.2; omega⟩
    · exact ⟨.inr (by omega), by omega, by omega⟩)
  exact bodyPost_ret (res1 Tryz.results27 rfl h8 Tryz.underlying24 rfl catI) rfl ⟨A6, n2 + 1, c6, rfl, Lay.rd_weak (fun b hb _ => hb.1) (rd_grownH (rd_grownH hr6 hg7 (fun b hb => hb.2.1)) g8 (fun b hb => hb.2.2)), bl_gr (bl_gr HQ6.out hg7 (by omega)) g8 (by omega)⟩
end Go.Proofs.YthgcdilkkldgjaaGreatDoor
/- A region that copies two rows and stores them: what is known for each set of done operations. Conditions: none. -/
namespace Go.Proofs.YthgcdilkkldgjaaGreatDoor
open Go.RowKit
theorem LCO_free (w w' : World) (F G : Nat → Prop) : ∀ (ys : List CO) (cs : List Value), LCO.reps w F ys cs → LCO.reps w' G ys cs
  | [], _, h => h
  | _ :: l, _, ⟨x, y, e, h1, h2⟩ => ⟨x, y, e, h1, LCO_free w w' F G l y h2⟩
theorem LK_free (w w' : World) (F G : Nat → Prop) : ∀ (ys : List Int) (cs : List Value), LK.reps w F ys cs → LK.reps w' G ys cs
  | [], _, h => h
  | _ :: l, _, ⟨x, y, e, h1, h2⟩ => ⟨x, y, e, h1, LK_free w w' F G l y h2⟩
structure CpS (W0 : World) (g5 : Nat) (T : TypeId) (x s2 : Value) (cols : List CO) (keys : List Int) (n1 m1 : Nat) (L : Array Bool) (m : Nat → Value) (w : World) : Prop where
  bel : Dn L 9 = false → Below W0.heap.size W0 w
  ch : Chg (fun b => b = g5) W0 w
  k0 : Dn L 0 = true → ∃ g, m 0 = .slice (some ⟨g, 0, none⟩) 0 0
  k4 : Dn L 4 = true → ∃ g, m 4 = .slice (some ⟨g, 0, none⟩) 0 0
  k3 : Dn L 3 = true → ∃ A c, m 3 = .slice A n1 c ∧ LCO.rd w (fun b => W0.heap.size ≤ b) A n1 cols ∧ n1 ≤ c ∧ c ≤ 9223372036854775807
  k7 : Dn L 7 = true → ∃ A c, m 7 = .slice A m1 c ∧ LK.rd w (fun b => W0.heap.size ≤ b) A m1 keys ∧ m1 ≤ c ∧ c ≤ 9223372036854775807
  b9 : Dn L 9 = true → Dn L 11 = false → Blk w g5 T #[x, m 3, s2]
  b11 : Dn L 11 = true → Dn L 9 = true ∧ Blk w g5 T #[x, m 3, m 7]
section
variable {W0 : World} {g5 : Nat} {T : TypeId} {x s2 : Value} {cols : List CO} {keys : List Int} {n1 m1 : Nat} {L : Array Bool} {m : Nat → Value} {w w' : World}
theorem CpS.mono (h : CpS W0 g5 T x s2 cols keys n1 m1 L m w) (h9 : Dn L 9 = false) (q : Below w.heap.size w w') : CpS W0 g5 T x s2 cols keys n1 m1 L m w' :=
  ⟨fun e => bl_ca (h.bel e) q, h.ch.below q h.ch.size, h.k0, h.k4, fun e => by obtain ⟨A, c, e1, h1, h2⟩ := h.k3 e; exact ⟨A, c, e1, Lay.rd_below h1 q, h2⟩, fun e => by obtain ⟨A, c, e1, h1, h2⟩ := h.k7 e; exact ⟨A, c, e1, Lay.rd_below h1 q, h2⟩, (fun e => by rw [h9] at e; cases e), fun e => by have := (h.b11 e).1; rw [h9] at this; cases this⟩
theorem CpS.start {n : Nat} (hn : 11 < n) (q : Below W0.heap.size W0 w) (m : Nat → Value) : CpS W0 g5 T x s2 cols keys n1 m1 (Array.replicate n false) m w := by
  have d : ∀ j, j < n → Dn (Array.replicate n false) j = false := fun j hj => by unfold Dn; simp [hj]
  have no : ∀ {j : Nat} {p : Prop}, j < n → Dn (Array.replicate n false) j = true → p := fun {j p} hj e => by rw [d j hj] at e; cases e
  exact ⟨fun _ => q, Chg.of_below q, no (by omega), no (by omega), no (by omega), no (by omega), fun e => no (by omega) e, no (by omega)⟩
theorem CpS.pass {i : Nat} (h : (i != 0 && (i != 3 && (i != 4 && (i != 7 && (i != 9 && i != 11))))) = true) : Pass (CpS W0 g5 T x s2 cols keys n1 m1) i := fun L m w hS => by
  simp only [Bool.and_eq_true, bne_iff_ne] at h
  obtain ⟨h0, h3, h4, h7, h9, h11⟩ := h
  have e0 := dn_ne (L := L) (Ne.symm h0); have e3 := dn_ne (L := L) (Ne.symm h3); have e4 := dn_ne (L := L) (Ne.symm h4); have e7 := dn_ne (L := L) (Ne.symm h7); have e9 := dn_ne (L := L) (Ne.symm h9); have e11 := dn_ne (L := L) (Ne.symm h11)
  exact ⟨by rw [e9]; exact hS.bel, hS.ch, by rw [e0]; exact hS.k0, by rw [e4]; exact hS.k4, by rw [e3]; exact hS.k3, by rw [e7]; exact hS.k7, by rw [e9, e11]; exact hS.b9, by rw [e9, e11]; exact hS.b11⟩
theorem CpS.set0 {v : Value} (h : CpS W0 g5 T x s2 cols keys n1 m1 L m w) (h9 : Dn L 9 = false) (q : Below w.heap.size w w') (hv : ∃ g, v = .slice (some ⟨g, 0, none⟩) 0 0) : CpS W0 g5 T x s2 cols keys n1 m1 (L.setIfInBounds 0 true) (upd m 0 v) w' := by
  have k := h.mono h9 q
  exact ⟨by rw [dn_ne (by decide)]; exact k.bel, k.ch, fun _ => hv, by rw [dn_ne (by decide)]; exact k.k4, by rw [dn_ne (by decide)]; exact k.k3, by rw [dn_ne (by decide)]; exact k.k7, by rw [dn_ne (by decide), dn_ne (by decide)]; exact k.b9, by rw [dn_ne (by decide), dn_ne (by decide)]; exact k.b11⟩
theorem CpS.set4 {v : Value} (h : CpS W0 g5 T x s2 cols keys n1 m1 L m w) (h9 : Dn L 9 = false) (q : Below w.heap.size w w') (hv : ∃ g, v = .slice (some ⟨g, 0, none⟩) 0 0) : CpS W0 g5 T x s2 cols keys n1 m1 (L.setIfInBounds 4 true) (upd m 4 v) w' := by
  have k := h.mono h9 q
  exact ⟨by rw [dn_ne (by decide)]; exact k.bel, k.ch, by rw [dn_ne (by decide)]; exact k.k0, fun _ => hv, by rw [dn_ne (by decide)]; exact k.k3, by rw [dn_ne (by decide)]; exact k.k7, by rw [dn_ne (by decide), dn_ne (by decide)]; exact k.b9, by rw [dn_ne (by decide), dn_ne (by decide)]; exact k.b11⟩
theorem CpS.set3 {v : Value} (h : CpS W0 g5 T x s2 cols keys n1 m1 L m w) (h9 : Dn L 9 = false) (q : Below w.heap.size w w') (hv : ∃ A c, v = .slice A n1 c ∧ LCO.rd w' (fun b => W0.heap.size ≤ b) A n1 cols ∧ n1 ≤ c ∧ c ≤ 9223372036854775807) : CpS W0 g5 T x s2 cols keys n1 m1 (L.setIfInBounds 3 true) (upd m 3 v) w' := by
  have k := h.mono h9 q
  exact ⟨by rw [dn_ne (by decide)]; exact k.bel, k.ch, by rw [dn_ne (by decide)]; exact k.k0, by rw [dn_ne (by decide)]; exact k.k4, fun _ => hv, by rw [dn_ne (by decide)]; exact k.k7, (fun e => by rw [dn_ne (by decide), h9] at e; cases e), fun e => by rw [dn_ne (by decide)] at e; have := (h.b11 e).1; rw [h9] at this; cases this⟩
theorem CpS.set7 {v : Value} (h : CpS W0 g5 T x s2 cols keys n1 m1 L m w) (h9 : Dn L 9 = false) (q : Below w.heap.size w w') (hv : ∃ A c, v = .slice A m1 c ∧ LK.rd w' (fun b => W0.heap.size ≤ b) A m1 keys ∧ m1 ≤ c ∧ c ≤ 9223372036854775807) : CpS W0 g5 T x s2 cols keys n1 m1 (L.setIfInBounds 7 true) (upd m 7 v) w' := by
  have k := h.mono h9 q
  exact ⟨by rw [dn_ne (by decide)]; exact k.bel, k.ch, by rw [dn_ne (by decide)]; exact k.k0, by rw [dn_ne (by decide)]; exact k.k4, by rw [dn_ne (by decide)]; exact k.k3, fun _ => hv, (fun e => by rw [dn_ne (by decide), h9] at e; cases e), fun e => by rw [dn_ne (by decide)] at e; have := (h.b11 e).1; rw [h9] at this; cases this⟩
theorem CpS.store (h : CpS W0 g5 T x s2 cols keys n1 m1 L m w) (q : w.grownBy w' (some g5)) (hg : g5 < W0.heap.size) : (∀ A, (LCO.rd w (fun b => W0.heap.size ≤ b) A n1 cols → LCO.rd w' (fun b => W0.heap.size ≤ b) A n1 cols)) ∧ (∀ A, (LK.rd w (fun b => W0.heap.size ≤ b) A m1 keys → LK.rd w' (fun b => W0.heap.size ≤ b) A m1 keys)) ∧ Chg (fun b => b = g5) W0 w' :=
  ⟨fun A h1 => rd_grownH h1 q (fun b hb => by omega), fun A h1 => rd_grownH h1 q (fun b hb => by omega), h.ch.grown q (fun k e => .inl (by injection e with e; exact e.symm))⟩
theorem CpS.set9 (h : CpS W0 g5 T x s2 cols keys n1 m1 L m w) (q : w.grownBy w' (some g5)) (hg : g5 < W0.heap.size) (h11 : Dn L 11 = false) (hb : Blk w' g5 T #[x, m 3, s2]) : CpS W0 g5 T x s2 cols keys n1 m1 (L.setIfInBounds 9 true) m w' := by
  obtain ⟨s1, s3, s4⟩ := CpS.store h q hg
  exact ⟨(fun e => by rw [dn_eq] at e; cases e), s4, by rw [dn_ne (by decide)]; exact h.k0, by rw [dn_ne (by decide)]; exact h.k4, by rw [dn_ne (by decide)]; exact fun e => by obtain ⟨A, c, e1, h1, h2⟩ := h.k3 e; exact ⟨A, c, e1, s1 A h1, h2⟩, by rw [dn_ne (by decide)]; exact fun e => by obtain ⟨A, c, e1, h1, h2⟩ := h.k7 e; exact ⟨A, c, e1, s3 A h1, h2⟩, fun _ _ => hb, (fun e => by rw [dn_ne (by decide), h11] at e; cases e)⟩
theorem CpS.set11 (h : CpS W0 g5 T x s2 cols keys n1 m1 L m w) (q : w.grownBy w' (some g5)) (hg : g5 < W0.heap.size) (h9 : Dn L 9 = true) (hb : Blk w' g5 T #[x, m 3, m 7]) : CpS W0 g5 T x s2 cols keys n1 m1 (L.setIfInBounds 11 true) m w' := by
  obtain ⟨s1, s3, s4⟩ := CpS.store h q hg
  exact ⟨(fun e => by rw [dn_ne (by decide), h9] at e; cases e), s4, by rw [dn_ne (by decide)]; exact h.k0, by rw [dn_ne (by decide)]; exact h.k4, by rw [dn_ne (by decide)]; exact fun e => by obtain ⟨A, c, e1, h1, h2⟩ := h.k3 e; exact ⟨A, c, e1, s1 A h1, h2⟩, by rw [dn_ne (by decide)]; exact fun e => by obtain ⟨A, c, e1, h1, h2⟩ := h.k7 e; exact ⟨A, c, e1, s3 A h1, h2⟩, (fun _ e => by rw [dn_eq] at e; cases e), fun _ => ⟨by rw [dn_ne (by decide)]; exact h9, hb⟩⟩
end
end Go.Proofs.YthgcdilkkldgjaaGreatDoor
/- A region whose order Go leaves open, with several operations of unknown yield side by side; what follows is said once. Conditions: none. -/
namespace Go.Proofs.YthgcdilkkldgjaaGreatDoor
open Go.RowKit
section
variable {P : Program} {ops : Array Oper} {Q Q' : Exit → Act → World → Prop} {md : Region.Mode} {S : Array Bool → (Nat → Value) → World → Prop}
theorem Ps.weak (h : ∀ a w, Q' .normal a w → Q .normal a w) : ∀ (f : Nat) (m : Nat → Value) (L : Array Bool) (a : Act), Ps P md ops Q' S f m L a → Ps P md ops Q S f m L a
  | 0, _, _, _, k => ⟨k.1, fun w hS => h _ _ (k.2 w hS)⟩
  | f + 1, m, L, a, k => ⟨fun e w hS => h _ _ (k.1 e w hS), fun i hi => by
    obtain ⟨o, ho, ⟨u, hs, hg⟩ | ⟨V, hs, hg⟩⟩ := k.2 i hi
    · exact ⟨o, ho, .inl ⟨u, hs, Ps.weak h f _ _ _ hg⟩⟩
    · exact ⟨o, ho, .inr ⟨V, hs, fun v hV => Ps.weak h f _ _ _ (hg v hV)⟩⟩⟩
/-- one of several that come next -/
def Turns (P : Program) (md : Region.Mode) (ops : Array Oper) (Q : Exit → Act → World → Prop) (S : Array Bool → (Nat → Value) → World → Prop) (f : Nat) (m : Nat → Value) (L : Array Bool) (a : Act) (i : Nat) : Prop :=
  ∃ o, ops[i]? = some o ∧ ∃ V, TurnS P md ops S m i o V a ∧ ∀ v, V v → Ps P md ops Q S f (upd m i v) (L.setIfInBounds i true) (a.put o.dst v)
theorem Turns.mk {f : Nat} {m : Nat → Value} {L : Array Bool} {a : Act} {i : Nat} {o : Oper} {d : Option Tmp} (ho : ops[i]? = some o) (hd : o.dst = d) {V : Value → Prop} (ht : TurnS P md ops S m i o V a)
    (h : ∀ v, V v → Ps P md ops Q S f (upd m i v) (L.setIfInBounds i true) (a.put d v)) : Turns P md ops Q S f m L a i := by subst hd; exact ⟨o, ho, V, ht, h⟩
theorem Ps.some1 {f : Nat} {m : Nat → Value} {L : Array Bool} {a : Act} {i : Nat} (hr : Region.ready md ops L = [i]) (h1 : Turns P md ops Q S f m L a i) : Ps P md ops Q S (f + 1) m L a := by
  refine ⟨fun e => (by rw [hr] at e; cases e), fun x hx => ?_⟩
  rw [hr] at hx
  rcases List.mem_cons.1 hx with rfl | hx
  · obtain ⟨o, ho, V, ht, h⟩ := h1; exact ⟨o, ho, .inr ⟨V, ht, h⟩⟩
  · cases hx
theorem Ps.some2 {f : Nat} {m : Nat → Value} {L : Array Bool} {a : Act} {i j : Nat} (hr : Region.ready md ops L = [i, j]) (h1 : Turns P md ops Q S f m L a i) (h2 : Turns P md ops Q S f m L a j) : Ps P md ops Q S (f + 1) m L a := by
  refine ⟨fun e => (by rw [hr] at e; cases e), fun x hx => ?_⟩
  rw [hr] at hx
  rcases List.mem_cons.1 hx with rfl | hx
  · obtain ⟨o, ho, V, ht, h⟩ := h1; exact ⟨o, ho, .inr ⟨V, ht, h⟩⟩
  rcases List.mem_cons.1 hx with rfl | hx
  · obtain ⟨o, ho, V, ht, h⟩ := h2; exact ⟨o, ho, .inr ⟨V, ht, h⟩⟩
  · cases hx
theorem Ps.some3 {f : Nat} {m : Nat → Value} {L : Array Bool} {a : Act} {i j k : Nat} (hr : Region.ready md ops L = [i, j, k]) (h1 : Turns P md ops Q S f m L a i) (h2 : Turns P md ops Q S f m L a j) (h3 : Turns P md ops Q S f m L a k) : Ps P md ops Q S (f + 1) m L a := by
  refine ⟨fun e => (by rw [hr] at e; cases e), fun x hx => ?_⟩
  rw [hr] at hx
  rcases List.mem_cons.1 hx with rfl | hx
  · obtain ⟨o, ho, V, ht, h⟩ := h1; exact ⟨o, ho, .inr ⟨V, ht, h⟩⟩
  rcases List.mem_cons.1 hx with rfl | hx
  · obtain ⟨o, ho, V, ht, h⟩ := h2; exact ⟨o, ho, .inr ⟨V, ht, h⟩⟩
  rcases List.mem_cons.1 hx with rfl | hx
  · obtain ⟨o, ho, V, ht, h⟩ := h3; exact ⟨o, ho, .inr ⟨V, ht, h⟩⟩
  · cases hx
/-- what follows is said once: F tells how the region ends, of the act at its start -/
theorem wp_region_psF {id : Nat} {a : Act} {w : World} (F : Act → Act → World → Prop) (S : Array Bool → (Nat → Value) → World → Prop) (hm : P.follows .mixedOrders = true) (hS : S (Array.replicate ops.size false) (fun _ => undef) w.drew)
    (h : Ps P .any ops (fun _ a' w' => F a a' w') S ops.size (fun _ => undef) (Array.replicate ops.size false) a) (hk : ∀ a' w', F a a' w' → Q .normal a' w') : (Code.region id ops true).wp P Q a w :=
  wp_region_ps S hm hS (Ps.weak hk _ _ _ _ h)
end
end Go.Proofs.YthgcdilkkldgjaaGreatDoor
