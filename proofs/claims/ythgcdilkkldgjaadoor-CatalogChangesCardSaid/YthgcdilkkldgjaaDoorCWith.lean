/- The reference's Without, With. Conditions: the slices read so. -/
import Derived.Test.YthgcdilkkldgjaaDoorCSame
namespace Go.Proofs.YthgcdilkkldgjaaDoor
open Go.RowKit
theorem Tryd.tableInfo : (Tryd.prog.info? 28).map (fun i => (i.zero, i.size, i.bytes)) = some (some (.agg #[.string ⟨#[]⟩, .slice none 0 0, .slice none 0 0]), 3, 64) := by kernel_rfl
theorem catI : (Tryd.prog.info? 24).map (·.size) = some 1 := by kernel_rfl
/-- without the one at a place -/
def woF (at_ : Int) : Nat → List TC → List TC
  | _, [] => []
  | i, t :: l => if (i : Int) = at_ then woF at_ (i + 1) l else t :: woF at_ (i + 1) l
theorem woF_snoc (at_ : Int) (x : TC) : ∀ (l : List TC) (i : Nat), woF at_ i (l ++ [x]) = woF at_ i l ++ (if ((i + l.length : Nat) : Int) = at_ then [] else [x])
  | [], i => by
    simp only [List.nil_append, woF, List.length_nil, Nat.add_zero]
  | t :: l, i => by
    simp only [List.cons_append, woF, woF_snoc at_ x l (i + 1), List.length_cons]
    rw [show i + 1 + l.length = i + (l.length + 1) from by omega]
    by_cases h : (i : Int) = at_
    · rw [if_pos h, if_pos h]
    · rw [if_neg h, if_neg h]; rfl
theorem take_next {α : Type} {l : List α} {i : Nat} {x : α} (h : l[i]? = some x) : l.take (i + 1) = l.take i ++ [x] := by rw [List.take_add_one, h]; rfl
set_option maxRecDepth 100000 in
set_option maxHeartbeats 4000000 in
theorem without_any (F : Nat → Prop) (l : List TC) (A : Option Addr) (m c : Nat) (at_ : Int) (w : World) (h : LT3.rd w F A m l) (hm : m ≤ 1000000) :
    Calls Tryd.prog 19 #[.agg #[.slice A m c], .int .i64 at_] w fun e w' => ∃ A2 n2 c2, e = .returned (.agg #[.slice A2 n2 c2]) ∧ LT3.own 28 w' (w.heap.size + 3) (fun b => F b ∧ b < w.heap.size) A2 n2 c2 (woF at_ 0 l) ∧ Below w.heap.size w w' ∧ w.heap.size + 3 ≤ w'.heap.size := by
  have HL := Lib.hid (Lay.rd_len h)
  have HRD := Lib.hid (Lay.rd_weak (G := fun b => F b ∧ b < w.heap.size) (fun b hb hl => ⟨hb, hl⟩) h)
  clear h
  have q3 := bl_al (bl_al (bl_al (Below.refl w.heap.size w) (.cells #[.slice A m c] 24)) (.cells #[.slice none 0 0] 24)) (.cells #[.slice none 0 0] 24)
  have HB := Lib.hid (((Blk.new w 24 #[.slice A m c]).alloc (.cells #[.slice none 0 0] 24)).alloc (.cells #[.slice none 0 0] 24))
  have HRes := Lib.hid ((Blk.new (w.alloc (.cells #[.slice A m c] 24)) 24 #[.slice none 0 0]).alloc (.cells #[.slice none 0 0] 24))
  have HO := Lib.hid (Blk.new ((w.alloc (.cells #[.slice A m c] 24)).alloc (.cells #[.slice none 0 0] 24)) 24 #[.slice none 0 0])
  rw [World.size_alloc] at HRes
  rw [World.size_alloc, World.size_alloc] at HO
  have HQ3 := Lib.hid q3
  clear q3
  go_enter Tryd.func19, Tryd.ntmps19
  go_wp2_with fail
  have hs3 : (((w.alloc (.cells #[.slice A m c] 24)).alloc (.cells #[.slice none 0 0] 24)).alloc (.cells #[.slice none 0 0] 24)).heap.size = w.heap.size + 3 := by simp only [World.size_alloc]
  generalize ((w.alloc (.cells #[.slice A m c] 24)).alloc (.cells #[.slice none 0 0] 24)).alloc (.cells #[.slice none 0 0] 24) = w1 at *
  go_loopg [6] m (fun g a wr => ∃ (i : Nat) (A2 : Option Addr) (n2 c2 : Nat), i + g = m ∧ a = .int .i64 i ∧ n2 ≤ i ∧ Blk wr (w.heap.size + 1 + 1) 24 #[.slice A2 n2 c2] ∧ LT3.own 28 wr (w.heap.size + 3) (fun b => F b ∧ b < w.heap.size) A2 n2 c2 (woF at_ 0 (l.take i)) ∧ Blk wr w.heap.size 24 #[.slice A m c] ∧ Blk wr (w.heap.size + 1) 24 #[.slice none 0 0] ∧ Below w.heap.size w wr ∧ w.heap.size + 3 ≤ wr.heap.size)
  case atStart => exact ⟨0, none, 0, 0, by omega, rfl, by omega, HO.out, Lay.own_nil _ _, HB.out, HRes.out, HQ3.out, by omega⟩
  case round =>
    obtain ⟨i, A2, n2, c2, hig, rfl, hni, hbo, hown, hbb, hbr, hbel, hsz⟩ := hrel
    have HBO := Lib.hid hbo
    have HOW := Lib.hid hown
    have HBB := Lib.hid hbb
    have HBR := Lib.hid hbr
    have HBL := Lib.hid hbel
    have h1 := Lay.rd_below HRD.out hbel
    clear hbo hown hbb hbr hbel HB HO HRes HQ3
    have y0 := HBB.out.cell 0
    by_cases hlt : i < m
    · have hi1 : (i : Int) < (m : Int) := by omega
      by_cases hat : (i : Int) = at_
      · have e1 : ((i : Int) == at_) = true := by simpa using hat
        obtain ⟨p, t, cs, hAe, hx, _⟩ := Lay.rd_at h1 hlt
        have HQ := Lib.hid (show woF at_ 0 (l.take (i + 1)) = woF at_ 0 (l.take i) from by rw [take_next hx, woF_snoc, if_pos (by rw [List.length_take, HL.out]; omega), List.append_nil])
        clear hat hx hAe
        go_wp2
        go_roundg (gk - 1)
        · exact ⟨i + 1, A2, n2, c2, by omega, by go_num, by omega, HBO.out, by rw [HQ.out]; exact HOW.out, HBB.out, HBR.out, HBL.out, hsz⟩
        · omega
      · have e1 : ((i : Int) == at_) = false := by simpa using hat
        obtain ⟨p, t, A1, n1, c1, B1, m1, d1, hAe, hx, s1⟩ := LT3_at h1 hlt
        obtain rfl : A = some p := hAe
        have HQ := Lib.hid (show woF at_ 0 (l.take (i + 1)) = woF at_ 0 (l.take i) ++ [t] from by rw [take_next hx, woF_snoc, if_neg (by rw [List.length_take, HL.out]; omega)])
        have f0 := s1.c0
        have f1 := s1.c1
        have f2 := s1.c2
        have HS := Lib.hid s1
        clear hat hx s1
        go_wp2_with fail
        clear y0
        refine wp_region_ps (S := SeqN [7, 8, 10] (fun z mm w' => match z with | 0 => Below wr.heap.size wr w' | 1 => Below wr.heap.size wr w' ∧ ∃ gb, mm 7 = .slice (some ⟨gb, 0, none⟩) 1 1 ∧ Blk w' gb 28 #[.string t.name, .slice A1 n1 c1, .slice B1 m1 d1] | 2 => Chg (fun k => k = w.heap.size + 1 + 1 ∨ (Value.slice A2 n2 c2).ownBlock = some k) wr w' ∧ Blk w' (w.heap.size + 1 + 1) 24 #[.slice A2 n2 c2] ∧ ∃ A6 c6, mm 8 = .slice A6 (n2 + 1) c6 ∧ LT3.own 28 w' (w.heap.size + 3) (fun b => F b ∧ b < w.heap.size) A6 (n2 + 1) c6 (woF at_ 0 (l.take i) ++ [t]) | _ => Chg (fun k => k = w.heap.size + 1 + 1 ∨ (Value.slice A2 n2 c2).ownBlock = some k) wr w' ∧ ∃ A6 c6, mm 8 = .slice A6 (n2 + 1) c6 ∧ LT3.own 28 w' (w.heap.size + 3) (fun b => F b ∧ b < w.heap.size) A6 (n2 + 1) c6 (woF at_ 0 (l.take i) ++ [t]) ∧ Blk w' (w.heap.size + 1 + 1) 24 #[.slice A6 (n2 + 1) c6])) (by kernel_rfl) ?spswg1 ?ppswg1
        case spswg1 =>
          exact SeqN.start (by decide) (Below.refl _ _).drew
        refine Ps.st (i := 0) (d := some 17) (u := (.pointer (some ⟨w.heap.size + 1 + 1, 0, none⟩))) rfl rfl (by exact StepS.pure (SeqN.pass (by decide)) rfl fun _ => rfl) ?_
        try simp only [Act.put, sA, sZ, sS]
        refine Ps.st (i := 1) (d := some 18) (u := (.slice A2 n2 c2)) rfl rfl ?ywg1_3 ?rwg1_3
        case ywg1_3 =>
          refine StepS.read [] (by kernel_rfl) (SeqN.pass (by decide)) (by rfl) (fun L9 m9 w9 hSh hAt hDn hS => ?_)
          have hT : Below wr.heap.size wr w9 := SeqN.z01 hSh (reach_no hSh (f := 12) (j := 8) (by kernel_rfl) hDn) (by kernel_rfl) (fun _ _ h => h) (fun _ _ h => h.1) hS
          have x0 : w9.cell? ⟨w.heap.size + 1 + 1, 0, none⟩ = some (.slice A2 n2 c2) := (HBO.out.ca hT).cell 0
          clear hT hS
          go_simp
          try rfl
        try simp only [Act.put, sA, sZ, sS]
        refine Ps.st (i := 2) (d := some 19) (u := (.pointer (some ⟨w.heap.size, 0, none⟩))) rfl rfl (by exact StepS.pure (SeqN.pass (by decide)) rfl fun _ => rfl) ?_
        try simp only [Act.put, sA, sZ, sS]
        refine Ps.st (i := 3) (d := some 20) (u := (.slice (some p) m c)) rfl rfl ?ywg1_5 ?rwg1_5
        case ywg1_5 =>
          refine StepS.read [] (by kernel_rfl) (SeqN.pass (by decide)) (by rfl) (fun L9 m9 w9 hSh hAt hDn hS => ?_)
          have hT : Below wr.heap.size wr w9 := SeqN.z01 hSh (reach_no hSh (f := 12) (j := 8) (by kernel_rfl) hDn) (by kernel_rfl) (fun _ _ h => h) (fun _ _ h => h.1) hS
          have x0 : w9.cell? ⟨w.heap.size, 0, none⟩ = some (.slice (some p) m c) := (HBB.out.ca hT).cell 0
          clear hT hS
          go_simp
          try rfl
        try simp only [Act.put, sA, sZ, sS]
        refine Ps.st (i := 4) (d := some 21) (u := (.int .i64 ((i : Int)))) rfl rfl (by exact StepS.pure (SeqN.pass (by decide)) rfl fun _ => rfl) ?_
        try simp only [Act.put, sA, sZ, sS]
        refine Ps.st (i := 5) (d := some 22) (u := (.pointer (some (p.add (i * 3))))) rfl rfl (by exact StepS.pure (SeqN.pass (by decide)) rfl fun _ => by first | rfl | (go_simp; done) | (go_simp; rfl)) ?_
        try simp only [Act.put, sA, sZ, sS]
        refine Ps.st (i := 6) (d := some 23) (u := (.agg #[.string t.name, .slice A1 n1 c1, .slice B1 m1 d1])) rfl rfl ?ywg1_8 ?rwg1_8
        case ywg1_8 =>
          refine StepS.read [] (by kernel_rfl) (SeqN.pass (by decide)) (by rfl) (fun L9 m9 w9 hSh hAt hDn hS => ?_)
          have hT : Below wr.heap.size wr w9 := SeqN.z01 hSh (reach_no hSh (f := 12) (j := 8) (by kernel_rfl) hDn) (by kernel_rfl) (fun _ _ h => h) (fun _ _ h => h.1) hS
          have x0 : w9.cell? (p.add (i * 3)) = some (.string t.name) := ce f0 hT
          have x1 : w9.cell? ⟨(p.add (i * 3)).block, (p.add (i * 3)).off + 1, none⟩ = some (.slice A1 n1 c1) := ce f1 hT
          have x2 : w9.cell? ⟨(p.add (i * 3)).block, (p.add (i * 3)).off + 2, none⟩ = some (.slice B1 m1 d1) := ce f2 hT
          clear hT hS
          go_simp
          try rfl
        try simp only [Act.put, sA, sZ, sS]
        refine Ps.one (k := 7) (d := some 24) rfl rfl (by kernel_rfl) (TurnS.value (V := fun v => ∃ gb, v = .slice (some ⟨gb, 0, none⟩) 1 1) [] (by kernel_rfl) (by rfl) (fun L9 m9 w9 hSh hAt hDn hS => ?cwg1_9)) (fun v7 hVv7 => ?rwg1_9)
        case cwg1_9 =>
          have hT := SeqN.at_ (m0 := m9) (m1 := m9) [] [8, 10] hSh (fun d hd => by cases hd) hDn (by kernel_rfl) hS
          refine ⟨.slice (some ⟨w9.heap.size, 0, none⟩) 1 1, w9.alloc (.cells #[.string t.name, .slice A1 n1 c1, .slice B1 m1 d1] 28), ?_, ⟨_, rfl⟩, SeqN.set_ (m0 := m9) (m1 := m9) [] [8, 10] hSh (fun d hd => by cases hd) hDn (by kernel_rfl) (by decide) (by decide) ⟨bl_al hT _, _, upd_same _ _ _, Blk.new _ _ _⟩⟩
          clear hT hS
          go_simp
        try simp only [Act.put, sA, sZ, sS]
        obtain ⟨gb, rfl⟩ := hVv7
        refine Ps.one (k := 8) (d := some 25) rfl rfl (by kernel_rfl) (TurnS.value (V := fun v => ∃ A6 c6, v = .slice A6 (n2 + 1) c6) [7] (by kernel_rfl) (by rfl) (fun L9 m9 w9 hSh hAt hDn hS => ?cwg1_10)) (fun v8 hVv8 => ?rwg1_10)
        case cwg1_10 =>
          obtain ⟨hT, gb2, hv, hg2⟩ := SeqN.at_ [7] [10] hSh hAt hDn (by kernel_rfl) hS
          obtain rfl : gb = gb2 := by have h9 : Value.slice (some ⟨gb, 0, none⟩) 1 1 = .slice (some ⟨gb2, 0, none⟩) 1 1 := (hAt 7 (by simp)).2.symm.trans hv; simpa using h9
          have hsz9 := hT.size
          obtain ⟨A6, c6, w8, hrun, ho6, hgr, hat6⟩ := run_appL (L := LT3) (e := 28) (P := Tryd.prog) (w := w9) 22 22 _ 3 64 Tryd.underlying22 Tryd.tableInfo rfl rfl (by decide) (w.heap.size + 3) (fun b => F b ∧ b < w.heap.size) A2 n2 c2 _ gb 1 28 #[.string t.name, .slice A1 n1 c1, .slice B1 m1 d1] t (Lay.own_below HOW.out hT) hg2 ⟨A1, n1, c1, B1, m1, d1, rfl, HS.out.nc, HS.out.cm, Lay.rd_weak (fun b hb _ => ⟨hb, fun e => absurd (Lay.own_base HOW.out b e).1 (by have := hb.2; omega)⟩) (Lay.rd_below HS.out.rd hT), HS.out.md, HS.out.dm, Lay.rd_weak (fun b hb _ => ⟨hb, fun e => absurd (Lay.own_base HOW.out b e).1 (by have := hb.2; omega)⟩) (Lay.rd_below HS.out.rk hT)⟩ (fun b hb => by have := hb.2; omega) (by omega) (by unfold maxLen; omega) (by omega)
          have hch : Chg (fun k => k = w.heap.size + 1 + 1 ∨ (Value.slice A2 n2 c2).ownBlock = some k) wr w8 := (Chg.of_below hT).grown hgr (fun k e => .inl (.inr e))
          exact ⟨_, w8, exec_append (.tmp 18) (.tmp 24) 22 rfl rfl rfl hrun, ⟨A6, c6, rfl⟩, SeqN.set_ [7] [10] hSh hAt hDn (by kernel_rfl) (by decide) (by decide) ⟨hch, (HBO.out.ca hT).grown hgr (fun e => absurd (Lay.own_base HOW.out _ e.symm).1 (by omega)), A6, c6, upd_same _ _ _, ho6⟩⟩
        try simp only [Act.put, sA, sZ, sS]
        obtain ⟨A6, c6, rfl⟩ := hVv8
        refine Ps.st (i := 9) (d := some 26) (u := (.pointer (some ⟨w.heap.size + 1 + 1, 0, none⟩))) rfl rfl (by exact StepS.pure (SeqN.pass (by decide)) rfl fun _ => rfl) ?_
        try simp only [Act.put, sA, sZ, sS]
        refine Ps.st (i := 10) (d := none) (u := undef) rfl rfl ?ywg1_12 ?rwg1_12
        case ywg1_12 =>
          refine StepS.store [7, 8] (by kernel_rfl) (by rfl) (fun L9 m9 w9 hSh hAt hDn hS => ?_)
          obtain ⟨hch, hN, A7, c7, hv, ho⟩ := SeqN.at_ [7, 8] [] hSh hAt hDn (by kernel_rfl) hS
          obtain ⟨rfl, rfl⟩ : A6 = A7 ∧ c6 = c7 := by have h9 : Value.slice A6 (n2 + 1) c6 = .slice A7 (n2 + 1) c7 := (hAt 8 (by simp)).2.symm.trans hv; simpa using h9
          have hN2 : Blk (w9.setCell ⟨w.heap.size + 1 + 1, 0, none⟩ (.slice A6 (n2 + 1) c6)) (w.heap.size + 1 + 1) 24 #[.slice A6 (n2 + 1) c6] := by simpa using hN.set_ 0 (.slice A6 (n2 + 1) c6)
          have hg2 : w9.grownBy (w9.setCell ⟨w.heap.size + 1 + 1, 0, none⟩ (.slice A6 (n2 + 1) c6)) (some (w.heap.size + 1 + 1)) := only_setCell (World.grownBy.refl _ _) (.inl rfl) _
          have x2 : w9.cell? ⟨w.heap.size + 1 + 1, 0, none⟩ = some (.slice A2 n2 c2) := hN.cell 0
          have fx : w9.frozen? ⟨w.heap.size + 1 + 1, 0, none⟩ = false := hN.frozen 0
          refine ⟨w9.setCell ⟨w.heap.size + 1 + 1, 0, none⟩ (.slice A6 (n2 + 1) c6), ?_, SeqN.set_ [7, 8] [] hSh hAt hDn (by kernel_rfl) (by decide) (by decide) ⟨hch.grown hg2 (fun k e => .inl (.inl (by injection e with e; exact e.symm))), A6, c6, hv, own_grownH ho hg2 (by omega) (fun b hb => by have := hb.2; omega), hN2⟩⟩
          clear hv ho hN hN2 hg2 hch hS
          go_simp
        try simp only [Act.put]
        refine Ps.done (by kernel_rfl) (fun wg1 hS => ?_) _
        obtain ⟨hch, A7, c7, hv, ho, hN⟩ := SeqN.fin (by rfl) hS
        clear hS
        obtain ⟨rfl, rfl⟩ : A6 = A7 ∧ c6 = c7 := by have h9 : Value.slice A6 (n2 + 1) c6 = .slice A7 (n2 + 1) c7 := hv; simpa using h9
        clear hv
        obtain ⟨wz, rfl⟩ : ∃ x, x = wg1 := ⟨_, rfl⟩
        have HCH := Lib.hid hch
        have HOZ := Lib.hid ho
        have HBZ := Lib.hid hN
        clear hch ho hN f0 f1 f2
        have HZ := Lib.hid (show wz.heap.size ≥ w.heap.size + 3 from Nat.le_trans hsz HCH.out.size)
        go_wp2_with fail
        go_roundg (gk - 1)
        · exact ⟨i + 1, A6, n2 + 1, c6, by omega, by go_num, by omega, HBZ.out, by rw [HQ.out]; exact HOZ.out, HBB.out.chg HCH.out (by have := HBB.out.lt; intro h9; rcases h9 with h9 | h9; omega; exact absurd (Lay.own_base HOW.out _ h9).1 (by omega)), HBR.out.chg HCH.out (by intro h9; rcases h9 with h9 | h9; omega; exact absurd (Lay.own_base HOW.out _ h9).1 (by omega)), Chg.bel HBL.out HCH.out (fun b _ h9 => by rcases h9 with h9 | h9; omega; have := (Lay.own_base HOW.out _ h9).1; omega) HBL.out.size, HZ.out⟩
        · omega
    · obtain rfl : i = m := by omega
      have hi1 : (i : Int) ≤ (i : Int) := by omega
      have HTK := Lib.hid (show l.take i = l from List.take_of_length_le (by rw [HL.out]; exact Nat.le_refl _))
      have z0 := HBO.out.cell 0
      go_wp2_with (first | (refine wpList_store_blk rfl 24 (.tmp 4) (.tmp 27) rfl (w.heap.size + 1) 24 #[.slice none 0 0] #[.slice A2 n2 c2] rfl rfl HBR.out rfl catI (by simp [Value.oneCell']) ?_; intro w8 h8 g8))
      exact bodyPost_ret (res1 Tryd.results19 rfl h8 Tryd.underlying24 rfl catI) rfl ⟨A2, n2, c2, rfl, by rw [HTK.out] at HOW; exact own_grownH HOW.out g8 (by omega) (fun b hb => by omega), bl_gr HBL.out g8 (by omega), Nat.le_trans hsz g8.size⟩
end Go.Proofs.YthgcdilkkldgjaaDoor
