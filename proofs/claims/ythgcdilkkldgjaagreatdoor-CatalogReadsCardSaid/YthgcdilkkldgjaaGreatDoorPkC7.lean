/- The law's copied. Conditions: the slice reads so; the rows are not endless. -/
import Derived.Test.YthgcdilkkldgjaaGreatDoorPkC6
import Derived.Deep.LoopGhost
namespace Go.Proofs.YthgcdilkkldgjaaGreatDoor
open Go.RowKit
theorem Tryz.colInfo : (Tryz.prog.info? 71).map (fun i => (i.zero, i.size, i.bytes)) = some (some (.agg #[.string ⟨#[]⟩, .int .i64 0]), 2, 24) := by kernel_rfl
theorem Tryz.intInfo : (Tryz.prog.info? 3).map (fun i => (i.zero, i.size, i.bytes)) = some (some (.int .i64 0), 1, 8) := by kernel_rfl
set_option maxRecDepth 100000 in
set_option maxHeartbeats 8000000 in
theorem copied_any (F : Nat → Prop) (l : List TC) (A : Option Addr) (m c : Nat) (w : World) (h : LT3.rd w F A m l) (hm : m ≤ 100000) (hlen : ∀ (k : Nat) (t : TC), l[k]? = some t → t.cols.length ≤ 100000 ∧ t.keys.length ≤ 100000) :
    Calls Tryz.prog 7 #[.agg #[.slice A m c]] w fun e w' => ∃ A2 n2 c2, e = .returned (.agg #[.slice A2 n2 c2]) ∧ LT3.rd w' (fun b => w.heap.size ≤ b) A2 n2 l ∧ n2 ≤ c2 ∧ c2 ≤ 9223372036854775807 ∧ Below w.heap.size w w' := by
  have HL := Lib.hid (Lay.rd_len h)
  have HLEN := Lib.hid hlen
  have HRD := Lib.hid (Lay.rd_weak (G := fun b => F b ∧ b < w.heap.size) (fun b hb hl => ⟨hb, hl⟩) h)
  clear h hlen
  have q3 := bl_al (bl_al (bl_al (Below.refl w.heap.size w) (.cells #[.slice A m c] 24)) (.cells #[.slice none 0 0] 24)) (.cells #[.slice none 0 0] 24)
  have HB := Lib.hid (((Blk.new w 24 #[.slice A m c]).alloc (.cells #[.slice none 0 0] 24)).alloc (.cells #[.slice none 0 0] 24))
  have HRes := Lib.hid ((Blk.new (w.alloc (.cells #[.slice A m c] 24)) 24 #[.slice none 0 0]).alloc (.cells #[.slice none 0 0] 24))
  have HO := Lib.hid (Blk.new ((w.alloc (.cells #[.slice A m c] 24)).alloc (.cells #[.slice none 0 0] 24)) 24 #[.slice none 0 0])
  rw [World.size_alloc] at HRes
  rw [World.size_alloc, World.size_alloc] at HO
  have HQ3 := Lib.hid q3
  have y0 := HB.out.cell 0
  clear q3
  go_enter Tryz.func7, Tryz.ntmps7
  go_wp2_with fail
  have hs3 : (((w.alloc (.cells #[.slice A m c] 24)).alloc (.cells #[.slice none 0 0] 24)).alloc (.cells #[.slice none 0 0] 24)).heap.size = w.heap.size + 3 := by simp only [World.size_alloc]
  generalize ((w.alloc (.cells #[.slice A m c] 24)).alloc (.cells #[.slice none 0 0] 24)).alloc (.cells #[.slice none 0 0] 24) = w1 at *
  clear y0
  go_loopg [9] m (fun g a wr => ∃ (i : Nat) (A2 : Option Addr) (c2 : Nat), i + g = m ∧ a = .int .i64 i ∧ Blk wr (w.heap.size + 1 + 1) 24 #[.slice A2 i c2] ∧ LT3.own 41 wr (w.heap.size + 3) (fun b => w.heap.size + 3 ≤ b ∧ b < wr.heap.size) A2 i c2 (l.take i) ∧ Blk wr (w.heap.size + 1) 24 #[.slice none 0 0] ∧ Below w.heap.size w wr ∧ w.heap.size + 3 ≤ wr.heap.size)
  case atStart => exact ⟨0, none, 0, by omega, rfl, HO.out, Lay.own_nil _ _, HRes.out, HQ3.out, by omega⟩
  case round =>
    obtain ⟨i, A2, c2, hig, rfl, hbo, hown, hbr, hbel, hsz⟩ := hrel
    have HBO := Lib.hid hbo
    have HOW := Lib.hid hown
    have HBR := Lib.hid hbr
    have HBL := Lib.hid hbel
    have h1 := Lay.rd_below HRD.out hbel
    clear hbo hown hbr hbel HB HO HRes HQ3
    by_cases hlt : i < m
    · have hi1 : (i : Int) < (m : Int) := by omega
      obtain ⟨p, t, A1, n1, c1, B1, m1, d1, hAe, hx, s1⟩ := LT3_at h1 hlt
      obtain rfl : A = some p := hAe
      have HT := Lib.hid (take_next hx)
      have HLN := Lib.hid (HLEN.out i t hx)
      have HLC := Lib.hid (And.intro (Lay.rd_len s1.rd) (Lay.rd_len s1.rk))
      have e0 := s1.c0
      have e1 := s1.c1
      have e2 := s1.c2
      have q5 := bl_al (Below.refl wr.heap.size wr) (.cells (t.cells A1 n1 c1 B1 m1 d1) 41)
      have HX5 := Lib.hid (Blk.new wr 41 (t.cells A1 n1 c1 B1 m1 d1))
      have HC5 := Lib.hid (Lay.rd_below (Lay.rd_weak (G := fun b => b < wr.heap.size) (fun b hb hl => hl) s1.rd) q5)
      have HK5 := Lib.hid (Lay.rd_below (Lay.rd_weak (G := fun b => b < wr.heap.size) (fun b hb hl => hl) s1.rk) q5)
      have HBO5 := Lib.hid (HBO.out.ca q5)
      have HOW5 := Lib.hid (Lay.own_below HOW.out q5)
      have HBR5 := Lib.hid (HBR.out.ca q5)
      have HBL5 := Lib.hid (bl_ca HBL.out q5)
      have HOB := Lib.hid (fun k e => Lay.own_base HOW.out k e)
      have hs5 : (wr.alloc (.cells (t.cells A1 n1 c1 B1 m1 d1) 41)).heap.size = wr.heap.size + 1 := by simp only [World.size_alloc]
      obtain ⟨g5, hg5⟩ : ∃ g, g = wr.heap.size := ⟨_, rfl⟩
      have hn1 : n1 ≤ 100000 := by have := HLN.out.1; rw [HLC.out.1] at this; exact this
      have hm1 : m1 ≤ 100000 := by have := HLN.out.2; rw [HLC.out.2] at this; exact this
      clear hx s1 q5 HBO HOW HBR HBL h1 HLEN HLN HLC
      obtain ⟨gk', rfl⟩ : ∃ g, g = gk := ⟨_, rfl⟩
      go_wp2_with fail
      clear e0 e1 e2
      rw [← hg5] at HX5 hs5 HOB HOW5 HC5 HK5 hsz ⊢
      clear hg5
      generalize wr.alloc (.cells (t.cells A1 n1 c1 B1 m1 d1) 41) = w5 at *
      refine wp_region_psF (F := fun a1 a' w' => ∃ A6 c6 A7 c7, (∃ v13 v14 v15 v16 v17 v18 v19 v20 v21 v22, a' = ((((((((((a1.put (some 13) v13).put (some 14) v14).put (some 15) v15).put (some 16) v16).put (some 17) v17).put (some 18) v18).put (some 19) v19).put (some 20) v20).put (some 21) v21).put (some 22) v22)) ∧ Chg (fun b => b = g5) w5 w' ∧ Blk w' g5 41 #[.string t.name, .slice A6 n1 c6, .slice A7 m1 c7] ∧ LCO.rd w' (fun b => w5.heap.size ≤ b) A6 n1 t.cols ∧ n1 ≤ c6 ∧ c6 ≤ 9223372036854775807 ∧ LK.rd w' (fun b => w5.heap.size ≤ b) A7 m1 t.keys ∧ m1 ≤ c7 ∧ c7 ≤ 9223372036854775807) (S := CpS w5 g5 41 (.string t.name) (.slice B1 m1 d1) t.cols t.keys n1 m1) (by kernel_rfl) ?spswg1 ?ppswg1 ?kpswg1
      case spswg1 =>
        exact CpS.start (by decide) (Below.refl _ _).drew _
      case ppswg1 =>
        refine Ps.st (i := 1) (d := some 14) (u := (.pointer (some ⟨g5, 1, none⟩))) rfl rfl (by exact StepS.pure (CpS.pass (by decide)) rfl fun _ => rfl) ?_
        try simp only [Act.put, sA, sZ, sS]
        refine Ps.st (i := 2) (d := some 15) (u := (.slice A1 n1 c1)) rfl rfl ?ywg1_3 ?rwg1_3
        case ywg1_3 =>
          refine StepS.read [] (by kernel_rfl) (CpS.pass (by decide)) (by rfl) (fun L9 m9 w9 hSh hAt hDn hS => ?_)
          have hT : Below w5.heap.size w5 w9 := hS.bel (reach_no hSh (f := 14) (j := 9) (by kernel_rfl) hDn)
          have x0 : w9.cell? ⟨g5, 1, none⟩ = some (.slice A1 n1 c1) := (HX5.out.ca hT).cell 1
          clear hT hS
          go_simp
          try rfl
        try simp only [Act.put, sA, sZ, sS]
        refine Ps.st (i := 5) (d := some 18) (u := (.pointer (some ⟨g5, 2, none⟩))) rfl rfl (by exact StepS.pure (CpS.pass (by decide)) rfl fun _ => rfl) ?_
        try simp only [Act.put, sA, sZ, sS]
        refine Ps.st (i := 6) (d := some 19) (u := (.slice B1 m1 d1)) rfl rfl ?ywg1_5 ?rwg1_5
        case ywg1_5 =>
          refine StepS.read [] (by kernel_rfl) (CpS.pass (by decide)) (by rfl) (fun L9 m9 w9 hSh hAt hDn hS => ?_)
          have hT : Below w5.heap.size w5 w9 := hS.bel (reach_no hSh (f := 14) (j := 9) (by kernel_rfl) hDn)
          have x0 : w9.cell? ⟨g5, 2, none⟩ = some (.slice B1 m1 d1) := (HX5.out.ca hT).cell 2
          clear hT hS
          go_simp
          try rfl
        try simp only [Act.put, sA, sZ, sS]
        refine Ps.some2 (i := 0) (j := 4) (by kernel_rfl) ?bwg1_6_0 ?bwg1_6_4
        case bwg1_6_0 =>
          refine Turns.mk (i := 0) (d := some 13) rfl rfl (TurnS.value (V := fun v => ∃ g, v = .slice (some ⟨g, 0, none⟩) 0 0) [] (by kernel_rfl) (by rfl) (fun L9 m9 w9 hSh hAt hDn hS => ?cwg1_7)) (fun v0 hVv0 => ?rwg1_7)
          case cwg1_7 =>
            have h9 : Dn L9 9 = false := reach_no hSh (f := 14) (j := 9) (by kernel_rfl) hDn
            refine ⟨.slice (some ⟨w9.heap.size, 0, none⟩) 0 0, w9.alloc (.cells #[] 71), ?_, ⟨_, rfl⟩, CpS.set0 hS h9 (bl_al (Below.refl _ _) _) ⟨_, rfl⟩⟩
            clear hS
            go_simp
          try simp only [Act.put, sA, sZ, sS]
          obtain ⟨ga0, rfl⟩ := hVv0
          refine Ps.some2 (i := 3) (j := 4) (by kernel_rfl) ?bwg1_8_3 ?bwg1_8_4
          case bwg1_8_3 =>
            refine Turns.mk (i := 3) (d := some 16) rfl rfl (TurnS.value (V := fun v => ∃ A c, v = .slice A n1 c) [0] (by kernel_rfl) (by rfl) (fun L9 m9 w9 hSh hAt hDn hS => ?cwg1_9)) (fun v3 hVv3 => ?rwg1_9)
            case cwg1_9 =>
              have h9 : Dn L9 9 = false := reach_no hSh (f := 14) (j := 9) (by kernel_rfl) hDn
              have hT := hS.bel h9
              have hsz9 := hT.size
              obtain ⟨A6, c6, w8, hrun, hr8, q8, hc8⟩ := run_append_copy (L := LCO) (e := 71) (P := Tryz.prog) (w := w9) 38 38 _ 2 24 Tryz.underlying38 Tryz.colInfo rfl rfl (by decide) LCO_free ga0 _ A1 n1 c1 t.cols (Lay.rd_below HC5.out hT) (by omega) (by unfold maxLen; omega)
              exact ⟨_, w8, exec_append (.tmp 13) (.tmp 15) 38 rfl rfl rfl hrun, ⟨A6, c6, rfl⟩, CpS.set3 hS h9 q8 ⟨A6, c6, rfl, Lay.rd_weak (fun b hb _ => Nat.le_trans hsz9 hb) hr8, hc8⟩⟩
            try simp only [Act.put, sA, sZ, sS]
            obtain ⟨AR3, cR3, rfl⟩ := hVv3
            refine Ps.st (i := 8) (d := some 21) (u := (.pointer (some ⟨g5, 1, none⟩))) rfl rfl (by exact StepS.pure (CpS.pass (by decide)) rfl fun _ => rfl) ?_
            try simp only [Act.put, sA, sZ, sS]
            refine Ps.one (k := 4) (d := some 17) rfl rfl (by kernel_rfl) (TurnS.value (V := fun v => ∃ g, v = .slice (some ⟨g, 0, none⟩) 0 0) [] (by kernel_rfl) (by rfl) (fun L9 m9 w9 hSh hAt hDn hS => ?cwg1_11)) (fun v4 hVv4 => ?rwg1_11)
            case cwg1_11 =>
              have h9 : Dn L9 9 = false := reach_no hSh (f := 14) (j := 9) (by kernel_rfl) hDn
              refine ⟨.slice (some ⟨w9.heap.size, 0, none⟩) 0 0, w9.alloc (.cells #[] 3), ?_, ⟨_, rfl⟩, CpS.set4 hS h9 (bl_al (Below.refl _ _) _) ⟨_, rfl⟩⟩
              clear hS
              go_simp
            try simp only [Act.put, sA, sZ, sS]
            obtain ⟨ga4, rfl⟩ := hVv4
            refine Ps.one (k := 7) (d := some 20) rfl rfl (by kernel_rfl) (TurnS.value (V := fun v => ∃ A c, v = .slice A m1 c) [4] (by kernel_rfl) (by rfl) (fun L9 m9 w9 hSh hAt hDn hS => ?cwg1_12)) (fun v7 hVv7 => ?rwg1_12)
            case cwg1_12 =>
              have h9 : Dn L9 9 = false := reach_no hSh (f := 14) (j := 9) (by kernel_rfl) hDn
              have hT := hS.bel h9
              have hsz9 := hT.size
              obtain ⟨A6, c6, w8, hrun, hr8, q8, hc8⟩ := run_append_copy (L := LK) (e := 3) (P := Tryz.prog) (w := w9) 39 39 _ 1 8 Tryz.underlying39 Tryz.intInfo rfl rfl (by decide) LK_free ga4 _ B1 m1 d1 t.keys (Lay.rd_below HK5.out hT) (by omega) (by unfold maxLen; omega)
              exact ⟨_, w8, exec_append (.tmp 17) (.tmp 19) 39 rfl rfl rfl hrun, ⟨A6, c6, rfl⟩, CpS.set7 hS h9 q8 ⟨A6, c6, rfl, Lay.rd_weak (fun b hb _ => Nat.le_trans hsz9 hb) hr8, hc8⟩⟩
            try simp only [Act.put, sA, sZ, sS]
            obtain ⟨AR7, cR7, rfl⟩ := hVv7
            refine Ps.st (i := 9) (d := none) (u := undef) rfl rfl ?ywg1_13 ?rwg1_13
            case ywg1_13 =>
              refine StepS.store [3, 7] (by kernel_rfl) (by rfl) (fun L9 m9 w9 hSh hAt hDn hS => ?_)
              have hm3 : m9 3 = .slice AR3 n1 cR3 := (hAt 3 (by simp)).2
              have hm7 : m9 7 = .slice AR7 m1 cR7 := (hAt 7 (by simp)).2
              have hN := HX5.out.ca (hS.bel hDn)
              have hN2 : Blk (w9.setCell ⟨g5, 1, none⟩ (.slice AR3 n1 cR3)) g5 41 #[.string t.name, .slice AR3 n1 cR3, .slice B1 m1 d1] := by simpa using hN.set_ 1 (.slice AR3 n1 cR3)
              have hg2 : w9.grownBy (w9.setCell ⟨g5, 1, none⟩ (.slice AR3 n1 cR3)) (some g5) := only_setCell (World.grownBy.refl _ _) (.inl rfl) _
              have x2 := hN.cell 1
              have fx : w9.frozen? ⟨g5, 1, none⟩ = false := hN.frozen 1
              refine ⟨w9.setCell ⟨g5, 1, none⟩ (.slice AR3 n1 cR3), ?_, CpS.set9 hS hg2 HX5.out.lt (reach_no hSh (f := 14) (j := 11) (by kernel_rfl) hDn) (by rw [hm3]; exact hN2)⟩
              clear hN2 hg2 hN hS
              go_simp
            try simp only [Act.put]
            refine Ps.st (i := 10) (d := some 22) (u := (.pointer (some ⟨g5, 2, none⟩))) rfl rfl (by exact StepS.pure (CpS.pass (by decide)) rfl fun _ => rfl) ?_
            try simp only [Act.put, sA, sZ, sS]
            refine Ps.st (i := 11) (d := none) (u := undef) rfl rfl ?ywg1_15 ?rwg1_15
            case ywg1_15 =>
              refine StepS.store [3, 7, 9] (by kernel_rfl) (by rfl) (fun L9 m9 w9 hSh hAt hDn hS => ?_)
              have hm3 : m9 3 = .slice AR3 n1 cR3 := (hAt 3 (by simp)).2
              have hm7 : m9 7 = .slice AR7 m1 cR7 := (hAt 7 (by simp)).2
              have hN := hS.b9 (hAt 9 (by simp)).1 hDn
              rw [hm3] at hN
              have hN2 : Blk (w9.setCell ⟨g5, 2, none⟩ (.slice AR7 m1 cR7)) g5 41 #[.string t.name, .slice AR3 n1 cR3, .slice AR7 m1 cR7] := by simpa using hN.set_ 2 (.slice AR7 m1 cR7)
              have hg2 : w9.grownBy (w9.setCell ⟨g5, 2, none⟩ (.slice AR7 m1 cR7)) (some g5) := only_setCell (World.grownBy.refl _ _) (.inl rfl) _
              have x2 := hN.cell 2
              have fx : w9.frozen? ⟨g5, 2, none⟩ = false := hN.frozen 2
              refine ⟨w9.setCell ⟨g5, 2, none⟩ (.slice AR7 m1 cR7), ?_, CpS.set11 hS hg2 HX5.out.lt (hAt 9 (by simp)).1 (by rw [hm3, hm7]; exact hN2)⟩
              clear hN2 hg2 hN hS
              go_simp
            try simp only [Act.put]
            refine Ps.done (by kernel_rfl) (fun wg1 hS => ?_) _
            obtain ⟨A6, c6, e6, hr6, h6a, h6b⟩ := hS.k3 (by rfl)
            obtain ⟨A7, c7, e7, hr7, h7a, h7b⟩ := hS.k7 (by rfl)
            have hb := (hS.b11 (by rfl)).2
            have hch := hS.ch
            rw [e6, e7] at hb
            obtain ⟨rfl, rfl⟩ : AR3 = A6 ∧ cR3 = c6 := by have h9 : Value.slice AR3 n1 cR3 = .slice A6 n1 c6 := e6; simpa using h9
            obtain ⟨rfl, rfl⟩ : AR7 = A7 ∧ cR7 = c7 := by have h9 : Value.slice AR7 m1 cR7 = .slice A7 m1 c7 := e7; simpa using h9
            clear hS e6 e7
            refine ⟨AR3, cR3, AR7, cR7, ⟨.slice (some ⟨ga0, 0, none⟩) 0 0, .pointer (some ⟨g5, 1, none⟩), .slice A1 n1 c1, .slice AR3 n1 cR3, .slice (some ⟨ga4, 0, none⟩) 0 0, .pointer (some ⟨g5, 2, none⟩), .slice B1 m1 d1, .slice AR7 m1 cR7, .pointer (some ⟨g5, 1, none⟩), .pointer (some ⟨g5, 2, none⟩), ?_⟩, hch, hb, hr6, h6a, h6b, hr7, h7a, h7b⟩
            clear hch hb hr6 h6a h6b hr7 h7a h7b
            rfl
          case bwg1_8_4 =>
            refine Turns.mk (i := 4) (d := some 17) rfl rfl (TurnS.value (V := fun v => ∃ g, v = .slice (some ⟨g, 0, none⟩) 0 0) [] (by kernel_rfl) (by rfl) (fun L9 m9 w9 hSh hAt hDn hS => ?cwg1_16)) (fun v4 hVv4 => ?rwg1_16)
            case cwg1_16 =>
              have h9 : Dn L9 9 = false := reach_no hSh (f := 14) (j := 9) (by kernel_rfl) hDn
              refine ⟨.slice (some ⟨w9.heap.size, 0, none⟩) 0 0, w9.alloc (.cells #[] 3), ?_, ⟨_, rfl⟩, CpS.set4 hS h9 (bl_al (Below.refl _ _) _) ⟨_, rfl⟩⟩
              clear hS
              go_simp
            try simp only [Act.put, sA, sZ, sS]
            obtain ⟨ga4, rfl⟩ := hVv4
            refine Ps.one (k := 3) (d := some 16) rfl rfl (by kernel_rfl) (TurnS.value (V := fun v => ∃ A c, v = .slice A n1 c) [0] (by kernel_rfl) (by rfl) (fun L9 m9 w9 hSh hAt hDn hS => ?cwg1_17)) (fun v3 hVv3 => ?rwg1_17)
            case cwg1_17 =>
              have h9 : Dn L9 9 = false := reach_no hSh (f := 14) (j := 9) (by kernel_rfl) hDn
              have hT := hS.bel h9
              have hsz9 := hT.size
              obtain ⟨A6, c6, w8, hrun, hr8, q8, hc8⟩ := run_append_copy (L := LCO) (e := 71) (P := Tryz.prog) (w := w9) 38 38 _ 2 24 Tryz.underlying38 Tryz.colInfo rfl rfl (by decide) LCO_free ga0 _ A1 n1 c1 t.cols (Lay.rd_below HC5.out hT) (by omega) (by unfold maxLen; omega)
              exact ⟨_, w8, exec_append (.tmp 13) (.tmp 15) 38 rfl rfl rfl hrun, ⟨A6, c6, rfl⟩, CpS.set3 hS h9 q8 ⟨A6, c6, rfl, Lay.rd_weak (fun b hb _ => Nat.le_trans hsz9 hb) hr8, hc8⟩⟩
            try simp only [Act.put, sA, sZ, sS]
            obtain ⟨AR3, cR3, rfl⟩ := hVv3
            refine Ps.st (i := 8) (d := some 21) (u := (.pointer (some ⟨g5, 1, none⟩))) rfl rfl (by exact StepS.pure (CpS.pass (by decide)) rfl fun _ => rfl) ?_
            try simp only [Act.put, sA, sZ, sS]
            refine Ps.one (k := 7) (d := some 20) rfl rfl (by kernel_rfl) (TurnS.value (V := fun v => ∃ A c, v = .slice A m1 c) [4] (by kernel_rfl) (by rfl) (fun L9 m9 w9 hSh hAt hDn hS => ?cwg1_19)) (fun v7 hVv7 => ?rwg1_19)
            case cwg1_19 =>
              have h9 : Dn L9 9 = false := reach_no hSh (f := 14) (j := 9) (by kernel_rfl) hDn
              have hT := hS.bel h9
              have hsz9 := hT.size
              obtain ⟨A6, c6, w8, hrun, hr8, q8, hc8⟩ := run_append_copy (L := LK) (e := 3) (P := Tryz.prog) (w := w9) 39 39 _ 1 8 Tryz.underlying39 Tryz.intInfo rfl rfl (by decide) LK_free ga4 _ B1 m1 d1 t.keys (Lay.rd_below HK5.out hT) (by omega) (by unfold maxLen; omega)
              exact ⟨_, w8, exec_append (.tmp 17) (.tmp 19) 39 rfl rfl rfl hrun, ⟨A6, c6, rfl⟩, CpS.set7 hS h9 q8 ⟨A6, c6, rfl, Lay.rd_weak (fun b hb _ => Nat.le_trans hsz9 hb) hr8, hc8⟩⟩
            try simp only [Act.put, sA, sZ, sS]
            obtain ⟨AR7, cR7, rfl⟩ := hVv7
            refine Ps.st (i := 9) (d := none) (u := undef) rfl rfl ?ywg1_20 ?rwg1_20
            case ywg1_20 =>
              refine StepS.store [3, 7] (by kernel_rfl) (by rfl) (fun L9 m9 w9 hSh hAt hDn hS => ?_)
              have hm3 : m9 3 = .slice AR3 n1 cR3 := (hAt 3 (by simp)).2
              have hm7 : m9 7 = .slice AR7 m1 cR7 := (hAt 7 (by simp)).2
              have hN := HX5.out.ca (hS.bel hDn)
              have hN2 : Blk (w9.setCell ⟨g5, 1, none⟩ (.slice AR3 n1 cR3)) g5 41 #[.string t.name, .slice AR3 n1 cR3, .slice B1 m1 d1] := by simpa using hN.set_ 1 (.slice AR3 n1 cR3)
              have hg2 : w9.grownBy (w9.setCell ⟨g5, 1, none⟩ (.slice AR3 n1 cR3)) (some g5) := only_setCell (World.grownBy.refl _ _) (.inl rfl) _
              have x2 := hN.cell 1
              have fx : w9.frozen? ⟨g5, 1, none⟩ = false := hN.frozen 1
              refine ⟨w9.setCell ⟨g5, 1, none⟩ (.slice AR3 n1 cR3), ?_, CpS.set9 hS hg2 HX5.out.lt (reach_no hSh (f := 14) (j := 11) (by kernel_rfl) hDn) (by rw [hm3]; exact hN2)⟩
              clear hN2 hg2 hN hS
              go_simp
            try simp only [Act.put]
            refine Ps.st (i := 10) (d := some 22) (u := (.pointer (some ⟨g5, 2, none⟩))) rfl rfl (by exact StepS.pure (CpS.pass (by decide)) rfl fun _ => rfl) ?_
            try simp only [Act.put, sA, sZ, sS]
            refine Ps.st (i := 11) (d := none) (u := undef) rfl rfl ?ywg1_22 ?rwg1_22
            case ywg1_22 =>
              refine StepS.store [3, 7, 9] (by kernel_rfl) (by rfl) (fun L9 m9 w9 hSh hAt hDn hS => ?_)
              have hm3 : m9 3 = .slice AR3 n1 cR3 := (hAt 3 (by simp)).2
              have hm7 : m9 7 = .slice AR7 m1 cR7 := (hAt 7 (by simp)).2
              have hN := hS.b9 (hAt 9 (by simp)).1 hDn
              rw [hm3] at hN
              have hN2 : Blk (w9.setCell ⟨g5, 2, none⟩ (.slice AR7 m1 cR7)) g5 41 #[.string t.name, .slice AR3 n1 cR3, .slice AR7 m1 cR7] := by simpa using hN.set_ 2 (.slice AR7 m1 cR7)
              have hg2 : w9.grownBy (w9.setCell ⟨g5, 2, none⟩ (.slice AR7 m1 cR7)) (some g5) := only_setCell (World.grownBy.refl _ _) (.inl rfl) _
              have x2 := hN.cell 2
              have fx : w9.frozen? ⟨g5, 2, none⟩ = false := hN.frozen 2
              refine ⟨w9.setCell ⟨g5, 2, none⟩ (.slice AR7 m1 cR7), ?_, CpS.set11 hS hg2 HX5.out.lt (hAt 9 (by simp)).1 (by rw [hm3, hm7]; exact hN2)⟩
              clear hN2 hg2 hN hS
              go_simp
            try simp only [Act.put]
            refine Ps.done (by kernel_rfl) (fun wg1 hS => ?_) _
            obtain ⟨A6, c6, e6, hr6, h6a, h6b⟩ := hS.k3 (by rfl)
            obtain ⟨A7, c7, e7, hr7, h7a, h7b⟩ := hS.k7 (by rfl)
            have hb := (hS.b11 (by rfl)).2
            have hch := hS.ch
            rw [e6, e7] at hb
            obtain ⟨rfl, rfl⟩ : AR3 = A6 ∧ cR3 = c6 := by have h9 : Value.slice AR3 n1 cR3 = .slice A6 n1 c6 := e6; simpa using h9
            obtain ⟨rfl, rfl⟩ : AR7 = A7 ∧ cR7 = c7 := by have h9 : Value.slice AR7 m1 cR7 = .slice A7 m1 c7 := e7; simpa using h9
            clear hS e6 e7
            refine ⟨AR3, cR3, AR7, cR7, ⟨.slice (some ⟨ga0, 0, none⟩) 0 0, .pointer (some ⟨g5, 1, none⟩), .slice A1 n1 c1, .slice AR3 n1 cR3, .slice (some ⟨ga4, 0, none⟩) 0 0, .pointer (some ⟨g5, 2, none⟩), .slice B1 m1 d1, .slice AR7 m1 cR7, .pointer (some ⟨g5, 1, none⟩), .pointer (some ⟨g5, 2, none⟩), ?_⟩, hch, hb, hr6, h6a, h6b, hr7, h7a, h7b⟩
            clear hch hb hr6 h6a h6b hr7 h7a h7b
            rfl
        case bwg1_6_4 =>
          refine Turns.mk (i := 4) (d := some 17) rfl rfl (TurnS.value (V := fun v => ∃ g, v = .slice (some ⟨g, 0, none⟩) 0 0) [] (by kernel_rfl) (by rfl) (fun L9 m9 w9 hSh hAt hDn hS => ?cwg1_23)) (fun v4 hVv4 => ?rwg1_23)
          case cwg1_23 =>
            have h9 : Dn L9 9 = false := reach_no hSh (f := 14) (j := 9) (by kernel_rfl) hDn
            refine ⟨.slice (some ⟨w9.heap.size, 0, none⟩) 0 0, w9.alloc (.cells #[] 3), ?_, ⟨_, rfl⟩, CpS.set4 hS h9 (bl_al (Below.refl _ _) _) ⟨_, rfl⟩⟩
            clear hS
            go_simp
          try simp only [Act.put, sA, sZ, sS]
          obtain ⟨ga4, rfl⟩ := hVv4
          refine Ps.one (k := 0) (d := some 13) rfl rfl (by kernel_rfl) (TurnS.value (V := fun v => ∃ g, v = .slice (some ⟨g, 0, none⟩) 0 0) [] (by kernel_rfl) (by rfl) (fun L9 m9 w9 hSh hAt hDn hS => ?cwg1_24)) (fun v0 hVv0 => ?rwg1_24)
          case cwg1_24 =>
            have h9 : Dn L9 9 = false := reach_no hSh (f := 14) (j := 9) (by kernel_rfl) hDn
            refine ⟨.slice (some ⟨w9.heap.size, 0, none⟩) 0 0, w9.alloc (.cells #[] 71), ?_, ⟨_, rfl⟩, CpS.set0 hS h9 (bl_al (Below.refl _ _) _) ⟨_, rfl⟩⟩
            clear hS
            go_simp
          try simp only [Act.put, sA, sZ, sS]
          obtain ⟨ga0, rfl⟩ := hVv0
          refine Ps.one (k := 3) (d := some 16) rfl rfl (by kernel_rfl) (TurnS.value (V := fun v => ∃ A c, v = .slice A n1 c) [0] (by kernel_rfl) (by rfl) (fun L9 m9 w9 hSh hAt hDn hS => ?cwg1_25)) (fun v3 hVv3 => ?rwg1_25)
          case cwg1_25 =>
            have h9 : Dn L9 9 = false := reach_no hSh (f := 14) (j := 9) (by kernel_rfl) hDn
            have hT := hS.bel h9
            have hsz9 := hT.size
            obtain ⟨A6, c6, w8, hrun, hr8, q8, hc8⟩ := run_append_copy (L := LCO) (e := 71) (P := Tryz.prog) (w := w9) 38 38 _ 2 24 Tryz.underlying38 Tryz.colInfo rfl rfl (by decide) LCO_free ga0 _ A1 n1 c1 t.cols (Lay.rd_below HC5.out hT) (by omega) (by unfold maxLen; omega)
            exact ⟨_, w8, exec_append (.tmp 13) (.tmp 15) 38 rfl rfl rfl hrun, ⟨A6, c6, rfl⟩, CpS.set3 hS h9 q8 ⟨A6, c6, rfl, Lay.rd_weak (fun b hb _ => Nat.le_trans hsz9 hb) hr8, hc8⟩⟩
          try simp only [Act.put, sA, sZ, sS]
          obtain ⟨AR3, cR3, rfl⟩ := hVv3
          refine Ps.st (i := 8) (d := some 21) (u := (.pointer (some ⟨g5, 1, none⟩))) rfl rfl (by exact StepS.pure (CpS.pass (by decide)) rfl fun _ => rfl) ?_
          try simp only [Act.put, sA, sZ, sS]
          refine Ps.one (k := 7) (d := some 20) rfl rfl (by kernel_rfl) (TurnS.value (V := fun v => ∃ A c, v = .slice A m1 c) [4] (by kernel_rfl) (by rfl) (fun L9 m9 w9 hSh hAt hDn hS => ?cwg1_27)) (fun v7 hVv7 => ?rwg1_27)
          case cwg1_27 =>
            have h9 : Dn L9 9 = false := reach_no hSh (f := 14) (j := 9) (by kernel_rfl) hDn
            have hT := hS.bel h9
            have hsz9 := hT.size
            obtain ⟨A6, c6, w8, hrun, hr8, q8, hc8⟩ := run_append_copy (L := LK) (e := 3) (P := Tryz.prog) (w := w9) 39 39 _ 1 8 Tryz.underlying39 Tryz.intInfo rfl rfl (by decide) LK_free ga4 _ B1 m1 d1 t.keys (Lay.rd_below HK5.out hT) (by omega) (by unfold maxLen; omega)
            exact ⟨_, w8, exec_append (.tmp 17) (.tmp 19) 39 rfl rfl rfl hrun, ⟨A6, c6, rfl⟩, CpS.set7 hS h9 q8 ⟨A6, c6, rfl, Lay.rd_weak (fun b hb _ => Nat.le_trans hsz9 hb) hr8, hc8⟩⟩
          try simp only [Act.put, sA, sZ, sS]
          obtain ⟨AR7, cR7, rfl⟩ := hVv7
          refine Ps.st (i := 9) (d := none) (u := undef) rfl rfl ?ywg1_28 ?rwg1_28
          case ywg1_28 =>
            refine StepS.store [3, 7] (by kernel_rfl) (by rfl) (fun L9 m9 w9 hSh hAt hDn hS => ?_)
            have hm3 : m9 3 = .slice AR3 n1 cR3 := (hAt 3 (by simp)).2
            have hm7 : m9 7 = .slice AR7 m1 cR7 := (hAt 7 (by simp)).2
            have hN := HX5.out.ca (hS.bel hDn)
            have hN2 : Blk (w9.setCell ⟨g5, 1, none⟩ (.slice AR3 n1 cR3)) g5 41 #[.string t.name, .slice AR3 n1 cR3, .slice B1 m1 d1] := by simpa using hN.set_ 1 (.slice AR3 n1 cR3)
            have hg2 : w9.grownBy (w9.setCell ⟨g5, 1, none⟩ (.slice AR3 n1 cR3)) (some g5) := only_setCell (World.grownBy.refl _ _) (.inl rfl) _
            have x2 := hN.cell 1
            have fx : w9.frozen? ⟨g5, 1, none⟩ = false := hN.frozen 1
            refine ⟨w9.setCell ⟨g5, 1, none⟩ (.slice AR3 n1 cR3), ?_, CpS.set9 hS hg2 HX5.out.lt (reach_no hSh (f := 14) (j := 11) (by kernel_rfl) hDn) (by rw [hm3]; exact hN2)⟩
            clear hN2 hg2 hN hS
            go_simp
          try simp only [Act.put]
          refine Ps.st (i := 10) (d := some 22) (u := (.pointer (some ⟨g5, 2, none⟩))) rfl rfl (by exact StepS.pure (CpS.pass (by decide)) rfl fun _ => rfl) ?_
          try simp only [Act.put, sA, sZ, sS]
          refine Ps.st (i := 11) (d := none) (u := undef) rfl rfl ?ywg1_30 ?rwg1_30
          case ywg1_30 =>
            refine StepS.store [3, 7, 9] (by kernel_rfl) (by rfl) (fun L9 m9 w9 hSh hAt hDn hS => ?_)
            have hm3 : m9 3 = .slice AR3 n1 cR3 := (hAt 3 (by simp)).2
            have hm7 : m9 7 = .slice AR7 m1 cR7 := (hAt 7 (by simp)).2
            have hN := hS.b9 (hAt 9 (by simp)).1 hDn
            rw [hm3] at hN
            have hN2 : Blk (w9.setCell ⟨g5, 2, none⟩ (.slice AR7 m1 cR7)) g5 41 #[.string t.name, .slice AR3 n1 cR3, .slice AR7 m1 cR7] := by simpa using hN.set_ 2 (.slice AR7 m1 cR7)
            have hg2 : w9.grownBy (w9.setCell ⟨g5, 2, none⟩ (.slice AR7 m1 cR7)) (some g5) := only_setCell (World.grownBy.refl _ _) (.inl rfl) _
            have x2 := hN.cell 2
            have fx : w9.frozen? ⟨g5, 2, none⟩ = false := hN.frozen 2
            refine ⟨w9.setCell ⟨g5, 2, none⟩ (.slice AR7 m1 cR7), ?_, CpS.set11 hS hg2 HX5.out.lt (hAt 9 (by simp)).1 (by rw [hm3, hm7]; exact hN2)⟩
            clear hN2 hg2 hN hS
            go_simp
          try simp only [Act.put]
          refine Ps.done (by kernel_rfl) (fun wg1 hS => ?_) _
          obtain ⟨A6, c6, e6, hr6, h6a, h6b⟩ := hS.k3 (by rfl)
          obtain ⟨A7, c7, e7, hr7, h7a, h7b⟩ := hS.k7 (by rfl)
          have hb := (hS.b11 (by rfl)).2
          have hch := hS.ch
          rw [e6, e7] at hb
          obtain ⟨rfl, rfl⟩ : AR3 = A6 ∧ cR3 = c6 := by have h9 : Value.slice AR3 n1 cR3 = .slice A6 n1 c6 := e6; simpa using h9
          obtain ⟨rfl, rfl⟩ : AR7 = A7 ∧ cR7 = c7 := by have h9 : Value.slice AR7 m1 cR7 = .slice A7 m1 c7 := e7; simpa using h9
          clear hS e6 e7
          refine ⟨AR3, cR3, AR7, cR7, ⟨.slice (some ⟨ga0, 0, none⟩) 0 0, .pointer (some ⟨g5, 1, none⟩), .slice A1 n1 c1, .slice AR3 n1 cR3, .slice (some ⟨ga4, 0, none⟩) 0 0, .pointer (some ⟨g5, 2, none⟩), .slice B1 m1 d1, .slice AR7 m1 cR7, .pointer (some ⟨g5, 1, none⟩), .pointer (some ⟨g5, 2, none⟩), ?_⟩, hch, hb, hr6, h6a, h6b, hr7, h7a, h7b⟩
          clear hch hb hr6 h6a h6b hr7 h7a h7b
          rfl
      case kpswg1 =>
        intro a' w7 hF
        obtain ⟨A6, c6, A7, c7, ⟨v13, v14, v15, v16, v17, v18, v19, v20, v21, v22, rfl⟩, hch, hb7, hr6, h6a, h6b, hr7, h7a, h7b⟩ := hF
        have HCH := Lib.hid hch
        have HX7 := Lib.hid hb7
        have HC7 := Lib.hid hr6
        have HK7 := Lib.hid hr7
        have HCP := Lib.hid (And.intro (And.intro h6a h6b) (And.intro h7a h7b))
        clear hch hb7 hr6 hr7 h6a h6b h7a h7b
        have hs7 := HCH.out.size
        have HBO7 := Lib.hid (HBO5.out.chg HCH.out (by omega))
        have HBR7 := Lib.hid (HBR5.out.chg HCH.out (by omega))
        have HBL7 := Lib.hid (Chg.bel HBL5.out HCH.out (fun b _ h9 => by omega) HBL5.out.size)
        have HOW7 := Lib.hid (Lay.own_same HOW5.out (fun k e => HCH.out.block k (by have := HOB.out k e; omega) (fun h9 => by have := HOB.out k e; omega)) (fun b hb _ hl => HCH.out.block b hl (fun h9 => by have := hb.2; omega)))
        clear HBO5 HOW5 HBR5 HBL5 HX5 HC5 HK5 HCH
        simp only [Act.put, List.setIfInBounds_toArray, List.set_cons_zero, List.set_cons_succ]
        have q8 := bl_al (Below.refl w7.heap.size w7) (.cells (t.cells A6 n1 c6 A7 m1 c7) 41)
        have HOW8 := Lib.hid (Lay.own_weak (G' := fun b => w.heap.size + 3 ≤ b ∧ b < w7.heap.size + 1) (fun b hb _ => ⟨hb.1, by have := hb.2; omega⟩) (Lay.own_below HOW7.out q8))
        have HBO8 := Lib.hid (HBO7.out.ca q8)
        have HBR8 := Lib.hid (HBR7.out.ca q8)
        have HBL8 := Lib.hid (bl_ca HBL7.out q8)
        have HE8 := Lib.hid (Blk.new w7 41 (t.cells A6 n1 c6 A7 m1 c7))
        have HRB := Lib.hid (show LT3.rd (w7.alloc (.cells (t.cells A6 n1 c6 A7 m1 c7) 41)) (fun b => w5.heap.size ≤ b ∧ b < w7.heap.size + 1) (some ⟨w7.heap.size, 0, none⟩) 1 [t] from Lay.rd_blk HE8.out rfl (Lay.reps_single ⟨A6, n1, c6, A7, m1, c7, rfl, HCP.out.1.1, HCP.out.1.2, Lay.rd_weak (fun b hb hl => ⟨hb, by simp only [World.size_alloc] at hl; omega⟩) (Lay.rd_below HC7.out q8), HCP.out.2.1, HCP.out.2.2, Lay.rd_weak (fun b hb hl => ⟨hb, by simp only [World.size_alloc] at hl; omega⟩) (Lay.rd_below HK7.out q8)⟩) (by omega))
        have z0 := HBO7.out.cell 0
        have t0 := HX7.out.cell 0
        have t1 := HX7.out.cell 1
        have t2 := HX7.out.cell 2
        clear q8 HOW7 HC7 HK7
        go_wp2_with (at_builtin; refine wpList_appLs (L := LT3) rfl (.tmp 24) (.tmp 26) 22 rfl _ 3 64 Tryz.underlying22 Tryz.tableInfo rfl rfl (by omega) (w.heap.size + 3) (fun b => w.heap.size + 3 ≤ b ∧ b < w7.heap.size + 1) (fun b => w5.heap.size ≤ b ∧ b < w7.heap.size + 1) A2 i c2 (l.take i) (some ⟨w7.heap.size, 0, none⟩) 1 1 [t] (i + 1) rfl rfl rfl HOW8.out HRB.out (fun b hb _ => ⟨⟨by omega, hb.2⟩, fun e => by have h9 := HOB.out b e; omega⟩) (fun b hb => by simp only [World.size_alloc]; omega) (by omega) (by unfold maxLen; omega) (by simp only [World.size_alloc]; omega) ?_; intro A9 c9 w9 ho9 hg9 hat9; have HN9 := HBO8.out.grown hg9 (fun e => by have h9 := HOB.out _ e.symm; omega); have HBR9 := Lib.hid (HBR8.out.grown hg9 (fun e => by have h9 := HOB.out _ e.symm; omega)); have HBL9 := Lib.hid (HBL8.out.grown hg9 HBL8.out.size (fun k e => by have h9 := HOB.out k e; omega)); have HOW9 := Lib.hid ho9; have HSZ := Lib.hid hg9.size; have z9 := HN9.cell 0; have f9 := HN9.frozen 0; have HNN := Lib.hid HN9; clear ho9 hg9 hat9 HN9)
        have hg8 : w9.grownBy (w9.setCell ⟨w.heap.size + 1 + 1, 0, none⟩ (.slice A9 (i + 1) c9)) (some (w.heap.size + 1 + 1)) := only_setCell (World.grownBy.refl _ _) (.inl rfl) _
        have hsz8 := hg8.size
        have hsz9 := HSZ.out
        simp only [World.size_alloc] at hsz9
        have hN2 : Blk (w9.setCell ⟨w.heap.size + 1 + 1, 0, none⟩ (.slice A9 (i + 1) c9)) (w.heap.size + 1 + 1) 24 #[.slice A9 (i + 1) c9] := by simpa using HNN.out.set_ 0 (.slice A9 (i + 1) c9)
        go_roundg (gk' - 1)
        · exact ⟨i + 1, A9, c9, by omega, by go_num, hN2, by rw [HT.out]; exact Lay.own_weak (fun b hb _ => ⟨hb.1, by have := hb.2; omega⟩) (own_grownH HOW9.out hg8 (by omega) (fun b hb => by omega)), HBR9.out.apart hg8 (by omega), bl_gr HBL9.out hg8 (by omega), by omega⟩
        · omega
    · obtain rfl : i = m := by omega
      have hi1 : (i : Int) ≤ (i : Int) := by omega
      have HTK := Lib.hid (show l.take i = l from List.take_of_length_le (by rw [HL.out]; exact Nat.le_refl _))
      have z0 := HBO.out.cell 0
      go_wp2_with (first | (refine wpList_store_blk rfl 24 (.tmp 2) (.tmp 30) rfl (w.heap.size + 1) 24 #[.slice none 0 0] #[.slice A2 i c2] rfl rfl HBR.out rfl catI (by simp [Value.oneCell']) ?_; intro w8 h8 g8))
      have hr6 := Lay.own_rd2 (F := fun b => w.heap.size ≤ b ∧ b ≠ w.heap.size + 1) HOW.out (fun b e => by have := Lay.own_base HOW.out b e; omega) (fun b hb _ => by omega)
      rw [HTK.out] at hr6
      exact bodyPost_ret (res1 Tryz.results7 rfl h8 Tryz.underlying24 rfl catI) rfl ⟨A2, i, c2, rfl, Lay.rd_weak (fun b hb _ => hb.1) (rd_grownH hr6 g8 (fun b hb => hb.2)), (Lay.own_caps HOW.out).1, (Lay.own_caps HOW.out).2, bl_gr HBL.out g8 (by omega)⟩
end Go.Proofs.YthgcdilkkldgjaaGreatDoor
/- slices.IndexFunc over tables and columns, ContainsFunc over tables. Conditions: the slice reads as these; what is handed over answers for each and turns no memory that was there. -/
namespace Go.Proofs.YthgcdilkkldgjaaGreatDoor
open Go.RowKit
/-- what is handed over: a test of a table, of a column -/
def TestT (F0 : Nat → Prop) (l : List TC) (D : FuncId) (cap : Array Value) (f : TC → Bool) (G : World → Prop) : Prop :=
  ∀ (i : Nat) (t : TC) (A : Option Addr) (n c : Nat) (B : Option Addr) (m d : Nat) (W : World), G W → l[i]? = some t → LCO.rd W F0 A n t.cols → n ≤ c → c ≤ 9223372036854775807 → LK.rd W F0 B m t.keys → m ≤ d → d ≤ 9223372036854775807 → Calls Tryz.prog D (#[.agg #[.string t.name, .slice A n c, .slice B m d]] ++ cap) W fun e w' => e = .returned (.bool (f t)) ∧ Below W.heap.size W w'
def TestO (l : List CO) (D : FuncId) (cap : Array Value) (f : CO → Bool) (G : World → Prop) : Prop :=
  ∀ (i : Nat) (t : CO) (W : World), G W → l[i]? = some t → Calls Tryz.prog D (#[.agg #[.string t.name, .int .i64 t.kind]] ++ cap) W fun e w' => e = .returned (.bool (f t)) ∧ Below W.heap.size W w'
theorem idxL_has {α : Type} (f : α → Bool) (l : List α) : decide (0 ≤ idxL f l) = l.any f := by
  unfold idxL
  by_cases h : l.findIdx f < l.length
  · rw [if_pos h, decide_eq_true (by omega)]
    obtain ⟨x, hx, hf⟩ := List.findIdx_lt_length.1 h
    exact (List.any_eq_true.2 ⟨x, hx, hf⟩).symm
  · rw [if_neg h, decide_eq_false (by omega)]
    symm
    rw [Bool.eq_false_iff]
    intro e
    obtain ⟨x, hx, hf⟩ := List.any_eq_true.1 e
    exact h (List.findIdx_lt_length.2 ⟨x, hx, hf⟩)
set_option maxRecDepth 100000 in
set_option maxHeartbeats 4000000 in
theorem indexT (F : Nat → Prop) (A : Option Addr) (m c : Nat) (xs : List TC) (D : FuncId) (cap : Array Value) (f : TC → Bool) (w : World) (h : LT3.rd w F A m xs) (hm : m ≤ 9223372036854775807)
    (hent : ∀ (args : Array Value) (w : World), (callFunc D args).run Tryz.prog w = .ok (.enter D args) w) (hD : TestT F xs D cap f (fun W => Below w.heap.size w W)) :
    Calls Tryz.prog 58 #[.slice A m c, .func (.func D) #[] cap] w fun e w' => e = .returned (.int .i64 (idxL f xs)) ∧ Below w.heap.size w w' := by
  have HL := Lib.hid h.1
  have HEN := hent
  have HD := Lib.hid hD
  clear hent hD
  go_enter Tryz.func58, Tryz.ntmps58
  go_wp2_with fail
  go_loopg [8] m (fun g a wr => ∃ i : Nat, i + g = m ∧ a = .int .i64 i ∧ (∀ (k : Nat) (q : TC), k < i → xs[k]? = some q → f q = false) ∧ Below w.heap.size w wr)
  case atStart => exact ⟨0, by omega, rfl, fun k q hk => by omega, Below.refl _ _⟩
  case round =>
    obtain ⟨i, hig, rfl, hlo, bb⟩ := hrel
    have HLO := Lib.hid hlo
    have HBB := Lib.hid bb
    clear hlo
    by_cases hlt : i < m
    · have hi1 : (i : Int) < (m : Int) := by omega
      obtain ⟨p, q, B1, n1, c1, B2, n2, c2, rfl, hx, s1⟩ := LT3_at (Lay.rd_below h bb) hlt
      have e0 := s1.c0
      have e1 := s1.c1
      have e2 := s1.c2
      have HX := Lib.hid hx
      have HC := Lib.hid (HD.out i q B1 n1 c1 B2 n2 c2 wr bb hx s1.rd s1.nc s1.cm s1.rk s1.md s1.dm)
      clear hx s1 bb
      cases hq : f q
      · rw [hq] at HC
        have HF := Lib.hid (lo_next HX.out hq HLO.out)
        clear hq
        go_wp2_with fail
        refine HC.out.mono ?_
        rintro e w2 ⟨rfl, q2⟩
        have b2 := bl_ca HBB.out q2
        clear q2
        go_wp2
        go_roundg (gk - 1)
        · exact ⟨i + 1, by omega, by go_num, HF.out, b2⟩
        · omega
      · rw [hq] at HC
        have HF := Lib.hid (idxL_hit HX.out hq HLO.out)
        clear hq
        go_wp2_with fail
        refine HC.out.mono ?_
        rintro e w2 ⟨rfl, q2⟩
        have b2 := bl_ca HBB.out q2
        clear q2
        go_wp2
        go_ret
        exact ⟨ret_int (by rw [HF.out]), b2⟩
    · obtain rfl : i = m := by omega
      have hi1 : (i : Int) ≤ (i : Int) := by omega
      have HF := Lib.hid (idxL_miss (fun k q hk => HLO.out k q (by rw [← HL.out]; exact hk)))
      clear bb
      go_wp2
      go_ret
      exact ⟨ret_int (by rw [HF.out]), HBB.out⟩
set_option maxRecDepth 100000 in
set_option maxHeartbeats 4000000 in
theorem indexO (F : Nat → Prop) (A : Option Addr) (m c : Nat) (xs : List CO) (D : FuncId) (cap : Array Value) (f : CO → Bool) (w : World) (h : LCO.rd w F A m xs) (hm : m ≤ 9223372036854775807)
    (hent : ∀ (args : Array Value) (w : World), (callFunc D args).run Tryz.prog w = .ok (.enter D args) w) (hD : TestO xs D cap f (fun W => Below w.heap.size w W)) :
    Calls Tryz.prog 56 #[.slice A m c, .func (.func D) #[] cap] w fun e w' => e = .returned (.int .i64 (idxL f xs)) ∧ Below w.heap.size w w' := by
  have HL := Lib.hid h.1
  have HEN := hent
  have HD := Lib.hid hD
  clear hent hD
  go_enter Tryz.func56, Tryz.ntmps56
  go_wp2_with fail
  go_loopg [8] m (fun g a wr => ∃ i : Nat, i + g = m ∧ a = .int .i64 i ∧ (∀ (k : Nat) (q : CO), k < i → xs[k]? = some q → f q = false) ∧ Below w.heap.size w wr)
  case atStart => exact ⟨0, by omega, rfl, fun k q hk => by omega, Below.refl _ _⟩
  case round =>
    obtain ⟨i, hig, rfl, hlo, bb⟩ := hrel
    have HLO := Lib.hid hlo
    have HBB := Lib.hid bb
    clear hlo
    by_cases hlt : i < m
    · have hi1 : (i : Int) < (m : Int) := by omega
      obtain ⟨p, q, rfl, hx, s1⟩ := LCO_at (Lay.rd_below h bb) hlt
      have e0 := s1.c0
      have e1 := s1.c1
      have HX := Lib.hid hx
      have HC := Lib.hid (HD.out i q wr bb hx)
      clear hx s1 bb
      cases hq : f q
      · rw [hq] at HC
        have HF := Lib.hid (lo_next HX.out hq HLO.out)
        clear hq
        go_wp2_with fail
        refine HC.out.mono ?_
        rintro e w2 ⟨rfl, q2⟩
        have b2 := bl_ca HBB.out q2
        clear q2
        go_wp2
        go_roundg (gk - 1)
        · exact ⟨i + 1, by omega, by go_num, HF.out, b2⟩
        · omega
      · rw [hq] at HC
        have HF := Lib.hid (idxL_hit HX.out hq HLO.out)
        clear hq
        go_wp2_with fail
        refine HC.out.mono ?_
        rintro e w2 ⟨rfl, q2⟩
        have b2 := bl_ca HBB.out q2
        clear q2
        go_wp2
        go_ret
        exact ⟨ret_int (by rw [HF.out]), b2⟩
    · obtain rfl : i = m := by omega
      have hi1 : (i : Int) ≤ (i : Int) := by omega
      have HF := Lib.hid (idxL_miss (fun k q hk => HLO.out k q (by rw [← HL.out]; exact hk)))
      clear bb
      go_wp2
      go_ret
      exact ⟨ret_int (by rw [HF.out]), HBB.out⟩
set_option maxRecDepth 100000 in
theorem containsT (F : Nat → Prop) (A : Option Addr) (m c : Nat) (xs : List TC) (D : FuncId) (cap : Array Value) (f : TC → Bool) (w : World) (h : LT3.rd w F A m xs) (hm : m ≤ 9223372036854775807)
    (hent : ∀ (args : Array Value) (w : World), (callFunc D args).run Tryz.prog w = .ok (.enter D args) w) (hD : TestT F xs D cap f (fun W => Below w.heap.size w W)) :
    Calls Tryz.prog 36 #[.slice A m c, .func (.func D) #[] cap] w fun e w' => e = .returned (.bool (xs.any f)) ∧ Below w.heap.size w w' := by
  have HI := Lib.hid (indexT F A m c xs D cap f w h hm hent hD)
  have HE := Lib.hid (idxL_has f xs)
  clear h hent hD
  generalize idxL f xs = z at *
  go_enter Tryz.func36, Tryz.ntmps36
  go_wp2_with fail
  refine HI.out.mono ?_
  rintro e w2 ⟨rfl, q2⟩
  have HQ := Lib.hid q2
  clear q2
  go_wp2
  go_ret
  exact ⟨ret_bool (by rw [← HE.out]), HQ.out⟩
set_option maxRecDepth 100000 in
theorem tname_any (t : TC) (A : Option Addr) (n c : Nat) (B : Option Addr) (m d : Nat) (w : World) : Calls Tryz.prog 38 #[.agg #[.string t.name, .slice A n c, .slice B m d]] w fun e w' => e = .returned (.string t.name) ∧ Below w.heap.size w w' := by
  go_enter Tryz.func38, Tryz.ntmps38
  go_wp2
  go_ret
  exact ⟨rfl, bl_al (Below.refl _ _) _⟩
set_option maxRecDepth 100000 in
theorem cname_any (t : CO) (w : World) : Calls Tryz.prog 34 #[.agg #[.string t.name, .int .i64 t.kind]] w fun e w' => e = .returned (.string t.name) ∧ Below w.heap.size w w' := by
  go_enter Tryz.func34, Tryz.ntmps34
  go_wp2
  go_ret
  exact ⟨rfl, bl_al (Below.refl _ _) _⟩
end Go.Proofs.YthgcdilkkldgjaaGreatDoor
/- The layer's find over tables and columns. Conditions: the slice reads so. -/
namespace Go.Proofs.YthgcdilkkldgjaaGreatDoor
open Go.RowKit
set_option maxRecDepth 100000 in
set_option maxHeartbeats 4000000 in
theorem findcT_any (t : TC) (A : Option Addr) (n c : Nat) (B : Option Addr) (m d : Nat) (ga gb : Nat) (s : ByteArray) (w : World) (ha : w.cell? ⟨ga, 0, none⟩ = some (.func (.func 38) #[] #[])) (hb : w.cell? ⟨gb, 0, none⟩ = some (.string s)) :
    Calls Tryz.prog 70 #[.agg #[.string t.name, .slice A n c, .slice B m d], .pointer (some ⟨ga, 0, none⟩), .pointer (some ⟨gb, 0, none⟩)] w fun e w' => e = .returned (.bool (decide (t.name = s))) ∧ Below w.heap.size w w' := by
  have HR := Lib.hid (seq_iff t.name s)
  have q1 := bl_al (Below.refl w.heap.size w) (.cells #[.string t.name, .slice A n c, .slice B m d] 41)
  have a1 := ce ha q1
  have b1 := ce hb q1
  have HX := Lib.hid (Blk.new w 41 #[.string t.name, .slice A n c, .slice B m d])
  have HQ := Lib.hid q1
  clear ha hb q1
  go_enter Tryz.func70, Tryz.ntmps70
  go_wp2_with fail
  generalize w.alloc (.cells #[.string t.name, .slice A n c, .slice B m d] 41) = w1 at *
  obtain ⟨nm, hnm⟩ : ∃ nm, nm = t.name := ⟨_, rfl⟩
  have HN := Lib.hid hnm
  refine wp_region_ps (S := fun _ _ w' => Below w1.heap.size w1 w') (by kernel_rfl) ?spswg1 ?ppswg1
  case spswg1 =>
    exact (Below.refl w1.heap.size w1).drew
  refine Ps.st (i := 0) (d := some 5) (u := (.func (.func 38) #[] #[])) rfl rfl ?ywg1_2 ?rwg1_2
  case ywg1_2 =>
    refine StepS.read [] (by kernel_rfl) nP (by rfl) (fun L9 m9 w9 hSh hAt hDn hS => ?_)
    have hT : Below _ _ w9 := hS
    have x0 : w9.cell? ⟨ga, 0, none⟩ = some (.func (.func 38) #[] #[]) := ce a1 hT
    clear hT hS
    go_simp
    try rfl
  try simp only [Act.put, sA, sZ, sS]
  refine Ps.st (i := 1) (d := some 6) (u := (.agg #[.string t.name, .slice A n c, .slice B m d])) rfl rfl ?ywg1_3 ?rwg1_3
  case ywg1_3 =>
    refine StepS.read [] (by kernel_rfl) nP (by rfl) (fun L9 m9 w9 hSh hAt hDn hS => ?_)
    have hT : Below _ _ w9 := hS
    have x0 : w9.cell? ⟨w.heap.size, 0, none⟩ = some (.string t.name) := (HX.out.ca hT).cell 0
    have x1 : w9.cell? ⟨w.heap.size, 1, none⟩ = some (.slice A n c) := (HX.out.ca hT).cell 1
    have x2 : w9.cell? ⟨w.heap.size, 2, none⟩ = some (.slice B m d) := (HX.out.ca hT).cell 2
    clear hT hS
    go_simp
    try rfl
  try simp only [Act.put, sA, sZ, sS]
  refine Ps.st (i := 2) (d := some 7) (u := (.string t.name)) rfl rfl ?ywg1_4 ?rwg1_4
  case ywg1_4 =>
    refine StepS.call ?fwg1_4 ?awg1_4 [] (by kernel_rfl) (by rfl) (fun w9 => ?hwg1_4) (fun L9 m9 w9 hSh hAt hDn hS => ?cwg1_4)
    case hwg1_4 => go_simp; refine ⟨?_, ?_⟩ <;> rfl
    case cwg1_4 =>
      have hT : Below _ _ w9 := hS
      refine (tname_any t A n c B m d w9).mono ?_
      rintro e w8 ⟨rfl, q8⟩
      exact ⟨rfl, bl_ca hT q8⟩
  try simp only [Act.put, sA, sZ, sS]
  refine Ps.st (i := 3) (d := some 8) (u := (.string s)) rfl rfl ?ywg1_5 ?rwg1_5
  case ywg1_5 =>
    refine StepS.read [] (by kernel_rfl) nP (by rfl) (fun L9 m9 w9 hSh hAt hDn hS => ?_)
    have hT : Below _ _ w9 := hS
    have x0 : w9.cell? ⟨gb, 0, none⟩ = some (.string s) := ce b1 hT
    clear hT hS
    go_simp
    try rfl
  try simp only [Act.put, sA, sZ, sS]
  refine Ps.st (i := 4) (d := some 9) (u := (.bool ((t.name.toList == s.toList)))) rfl rfl (by exact StepS.pure nP rfl fun _ => rfl) ?_
  try simp only [Act.put, sA, sZ, sS]
  refine Ps.st (i := 5) (d := some 4) (u := (.bool ((t.name.toList == s.toList)))) rfl rfl (by exact StepS.pure nP rfl fun _ => rfl) ?_
  try simp only [Act.put, sA, sZ, sS]
  refine Ps.done (by kernel_rfl) (fun wg1 hS => ?_) _
  have HT1 := Lib.hid (show Below w1.heap.size w1 wg1 from hS)
  clear hS
  obtain ⟨w2, rfl⟩ : ∃ x, x = wg1 := ⟨_, rfl⟩
  clear a1 b1
  go_wp2
  go_ret
  exact ⟨ret_bool HR.out, bl_ca HQ.out HT1.out⟩
set_option maxRecDepth 100000 in
set_option maxHeartbeats 4000000 in
theorem findcO_any (t : CO) (ga gb : Nat) (s : ByteArray) (w : World) (ha : w.cell? ⟨ga, 0, none⟩ = some (.func (.func 34) #[] #[])) (hb : w.cell? ⟨gb, 0, none⟩ = some (.string s)) :
    Calls Tryz.prog 57 #[.agg #[.string t.name, .int .i64 t.kind], .pointer (some ⟨ga, 0, none⟩), .pointer (some ⟨gb, 0, none⟩)] w fun e w' => e = .returned (.bool (decide (t.name = s))) ∧ Below w.heap.size w w' := by
  have HR := Lib.hid (seq_iff t.name s)
  have q1 := bl_al (Below.refl w.heap.size w) (.cells #[.string t.name, .int .i64 t.kind] 71)
  have a1 := ce ha q1
  have b1 := ce hb q1
  have HX := Lib.hid (Blk.new w 71 #[.string t.name, .int .i64 t.kind])
  have HQ := Lib.hid q1
  clear ha hb q1
  go_enter Tryz.func57, Tryz.ntmps57
  go_wp2_with fail
  generalize w.alloc (.cells #[.string t.name, .int .i64 t.kind] 71) = w1 at *
  refine wp_region_ps (S := fun _ _ w' => Below w1.heap.size w1 w') (by kernel_rfl) ?spswg8 ?ppswg8
  case spswg8 =>
    exact (Below.refl w1.heap.size w1).drew
  refine Ps.st (i := 0) (d := some 5) (u := (.func (.func 34) #[] #[])) rfl rfl ?ywg8_9 ?rwg8_9
  case ywg8_9 =>
    refine StepS.read [] (by kernel_rfl) nP (by rfl) (fun L9 m9 w9 hSh hAt hDn hS => ?_)
    have hT : Below _ _ w9 := hS
    have x0 : w9.cell? ⟨ga, 0, none⟩ = some (.func (.func 34) #[] #[]) := ce a1 hT
    clear hT hS
    go_simp
    try rfl
  try simp only [Act.put, sA, sZ, sS]
  refine Ps.st (i := 1) (d := some 6) (u := (.agg #[.string t.name, .int .i64 (t.kind)])) rfl rfl ?ywg8_10 ?rwg8_10
  case ywg8_10 =>
    refine StepS.read [] (by kernel_rfl) nP (by rfl) (fun L9 m9 w9 hSh hAt hDn hS => ?_)
    have hT : Below _ _ w9 := hS
    have x0 : w9.cell? ⟨w.heap.size, 0, none⟩ = some (.string t.name) := (HX.out.ca hT).cell 0
    have x1 : w9.cell? ⟨w.heap.size, 1, none⟩ = some (.int .i64 (t.kind)) := (HX.out.ca hT).cell 1
    clear hT hS
    go_simp
    try rfl
  try simp only [Act.put, sA, sZ, sS]
  refine Ps.st (i := 2) (d := some 7) (u := (.string t.name)) rfl rfl ?ywg8_11 ?rwg8_11
  case ywg8_11 =>
    refine StepS.call ?fwg8_11 ?awg8_11 [] (by kernel_rfl) (by rfl) (fun w9 => ?hwg8_11) (fun L9 m9 w9 hSh hAt hDn hS => ?cwg8_11)
    case hwg8_11 => go_simp; refine ⟨?_, ?_⟩ <;> rfl
    case cwg8_11 =>
      have hT : Below _ _ w9 := hS
      refine (cname_any t w9).mono ?_
      rintro e w8 ⟨rfl, q8⟩
      exact ⟨rfl, bl_ca hT q8⟩
  try simp only [Act.put, sA, sZ, sS]
  refine Ps.st (i := 3) (d := some 8) (u := (.string s)) rfl rfl ?ywg8_12 ?rwg8_12
  case ywg8_12 =>
    refine StepS.read [] (by kernel_rfl) nP (by rfl) (fun L9 m9 w9 hSh hAt hDn hS => ?_)
    have hT : Below _ _ w9 := hS
    have x0 : w9.cell? ⟨gb, 0, none⟩ = some (.string s) := ce b1 hT
    clear hT hS
    go_simp
    try rfl
  try simp only [Act.put, sA, sZ, sS]
  refine Ps.st (i := 4) (d := some 9) (u := (.bool ((t.name.toList == s.toList)))) rfl rfl (by exact StepS.pure nP rfl fun _ => rfl) ?_
  try simp only [Act.put, sA, sZ, sS]
  refine Ps.st (i := 5) (d := some 4) (u := (.bool ((t.name.toList == s.toList)))) rfl rfl (by exact StepS.pure nP rfl fun _ => rfl) ?_
  try simp only [Act.put, sA, sZ, sS]
  refine Ps.done (by kernel_rfl) (fun wg8 hS => ?_) _
  have HT1 := Lib.hid (show Below w1.heap.size w1 wg8 from hS)
  clear hS
  obtain ⟨w2, rfl⟩ : ∃ x, x = wg8 := ⟨_, rfl⟩
  clear a1 b1
  go_wp2
  go_ret
  exact ⟨ret_bool HR.out, bl_ca HQ.out HT1.out⟩
/-- the answer of a look-up -/
def fnd (i : Int) : Int := max i 0
set_option maxRecDepth 100000 in
set_option maxHeartbeats 4000000 in
theorem findT_any (F : Nat → Prop) (l : List TC) (A : Option Addr) (m c : Nat) (s : ByteArray) (w : World) (h : LT3.rd w F A m l) (hm : m ≤ 9223372036854775807) :
    Calls Tryz.prog 51 #[.slice A m c, .func (.func 38) #[] #[], .string s] w fun e w' => e = .returned (.tuple #[.int .i64 (fnd (idxL (fun t => decide (t.name = s)) l)), .bool (decide (0 ≤ idxL (fun t : TC => decide (t.name = s)) l))]) ∧ Below w.heap.size w w' := by
  have q2 := bl_al (bl_al (Below.refl w.heap.size w) (.cells #[.func (.func 38) #[] #[]] 55)) (.cells #[.string s] 9)
  have h2 := Lay.rd_below h q2
  have a1 := ((Blk.new w 55 #[.func (.func 38) #[] #[]]).alloc (.cells #[.string s] 9)).cell 0
  have b1 := (Blk.new (w.alloc (.cells #[.func (.func 38) #[] #[]] 55)) 9 #[.string s]).cell 0
  rw [World.size_alloc] at b1
  have HQ := Lib.hid q2
  have HA := Lib.hid a1
  have HB := Lib.hid b1
  clear q2 h a1 b1
  go_enter Tryz.func51, Tryz.ntmps51
  go_wp2_with fail
  generalize (w.alloc (.cells #[.func (.func 38) #[] #[]] 55)).alloc (.cells #[.string s] 9) = w1 at *
  refine (indexT F A m c l 70 #[.pointer (some ⟨w.heap.size, 0, none⟩), .pointer (some ⟨w.heap.size + 1, 0, none⟩)] (fun t => decide (t.name = s)) w1 h2 hm (fun args w => enters_of Tryz.func70 (by kernel_rfl) rfl args w) (fun i t A n c B m d W b _ _ _ _ _ _ _ => findcT_any t A n c B m d _ _ s W (ce HA.out b) (ce HB.out b))).mono ?_
  rintro e w2 ⟨rfl, q2⟩
  have HQ2 := Lib.hid (bl_ca HQ.out q2)
  clear q2 HA HB HQ h2
  obtain ⟨z, hz⟩ : ∃ z, z = idxL (fun t : TC => decide (t.name = s)) l := ⟨_, rfl⟩
  rw [← hz]
  have HZ := Lib.hid hz
  clear hz
  go_wp2
  exact bodyPost_ret (results_tmp2 Tryz.results51 _ _ _) rfl ⟨by rw [← HZ.out]; rfl, HQ2.out⟩
set_option maxRecDepth 100000 in
set_option maxHeartbeats 4000000 in
theorem findO_any (F : Nat → Prop) (l : List CO) (A : Option Addr) (m c : Nat) (s : ByteArray) (w : World) (h : LCO.rd w F A m l) (hm : m ≤ 9223372036854775807) :
    Calls Tryz.prog 33 #[.slice A m c, .func (.func 34) #[] #[], .string s] w fun e w' => e = .returned (.tuple #[.int .i64 (fnd (idxL (fun t => decide (t.name = s)) l)), .bool (decide (0 ≤ idxL (fun t : CO => decide (t.name = s)) l))]) ∧ Below w.heap.size w w' := by
  have q2 := bl_al (bl_al (Below.refl w.heap.size w) (.cells #[.func (.func 34) #[] #[]] 73)) (.cells #[.string s] 9)
  have h2 := Lay.rd_below h q2
  have a1 := ((Blk.new w 73 #[.func (.func 34) #[] #[]]).alloc (.cells #[.string s] 9)).cell 0
  have b1 := (Blk.new (w.alloc (.cells #[.func (.func 34) #[] #[]] 73)) 9 #[.string s]).cell 0
  rw [World.size_alloc] at b1
  have HQ := Lib.hid q2
  have HA := Lib.hid a1
  have HB := Lib.hid b1
  clear q2 h a1 b1
  go_enter Tryz.func33, Tryz.ntmps33
  go_wp2_with fail
  generalize (w.alloc (.cells #[.func (.func 34) #[] #[]] 73)).alloc (.cells #[.string s] 9) = w1 at *
  refine (indexO F A m c l 57 #[.pointer (some ⟨w.heap.size, 0, none⟩), .pointer (some ⟨w.heap.size + 1, 0, none⟩)] (fun t => decide (t.name = s)) w1 h2 hm (fun args w => enters_of Tryz.func57 (by kernel_rfl) rfl args w) (fun i t W b _ => findcO_any t _ _ s W (ce HA.out b) (ce HB.out b))).mono ?_
  rintro e w2 ⟨rfl, q2⟩
  have HQ2 := Lib.hid (bl_ca HQ.out q2)
  clear q2 HA HB HQ h2
  obtain ⟨z, hz⟩ : ∃ z, z = idxL (fun t : CO => decide (t.name = s)) l := ⟨_, rfl⟩
  rw [← hz]
  have HZ := Lib.hid hz
  clear hz
  go_wp2
  exact bodyPost_ret (results_tmp2 Tryz.results33 _ _ _) rfl ⟨by rw [← HZ.out]; rfl, HQ2.out⟩
end Go.Proofs.YthgcdilkkldgjaaGreatDoor
/- The layer's word. Conditions: what the tables hold. -/
namespace Go.Proofs.YthgcdilkkldgjaaGreatDoor
open Go.RowKit
theorem kix0 (W : World) : Sem.run Tryz.prog (Instr.index 88 (.agg #[.string sBool, .int .i64 1, .string sInt, .int .i64 2, .string sText, .int .i64 3]) (.int .i64 0)) W = .ok (.agg #[.string sBool, .int .i64 1]) W := by kernel_rfl
theorem kix1 (W : World) : Sem.run Tryz.prog (Instr.index 88 (.agg #[.string sBool, .int .i64 1, .string sInt, .int .i64 2, .string sText, .int .i64 3]) (.int .i64 1)) W = .ok (.agg #[.string sInt, .int .i64 2]) W := by kernel_rfl
theorem kix2 (W : World) : Sem.run Tryz.prog (Instr.index 88 (.agg #[.string sBool, .int .i64 1, .string sInt, .int .i64 2, .string sText, .int .i64 3]) (.int .i64 2)) W = .ok (.agg #[.string sText, .int .i64 3]) W := by kernel_rfl
set_option maxRecDepth 100000 in
set_option maxHeartbeats 1000000 in
theorem word_any (k : Int) (w : World) (hT : Tab w) : Calls Tryz.prog 40 #[.int .i64 k] w fun e w' => e = .returned (.string (wordS k)) ∧ Below w.heap.size w w' := by
  have HR := Lib.hid (show wordS k = if k = 1 then sBool else if k = 2 then sInt else if k = 3 then sText else ⟨#[]⟩ from rfl)
  generalize wordS k = r at *
  have k0 := hT.k0
  have k1 := hT.k1
  have k2 := hT.k2
  have k3 := hT.k3
  have k4 := hT.k4
  have k5 := hT.k5
  clear hT
  go_enter Tryz.func40, Tryz.ntmps40
  go_wp2_with fail
  clear k0 k1 k2 k3 k4 k5
  go_loopg [6] 3 (fun g s wr => ∃ (i : Nat), i + g ≤ 3 ∧ 3 ≤ i + g ∧ s = .int .i64 i ∧ (∀ j : Nat, j < i → k ≠ ((j + 1 : Nat) : Int)) ∧ Below w.heap.size w wr)
  case atStart => exact ⟨0, by omega, by omega, rfl, fun j hj => by omega, Below.refl _ _⟩
  case round =>
    obtain ⟨i, hi1, hi2, rfl, hne, hb⟩ := hrel
    have HNE := Lib.hid hne
    have HB := Lib.hid hb
    clear hne hb
    rcases (show i = 0 ∨ i = 1 ∨ i = 2 ∨ i = 3 from by omega) with rfl | rfl | rfl | rfl
    · have hw := kix0 wr
      by_cases h : k = 1
      · have e1 : ((1 : Int) == k) = true := by simp; omega
        have HQ := Lib.hid (show r = sBool from by rw [HR.out, if_pos h])
        clear h
        go_wp2
        go_ret
        exact ⟨by rw [HQ.out]; rfl, bl_al HB.out _⟩
      · have e1 : ((1 : Int) == k) = false := by simp; omega
        have HN := Lib.hid (show ∀ j : Nat, j < 1 → k ≠ ((j + 1 : Nat) : Int) from fun j hj => by omega)
        clear h
        go_wp2_with fail
        go_roundg (gk - 1)
        · exact ⟨1, by omega, by omega, by go_num, HN.out, bl_al HB.out _⟩
        · omega
    · have hw := kix1 wr
      have h1 := HNE.out 0 (by omega)
      by_cases h : k = 2
      · have e1 : ((2 : Int) == k) = true := by simp; omega
        have HQ := Lib.hid (show r = sInt from by rw [HR.out, if_neg (by omega), if_pos h])
        clear h h1
        go_wp2
        go_ret
        exact ⟨by rw [HQ.out]; rfl, bl_al HB.out _⟩
      · have e1 : ((2 : Int) == k) = false := by simp; omega
        have HN := Lib.hid (show ∀ j : Nat, j < 2 → k ≠ ((j + 1 : Nat) : Int) from fun j hj => by omega)
        clear h h1
        go_wp2_with fail
        go_roundg (gk - 1)
        · exact ⟨2, by omega, by omega, by go_num, HN.out, bl_al HB.out _⟩
        · omega
    · have hw := kix2 wr
      have h1 := HNE.out 0 (by omega)
      have h2 := HNE.out 1 (by omega)
      by_cases h : k = 3
      · have e1 : ((3 : Int) == k) = true := by simp; omega
        have HQ := Lib.hid (show r = sText from by rw [HR.out, if_neg (by omega), if_neg (by omega), if_pos h])
        clear h h1 h2
        go_wp2
        go_ret
        exact ⟨by rw [HQ.out]; rfl, bl_al HB.out _⟩
      · have e1 : ((3 : Int) == k) = false := by simp; omega
        have HN := Lib.hid (show ∀ j : Nat, j < 3 → k ≠ ((j + 1 : Nat) : Int) from fun j hj => by omega)
        clear h h1 h2
        go_wp2_with fail
        go_roundg (gk - 1)
        · exact ⟨3, by omega, by omega, by go_num, HN.out, bl_al HB.out _⟩
        · omega
    · have h1 := HNE.out 0 (by omega)
      have h2 := HNE.out 1 (by omega)
      have h3 := HNE.out 2 (by omega)
      have HQ := Lib.hid (show r = ⟨#[]⟩ from by rw [HR.out, if_neg (by omega), if_neg (by omega), if_neg (by omega)])
      clear h1 h2 h3
      go_wp2
      go_ret
      exact ⟨by rw [HQ.out]; rfl, HB.out⟩
end Go.Proofs.YthgcdilkkldgjaaGreatDoor
