/- NetDoes, walked. Conditions: the net's slice reads as these parcels, the row as these ops. -/
import Derived.Test.YtnbcffnhgijmcaaPkD20
namespace Go.Proofs.Ytnbcffnhgijmcaa
open Go.RowKit
theorem inj_lres {s : Int} {A A' : Option Addr} {m c m' c' : Nat} {cs : Array Value} (h : Value.agg #[.int .u64 s, .slice A m c] = .agg cs) (h' : cs.toList = [.int .u64 s, .slice A' m' c']) : A = A' ∧ m = m' ∧ c = c' := by
  injection h with h
  subst h
  simp at h'
  exact h'
theorem inj_told {a1 a2 a3 a4 a5 b1 b2 b3 b4 b5 : Int} {x y : Bool} {A A' D D' : Option Addr} {m c n d m' c' n' d' : Nat} {u v u' v' : Int} (h : Value.agg #[.int .u64 a1, .slice A m c, .int .u64 a2, .int .u64 a3, .int .i64 a4, .int .i64 a5, .slice D n d, .bool x, .int .i64 u, .int .i64 v] = .agg #[.int .u64 b1, .slice A' m' c', .int .u64 b2, .int .u64 b3, .int .i64 b4, .int .i64 b5, .slice D' n' d', .bool y, .int .i64 u', .int .i64 v']) :
    A = A' ∧ m = m' ∧ c = c' ∧ D = D' ∧ n = n' ∧ d = d' := by
  simp at h
  obtain ⟨_, ⟨e1, e2, e3⟩, _, _, _, _, ⟨e4, e5, e6⟩, _⟩ := h
  exact ⟨e1, e2, e3, e4, e5, e6⟩
theorem xor_vb (x : UInt8) : Value.int .u8 (bits BinOp.xor IntKind.u8 (x.toNat : Int) 238) = vb (x ^^^ 238) := by
  have h1 := u8_xor_nat x.toNat 238 x.toNat_lt (by decide)
  rw [show ((238 : Nat) : Int) = 238 from rfl] at h1
  rw [h1]
  show _ = Value.int .u8 ((x ^^^ 238).toNat : Int)
  rw [UInt8.toNat_xor]
  rfl
theorem sameP_self (p : PC) : sameP p p = true := by unfold sameP; simp
set_option maxRecDepth 100000 in
set_option maxHeartbeats 64000000 in
theorem does_any (sent : Int) (A0 : Option Addr) (m0 c0 : Nat) (ps0 : List PC) (lA : Option Addr) (ln lc : Nat) (os : List OpC) (w : World) (h : LP.rd w AllB A0 m0 ps0) (hm : m0 ≤ 9223372036854775807) (hs0 : 0 ≤ sent) (hl : LO.rd w AllB lA ln os) (_hlm : ln ≤ 9223372036854775807) (_r : ∀ a ∈ os, True) :
    Calls Try.prog 5 #[.agg #[.int .u64 sent, .slice A0 m0 c0], .slice lA ln lc] w fun e w' => e = .returned (.bool true) ∧ Below w.heap.size w w' := by
  have HL := Lib.hid hl
  have HBR0 := Lib.hid (brief_short ps0)
  have HS0 := Lib.hid (fun W h => short_any sent A0 m0 c0 ps0 W h hm)
  generalize shortP ps0 = qs at *
  clear hl
  have b1 := bl_al (Below.refl w.heap.size w) (.cells #[.int .u64 sent, .slice A0 m0 c0] 26)
  have bN := Blk.new w 26 #[.int .u64 sent, .slice A0 m0 c0]
  have HR := Lib.hid (Lay.rd_below h b1)
  clear h
  go_enter Try.func5, Try.ntmps5
  go_wp2_with fail
  generalize w.alloc (.cells #[.int .u64 sent, .slice A0 m0 c0] 26) = w1 at *
  refine (wakes_any _).mono ?_
  rintro e w2 ⟨rfl, q2⟩
  have x0 : w2.cell? ⟨w.heap.size, 0, none⟩ = some (.int .u64 sent) := (bN.ca q2).cell 0
  have x1 : w2.cell? ⟨w.heap.size, 1, none⟩ = some (.slice A0 m0 c0) := (bN.ca q2).cell 1
  have HB2 := Lib.hid (bl_ca b1 q2)
  replace HR := Lib.hid (Lay.rd_below HR.out q2)
  clear q2 b1 bN
  go_wp2_with fail
  refine (HS0.out _ HR.out).mono ?_
  rintro e w3 ⟨A2, m2, c2, rfl, ho, q3⟩
  have hm2 : m2 ≤ 20001 := by have := ho.len; have := brief_len HBR0.out; omega
  have q4 := bl_al (Below.refl w3.heap.size w3) (.cells #[.int .u64 sent, .slice A2 m2 c2] 26)
  have H50 := Lib.hid (Blk.new w3 26 #[.int .u64 sent, .slice A2 m2 c2])
  have HR50 := Lib.hid (Lay.rd_below (Lay.rd_weak (G := fun b => b ≠ w3.heap.size) (fun b _ hb e => by omega) (ho.rd (F := AllB) (fun _ _ => trivial))) q4)
  have HB50 := Lib.hid (bl_ca (bl_ca HB2.out q3) q4)
  have hg5 : w.heap.size ≤ w3.heap.size := (bl_ca HB2.out q3).size
  have hlt5 : w3.heap.size < (w3.alloc (.cells #[.int .u64 sent, .slice A2 m2 c2] 26)).heap.size := by simp only [World.size_alloc]; omega
  clear x0 x1 HR HS0 ho q3 q4 HB2
  go_wp2_with fail
  generalize w3.alloc (.cells #[.int .u64 sent, .slice A2 m2 c2] 26) = w4 at *
  generalize w3.heap.size = g5 at *
  go_loopg [21] ln (fun gz a wr => ∃ (i : Nat) (s : Int) (A : Option Addr) (m c : Nat) (ps : List PC), i + gz = ln ∧ i ≤ 30 ∧ a = .int .i64 i ∧ Below w.heap.size w wr ∧ Blk wr g5 26 #[.int .u64 s, .slice A m c] ∧ LP.rd wr (fun b => b ≠ g5) A m ps ∧ Brief ps ∧ 0 ≤ s)
  case atStart => exact ⟨0, sent, A2, m2, c2, qs, by omega, by omega, rfl, HB50.out, H50.out, HR50.out, HBR0.out, hs0⟩
  case round =>
    clear hm2 hlt5 HB50 H50 HR50 HBR0
    obtain ⟨i, s, A, m, c, ps, hig, hi30, rfl, hbw, h5, hr, hbr, hs1⟩ := hrel
    have HBW := Lib.hid hbw
    have H5 := Lib.hid h5
    have HBR := Lib.hid hbr
    have hml : m ≤ 20001 := by have := Lay.rd_len hr; have := brief_len hbr; omega
    by_cases hlt : i < ln
    · have hi1 : (i : Int) < (ln : Int) := by omega
      obtain ⟨ad, o, oA, on, oc, rfl, _, so⟩ := LO_at (Lay.rd_below HL.out hbw) hlt
      have e0 := so.c0
      have e1 := so.c1
      have e2 := so.c2
      have e3 := so.c3
      have e4 := so.c4
      have e5 := so.c5
      have e6 : wr.cell? ⟨(ad.add (i * 8)).block, (ad.add (i * 8)).off + 6, none⟩ = some (.int .u8 (o.by_.toNat : Int)) := so.c6
      have e7 := so.c7
      by_cases hie : i = 30
      · have hi2 : ((i : Int) == 30) = true := by simp; omega
        clear hbw h5 hr hbr hie so
        go_wp2
        go_ret
        exact ⟨rfl, bl_al HBW.out _⟩
      · have hi2 : ((i : Int) == 30) = false := by simp; omega
        have hi7 : i < 30 := by omega
        have q5 := bl_al (Below.refl wr.heap.size wr) (.cells #[.int .i64 o.kind, .int .i64 o.frm, .int .i64 o.to, .int .i64 o.at_, .int .i64 o.place, .bool o.oth, .int .u8 (o.by_.toNat : Int), .slice oA on oc] 49)
        have H7 := Lib.hid (Blk.new wr 49 #[.int .i64 o.kind, .int .i64 o.frm, .int .i64 o.to, .int .i64 o.at_, .int .i64 o.place, .bool o.oth, .int .u8 (o.by_.toNat : Int), .slice oA on oc])
        have HOB := Lib.hid (so.bs.below q5)
        have HSHX := Lib.hid (fun W h => short_any s A m c ps W h (by omega))
        rw [show shortP ps = ps from hbr] at HSHX
        have HSH := Lib.hid (fun A m c W h hm => short_any s A m c ps W h hm)
        rw [show shortP ps = ps from hbr] at HSH
        have ⟨hbT, hsT⟩ := run_brief (o := o) (ps := ps) hs1
        obtain ⟨T, hTT⟩ : ∃ T, T = runT o s ps := ⟨_, rfl⟩
        rw [← hTT] at hbT hsT
        have HRUN := Lib.hid (fun W h1 h2 => run_any o oA on oc s A m c ps W h1 (by omega) hs1 h2 so.nc so.cm)
        have HWANT := Lib.hid (fun A m c W h1 hm h2 => want_any o oA on oc s A m c ps W h1 hm hs1 h2 so.nc so.cm)
        rw [← hTT] at HRUN HWANT
        have HBT := Lib.hid hbT
        have x0 : (wr.alloc (.cells #[.int .i64 o.kind, .int .i64 o.frm, .int .i64 o.to, .int .i64 o.at_, .int .i64 o.place, .bool o.oth, .int .u8 (o.by_.toNat : Int), .slice oA on oc] 49)).cell? ⟨g5, 0, none⟩ = some (.int .u64 s) := (h5.ca q5).cell 0
        have x1 : (wr.alloc (.cells #[.int .i64 o.kind, .int .i64 o.frm, .int .i64 o.to, .int .i64 o.at_, .int .i64 o.place, .bool o.oth, .int .u8 (o.by_.toNat : Int), .slice oA on oc] 49)).cell? ⟨g5, 1, none⟩ = some (.slice A m c) := (h5.ca q5).cell 1
        replace H5 := Lib.hid (h5.ca q5)
        have HR := Lib.hid (Lay.rd_below hr q5)
        replace HBW := Lib.hid (bl_ca hbw q5)
        clear hbw h5 hr hbr hie so q5 hTT hbT
        go_wp2_with fail
        generalize wr.alloc (.cells #[.int .i64 o.kind, .int .i64 o.frm, .int .i64 o.to, .int .i64 o.at_, .int .i64 o.place, .bool o.oth, .int .u8 (o.by_.toNat : Int), .slice oA on oc] 49) = w5 at *
        generalize wr.heap.size = g7 at *
        clear e0 e1 e2 e3 e4 e5 e6 e7
        refine (HSHX.out w5 (Lay.rd_weak (fun _ _ _ => trivial) HR.out)).mono ?_
        clear HSHX x0 x1
        rintro e w6 ⟨A3, m3, c3, rfl, ho, q6⟩
        have q7 := bl_al (Below.refl w6.heap.size w6) (.cells #[.int .u64 s, .slice A3 m3 c3] 26)
        have q67 := bl_ca q6 (bl_al (Below.refl w6.heap.size w6) (.cells #[.int .u64 s, .slice A3 m3 c3] 26))
        have H8 := Lib.hid (Blk.new w6 26 #[.int .u64 s, .slice A3 m3 c3])
        have HRW := Lib.hid (Lay.rd_below (ho.rd (F := AllB) (fun _ _ => trivial)) q7)
        have HM3 := Lib.hid (Nat.le_trans (out_cap' ho).1 (out_cap' ho).2)
        replace H5 := Lib.hid (H5.out.ca q67)
        replace H7 := Lib.hid (H7.out.ca q67)
        have HRn := Lib.hid (Lay.rd_below HR.out q67)
        replace HR := Lib.hid (Lay.rd_weak (G := AllB) (fun _ _ _ => trivial) (Lay.rd_below HR.out q67))
        replace HOB := Lib.hid (HOB.out.below q67)
        replace HBW := Lib.hid (bl_ca HBW.out q67)
        have h5l := H5.out.lt
        have h8l := H8.out.lt
        have hw7 := HBW.out.size
        clear q6 q7 q67 ho
        go_wp2_with fail
        generalize w6.alloc (.cells #[.int .u64 s, .slice A3 m3 c3] 26) = w7 at *
        generalize w6.heap.size = g8 at *
        refine wp_region_psF (F := fun a a' w' => ∃ g9 g10 A5 m5 c5 tA tm tc tD tn td uA um uc uD un ud, a' = (((((((((a.put (some 30) (.agg #[.int .i64 o.kind, .int .i64 o.frm, .int .i64 o.to, .int .i64 o.at_, .int .i64 o.place, .bool o.oth, .int .u8 (o.by_.toNat : Int), .slice oA on oc])).put (some 31) (.agg #[.int .u64 s, .slice A m c])).put (some 32) (.agg #[.int .u64 T.s, .slice tA tm tc, .int .u64 T.num, .int .u64 T.p.num, .int .i64 T.p.frm, .int .i64 T.p.to, .slice tD tn td, .bool T.p.sp, .int .i64 T.gone, .int .i64 T.e])).put (some 33) (.agg #[.int .i64 o.kind, .int .i64 o.frm, .int .i64 o.to, .int .i64 o.at_, .int .i64 o.place, .bool o.oth, .int .u8 (o.by_.toNat : Int), .slice oA on oc])).put (some 34) (.agg #[.int .u64 s, .slice A3 m3 c3])).put (some 35) (.agg #[.int .u64 s, .slice A5 m5 c5])).put (some 36) (.agg #[.int .u64 T.s, .slice uA um uc, .int .u64 T.num, .int .u64 T.p.num, .int .i64 T.p.frm, .int .i64 T.p.to, .slice uD un ud, .bool T.p.sp, .int .i64 T.gone, .int .i64 T.e])).put (some 9) (.pointer (some ⟨g9, 0, none⟩))).put (some 10) (.pointer (some ⟨g10, 0, none⟩))) ∧ Blk w' g9 51 #[.int .u64 T.s, .slice tA tm tc, .int .u64 T.num, .int .u64 T.p.num, .int .i64 T.p.frm, .int .i64 T.p.to, .slice tD tn td, .bool T.p.sp, .int .i64 T.gone, .int .i64 T.e] ∧ Blk w' g10 51 #[.int .u64 T.s, .slice uA um uc, .int .u64 T.num, .int .u64 T.p.num, .int .i64 T.p.frm, .int .i64 T.p.to, .slice uD un ud, .bool T.p.sp, .int .i64 T.gone, .int .i64 T.e] ∧ RunR w7.heap.size T (.agg #[.int .u64 T.s, .slice tA tm tc, .int .u64 T.num, .int .u64 T.p.num, .int .i64 T.p.frm, .int .i64 T.p.to, .slice tD tn td, .bool T.p.sp, .int .i64 T.gone, .int .i64 T.e]) (fun b => b ≠ g9) w' ∧ WantR T (.agg #[.int .u64 T.s, .slice uA um uc, .int .u64 T.num, .int .u64 T.p.num, .int .i64 T.p.frm, .int .i64 T.p.to, .slice uD un ud, .bool T.p.sp, .int .i64 T.gone, .int .i64 T.e]) AllB w' ∧ w7.heap.size ≤ g9 ∧ Below w7.heap.size w7 w') (S := TwoS w7 5 2 6 7 8 51 51 #[.int .u64 0, .slice none 0 0, .int .u64 0, .int .u64 0, .int .i64 0, .int .i64 0, .slice none 0 0, .bool false, .int .i64 0, .int .i64 0] #[.int .u64 0, .slice none 0 0, .int .u64 0, .int .u64 0, .int .i64 0, .int .i64 0, .slice none 0 0, .bool false, .int .i64 0, .int .i64 0] (LRes LNt (fun a => a = (s, ps))) (RunR w7.heap.size T) (WantR T) 9 10) (by kernel_rfl) ?spsw9q ?ppsw9q ?kpsw9q
        case spsw9q =>
          exact TwoS.start (by rfl) (.inl (by decide))
        case ppsw9q =>
          refine Ps.step (i := 0) (d := some 30) (u := ?uw9q_1) rfl rfl (by kernel_rfl) (by kernel_rfl) (by kernel_rfl) (by kernel_rfl) ?yw9q_1 ?rw9q_1
          case yw9q_1 =>
            refine StepS.read [] (by kernel_rfl) (TwoS.pass (by decide)) (by rfl) (fun L9 m9 w9 hSh hAt hDn hS => ?_)
            have hT := TwoS.any hS
            have x0 : w9.cell? ⟨g7, 0, none⟩ = some (.int .i64 o.kind) := (H7.out.ca hT).cell 0
            have x1 : w9.cell? ⟨g7, 1, none⟩ = some (.int .i64 o.frm) := (H7.out.ca hT).cell 1
            have x2 : w9.cell? ⟨g7, 2, none⟩ = some (.int .i64 o.to) := (H7.out.ca hT).cell 2
            have x3 : w9.cell? ⟨g7, 3, none⟩ = some (.int .i64 o.at_) := (H7.out.ca hT).cell 3
            have x4 : w9.cell? ⟨g7, 4, none⟩ = some (.int .i64 o.place) := (H7.out.ca hT).cell 4
            have x5 : w9.cell? ⟨g7, 5, none⟩ = some (.bool o.oth) := (H7.out.ca hT).cell 5
            have x6 : w9.cell? ⟨g7, 6, none⟩ = some (.int .u8 (o.by_.toNat : Int)) := (H7.out.ca hT).cell 6
            have x7 : w9.cell? ⟨g7, 7, none⟩ = some (.slice oA on oc) := (H7.out.ca hT).cell 7
            clear hT hS
            go_simp
            try rfl
          try simp only [Act.put, List.setIfInBounds_toArray, List.set_cons_zero, List.set_cons_succ]
          refine Ps.step (i := 1) (d := some 31) (u := ?uw9q_2) rfl rfl (by kernel_rfl) (by kernel_rfl) (by kernel_rfl) (by kernel_rfl) ?yw9q_2 ?rw9q_2
          case yw9q_2 =>
            refine StepS.read [] (by kernel_rfl) (TwoS.pass (by decide)) (by rfl) (fun L9 m9 w9 hSh hAt hDn hS => ?_)
            have hT := TwoS.any hS
            have x0 : w9.cell? ⟨g5, 0, none⟩ = some (.int .u64 s) := (H5.out.ca hT).cell 0
            have x1 : w9.cell? ⟨g5, 1, none⟩ = some (.slice A m c) := (H5.out.ca hT).cell 1
            clear hT hS
            go_simp
            try rfl
          try simp only [Act.put, List.setIfInBounds_toArray, List.set_cons_zero, List.set_cons_succ]
          refine Ps.step (i := 3) (d := some 33) (u := ?uw9q_3) rfl rfl (by kernel_rfl) (by kernel_rfl) (by kernel_rfl) (by kernel_rfl) ?yw9q_3 ?rw9q_3
          case yw9q_3 =>
            refine StepS.read [] (by kernel_rfl) (TwoS.pass (by decide)) (by rfl) (fun L9 m9 w9 hSh hAt hDn hS => ?_)
            have hT := TwoS.any hS
            have x0 : w9.cell? ⟨g7, 0, none⟩ = some (.int .i64 o.kind) := (H7.out.ca hT).cell 0
            have x1 : w9.cell? ⟨g7, 1, none⟩ = some (.int .i64 o.frm) := (H7.out.ca hT).cell 1
            have x2 : w9.cell? ⟨g7, 2, none⟩ = some (.int .i64 o.to) := (H7.out.ca hT).cell 2
            have x3 : w9.cell? ⟨g7, 3, none⟩ = some (.int .i64 o.at_) := (H7.out.ca hT).cell 3
            have x4 : w9.cell? ⟨g7, 4, none⟩ = some (.int .i64 o.place) := (H7.out.ca hT).cell 4
            have x5 : w9.cell? ⟨g7, 5, none⟩ = some (.bool o.oth) := (H7.out.ca hT).cell 5
            have x6 : w9.cell? ⟨g7, 6, none⟩ = some (.int .u8 (o.by_.toNat : Int)) := (H7.out.ca hT).cell 6
            have x7 : w9.cell? ⟨g7, 7, none⟩ = some (.slice oA on oc) := (H7.out.ca hT).cell 7
            clear hT hS
            go_simp
            try rfl
          try simp only [Act.put, List.setIfInBounds_toArray, List.set_cons_zero, List.set_cons_succ]
          refine Ps.step (i := 4) (d := some 34) (u := ?uw9q_4) rfl rfl (by kernel_rfl) (by kernel_rfl) (by kernel_rfl) (by kernel_rfl) ?yw9q_4 ?rw9q_4
          case yw9q_4 =>
            refine StepS.read [] (by kernel_rfl) (TwoS.pass (by decide)) (by rfl) (fun L9 m9 w9 hSh hAt hDn hS => ?_)
            have hT := TwoS.any hS
            have x0 : w9.cell? ⟨g8, 0, none⟩ = some (.int .u64 s) := (H8.out.ca hT).cell 0
            have x1 : w9.cell? ⟨g8, 1, none⟩ = some (.slice A3 m3 c3) := (H8.out.ca hT).cell 1
            clear hT hS
            go_simp
            try rfl
          try simp only [Act.put, List.setIfInBounds_toArray, List.set_cons_zero, List.set_cons_succ]
          refine Ps.some3 (i := 2) (j := 7) (k := 8) (by kernel_rfl) ?tw9q_5_2 ?tw9q_5_7 ?tw9q_5_8
          case tw9q_5_2 =>
            refine Turns.mk (d := some 32) rfl rfl (TurnS.call (V := fun v => ∃ tA tm tc tD tn td, v = .agg #[.int .u64 T.s, .slice tA tm tc, .int .u64 T.num, .int .u64 T.p.num, .int .i64 T.p.frm, .int .i64 T.p.to, .slice tD tn td, .bool T.p.sp, .int .i64 T.gone, .int .i64 T.e]) ?fw9q_5_2 ?aw9q_5_2 [] (by kernel_rfl) (by rfl) (fun w9 => ?hw9q_5_2) (fun L9 m9 w9 hSh hAt hDn hS => ?cw9q_5_2)) (fun v2 hVv2 => ?rw9q_5_2)
            case hw9q_5_2 => go_simp; refine ⟨?_, ?_⟩ <;> rfl
            case cw9q_5_2 =>
              have hs1 := reach_no hSh (f := 11) (j := 9) (d := 2) (by kernel_rfl) hDn
              have hs2 := reach_no hSh (f := 11) (j := 10) (d := 2) (by kernel_rfl) hDn
              have hT := TwoS.any hS
              refine (HRUN.out w9 (Lay.rd_below HR.out hT) (RdB.below HOB.out hT)).mono ?_
              rintro e w8 ⟨A2, m2, c2, D2, n2, d2, rfl, ho, q8⟩
              exact ⟨_, rfl, ⟨A2, m2, c2, D2, n2, d2, rfl⟩, TwoS.call hS (LRes.res _ _) (RunR.res _ _) (WantR.res _) hs1 hs2 (by decide) q8 (fun e => absurd e (by decide)) (fun _ => RunR.of ho hT.size (fun b hb => (hS.at0 hs1).avoid (.inr hb))) (fun e => absurd e (by decide))⟩
            try simp only [Act.put, List.setIfInBounds_toArray, List.set_cons_zero, List.set_cons_succ]
            obtain ⟨tA, tm, tc, tD, tn, td, rfl⟩ := hVv2
            refine Ps.some3 (i := 5) (j := 7) (k := 8) (by kernel_rfl) ?tw9q_6_5 ?tw9q_6_7 ?tw9q_6_8
            case tw9q_6_5 =>
              refine Turns.mk (d := some 35) rfl rfl (TurnS.call (V := fun v => ∃ A m c, v = .agg #[.int .u64 s, .slice A m c]) ?fw9q_6_5 ?aw9q_6_5 [] (by kernel_rfl) (by rfl) (fun w9 => ?hw9q_6_5) (fun L9 m9 w9 hSh hAt hDn hS => ?cw9q_6_5)) (fun v5 hVv5 => ?rw9q_6_5)
              case hw9q_6_5 => go_simp; refine ⟨?_, ?_⟩ <;> rfl
              case cw9q_6_5 =>
                have hs1 := reach_no hSh (f := 11) (j := 9) (d := 5) (by kernel_rfl) hDn
                have hs2 := reach_no hSh (f := 11) (j := 10) (d := 5) (by kernel_rfl) hDn
                have hT := TwoS.any hS
                refine (HSH.out A3 m3 c3 w9 (Lay.rd_below HRW.out hT) HM3.out).mono ?_
                rintro e w8 ⟨A2, m2, c2, rfl, ho, q8⟩
                have rd : LP.rd w8 (Av 7 8 m9) A2 m2 ps := ho.rd (fun b hb => (hS.at0 hs1).avoid (.inr hb))
                have hcap := out_cap' ho
                exact ⟨_, rfl, ⟨A2, m2, c2, rfl⟩, TwoS.call hS (LRes.res _ _) (RunR.res _ _) (WantR.res _) hs1 hs2 (by decide) q8 (fun _ => ⟨(s, ps), _, rfl, ⟨A2, m2, c2, rfl, hcap.1, hcap.2, rd⟩, rfl⟩) (fun e => absurd e (by decide)) (fun e => absurd e (by decide))⟩
              try simp only [Act.put, List.setIfInBounds_toArray, List.set_cons_zero, List.set_cons_succ]
              obtain ⟨A5, m5, c5, rfl⟩ := hVv5
              refine Ps.some3 (i := 6) (j := 7) (k := 8) (by kernel_rfl) ?tw9q_7_6 ?tw9q_7_7 ?tw9q_7_8
              case tw9q_7_6 =>
                refine Turns.mk (d := some 36) rfl rfl (TurnS.call (V := fun v => ∃ uA um uc uD un ud, v = .agg #[.int .u64 T.s, .slice uA um uc, .int .u64 T.num, .int .u64 T.p.num, .int .i64 T.p.frm, .int .i64 T.p.to, .slice uD un ud, .bool T.p.sp, .int .i64 T.gone, .int .i64 T.e]) ?fw9q_7_6 ?aw9q_7_6 [5] (by kernel_rfl) (by rfl) (fun w9 => ?hw9q_7_6) (fun L9 m9 w9 hSh hAt hDn hS => ?cw9q_7_6)) (fun v6 hVv6 => ?rw9q_7_6)
                case hw9q_7_6 => go_simp; refine ⟨?_, ?_⟩ <;> rfl
                case cw9q_7_6 =>
                  have hs1 := reach_no hSh (f := 11) (j := 9) (d := 6) (by kernel_rfl) hDn
                  have hs2 := reach_no hSh (f := 11) (j := 10) (d := 6) (by kernel_rfl) hDn
                  have hT := TwoS.any hS
                  obtain ⟨a0, cs0, he0, ⟨A2, m2, c2, hcs, hc1, hc2, hr0⟩, rfl⟩ := (hS.at0 hs1).r0 (hAt 5 (by simp)).1
                  obtain ⟨rfl, rfl, rfl⟩ : A5 = A2 ∧ m5 = m2 ∧ c5 = c2 := by have h9 := (hAt 5 (by simp)).2.symm.trans he0; exact inj_lres h9 hcs
                  refine (HWANT.out A5 m5 c5 w9 (Lay.rd_weak (fun _ _ _ => trivial) hr0) (Nat.le_trans hc1 hc2) (RdB.below HOB.out hT)).mono ?_
                  rintro e w8 ⟨A2, m2, c2, D2, n2, d2, rfl, ho, q8⟩
                  exact ⟨_, rfl, ⟨A2, m2, c2, D2, n2, d2, rfl⟩, TwoS.call hS (LRes.res _ _) (RunR.res _ _) (WantR.res _) hs1 hs2 (by decide) q8 (fun e => absurd e (by decide)) (fun e => absurd e (by decide)) (fun _ => WantR.of ho (fun b hb => (hS.at0 hs1).avoid (.inr hb)))⟩
                try simp only [Act.put, List.setIfInBounds_toArray, List.set_cons_zero, List.set_cons_succ]
                obtain ⟨uA, um, uc, uD, un, ud, rfl⟩ := hVv6
                refine Ps.some2 (i := 7) (j := 8) (by kernel_rfl) ?tw9q_8_7 ?tw9q_8_8
                case tw9q_8_7 =>
                  refine Turns.mk (d := some 9) rfl rfl (TurnS.value (V := fun v => ∃ g, v = .pointer (some ⟨g, 0, none⟩)) [] (by kernel_rfl) (by rfl) (fun L9 m9 w9 hSh hAt hDn hS => ?cw9q_8_7)) (fun v7 hVv7 => ?rw9q_8_7)
                  case cw9q_8_7 =>
                    have hs1 := reach_no hSh (f := 11) (j := 9) (d := 7) (by kernel_rfl) hDn
                    have hs2 := reach_no hSh (f := 11) (j := 10) (d := 7) (by kernel_rfl) hDn
                    refine ⟨.pointer (some ⟨w9.heap.size, 0, none⟩), w9.alloc (.cells #[.int .u64 0, .slice none 0 0, .int .u64 0, .int .u64 0, .int .i64 0, .int .i64 0, .slice none 0 0, .bool false, .int .i64 0, .int .i64 0] 51), ?_, ⟨_, rfl⟩, TwoS.make1 hS (LRes.res _ _) (RunR.res _ _) (WantR.res _) hs1 hs2 (by decide)⟩
                    clear hS
                    go_simp
                    try rfl
                  try simp only [Act.put, List.setIfInBounds_toArray, List.set_cons_zero, List.set_cons_succ]
                  obtain ⟨g9, rfl⟩ := hVv7
                  refine Ps.some1 (i := 8) (by kernel_rfl) ?tw9q_9_8
                  case tw9q_9_8 =>
                    refine Turns.mk (d := some 10) rfl rfl (TurnS.value (V := fun v => ∃ g, v = .pointer (some ⟨g, 0, none⟩)) [] (by kernel_rfl) (by rfl) (fun L9 m9 w9 hSh hAt hDn hS => ?cw9q_9_8)) (fun v8 hVv8 => ?rw9q_9_8)
                    case cw9q_9_8 =>
                      have hs1 := reach_no hSh (f := 11) (j := 9) (d := 8) (by kernel_rfl) hDn
                      have hs2 := reach_no hSh (f := 11) (j := 10) (d := 8) (by kernel_rfl) hDn
                      refine ⟨.pointer (some ⟨w9.heap.size, 0, none⟩), w9.alloc (.cells #[.int .u64 0, .slice none 0 0, .int .u64 0, .int .u64 0, .int .i64 0, .int .i64 0, .slice none 0 0, .bool false, .int .i64 0, .int .i64 0] 51), ?_, ⟨_, rfl⟩, TwoS.make2 hS (LRes.res _ _) (RunR.res _ _) (WantR.res _) hs1 hs2 (by decide)⟩
                      clear hS
                      go_simp
                      try rfl
                    try simp only [Act.put, List.setIfInBounds_toArray, List.set_cons_zero, List.set_cons_succ]
                    obtain ⟨g10, rfl⟩ := hVv8
                    refine Ps.step (i := 9) (d := none) (u := undef) rfl rfl (by kernel_rfl) (by kernel_rfl) (by kernel_rfl) (by kernel_rfl) ?yw9q_10 ?rw9q_10
                    case yw9q_10 =>
                      refine StepS.store [2, 6, 7, 8] (by kernel_rfl) (by rfl) (fun L9 m9 w9 hSh hAt hDn hS => ?_)
                      have hs2 := reach_no hSh (f := 11) (j := 10) (d := 9) (by kernel_rfl) hDn
                      obtain ⟨p1, p2, hB⟩ := TwoS.ready1 hS hDn (hAt 7 (by simp)).1 (hAt 8 (by simp)).1 (hAt 2 (by simp)).1 (hAt 6 (by simp)).1
                      obtain rfl : g9 = p1 := pt_inj ((hAt 7 (by simp)).2.symm.trans hB.e1)
                      refine (exec_store_blk (w := w9) 51 (.tmp 9) (.tmp 32) (by rfl) g9 51 #[.int .u64 0, .slice none 0 0, .int .u64 0, .int .u64 0, .int .i64 0, .int .i64 0, .slice none 0 0, .bool false, .int .i64 0, .int .i64 0] #[.int .u64 T.s, .slice tA tm tc, .int .u64 T.num, .int .u64 T.p.num, .int .i64 T.p.frm, .int .i64 T.p.to, .slice tD tn td, .bool T.p.sp, .int .i64 T.gone, .int .i64 T.e] (by rfl) (by rfl) hB.b1 rfl toldI (by simp [Value.oneCell'])).imp fun w7' hx => ⟨hx.1, TwoS.set1 hs2 (by decide) (hAt 2 (by simp)).2 (hB.store1 (RunR.res _ _) (WantR.res _) hx.2.1 hx.2.2)⟩
                    try simp only [Act.put]
                    refine Ps.step (i := 10) (d := none) (u := undef) rfl rfl (by kernel_rfl) (by kernel_rfl) (by kernel_rfl) (by kernel_rfl) ?yw9q_11 ?rw9q_11
                    case yw9q_11 =>
                      refine StepS.store [2, 6, 7, 8, 9] (by kernel_rfl) (by rfl) (fun L9 m9 w9 hSh hAt hDn hS => ?_)
                      obtain ⟨p1, p2, cc, hk, hB⟩ := TwoS.at1 hS (hAt 9 (by simp)).1 hDn
                      obtain rfl : g10 = p2 := pt_inj ((hAt 8 (by simp)).2.symm.trans hB.e2)
                      refine (exec_store_blk (w := w9) 51 (.tmp 10) (.tmp 36) (by rfl) g10 51 #[.int .u64 0, .slice none 0 0, .int .u64 0, .int .u64 0, .int .i64 0, .int .i64 0, .slice none 0 0, .bool false, .int .i64 0, .int .i64 0] #[.int .u64 T.s, .slice uA um uc, .int .u64 T.num, .int .u64 T.p.num, .int .i64 T.p.frm, .int .i64 T.p.to, .slice uD un ud, .bool T.p.sp, .int .i64 T.gone, .int .i64 T.e] (by rfl) (by rfl) hB.b2 rfl toldI (by simp [Value.oneCell'])).imp fun w7' hx => ⟨hx.1, TwoS.set2 (by decide) (hAt 9 (by simp)).1 hk (hAt 6 (by simp)).2 (hB.store2 (RunR.res _ _) (WantR.res _) hx.2.1 hx.2.2)⟩
                    try simp only [Act.put]
                    refine Ps.done (by kernel_rfl) (fun w9q hS => ?_) _
                    obtain ⟨p1, p2, d1, d2, hk1, hk2, hB⟩ := TwoS.fin hS (by rfl)
                    clear hS
                    obtain rfl : g9 = p1 := pt_inj hB.e1
                    obtain rfl : g10 = p2 := pt_inj hB.e2
                    have hk1 : Value.agg #[.int .u64 T.s, .slice tA tm tc, .int .u64 T.num, .int .u64 T.p.num, .int .i64 T.p.frm, .int .i64 T.p.to, .slice tD tn td, .bool T.p.sp, .int .i64 T.gone, .int .i64 T.e] = .agg d1 := hk1
                    have hk2 : Value.agg #[.int .u64 T.s, .slice uA um uc, .int .u64 T.num, .int .u64 T.p.num, .int .i64 T.p.frm, .int .i64 T.p.to, .slice uD un ud, .bool T.p.sp, .int .i64 T.gone, .int .i64 T.e] = .agg d2 := hk2
                    injection hk1 with hk1
                    injection hk2 with hk2
                    subst hk1 hk2
                    have hr1 : RunR w7.heap.size T (.agg #[.int .u64 T.s, .slice tA tm tc, .int .u64 T.num, .int .u64 T.p.num, .int .i64 T.p.frm, .int .i64 T.p.to, .slice tD tn td, .bool T.p.sp, .int .i64 T.gone, .int .i64 T.e]) (fun b => b ≠ g9) _ := (RunR.res _ _).weak (fun b hb _ e => by subst e; exact hb.1 hB.e1) hB.r1
                    have hr2 : WantR T (.agg #[.int .u64 T.s, .slice uA um uc, .int .u64 T.num, .int .u64 T.p.num, .int .i64 T.p.frm, .int .i64 T.p.to, .slice uD un ud, .bool T.p.sp, .int .i64 T.gone, .int .i64 T.e]) AllB _ := (WantR.res _).weak (fun _ _ _ => trivial) hB.r2
                    refine ⟨g9, g10, A5, m5, c5, tA, tm, tc, tD, tn, td, uA, um, uc, uD, un, ud, ?_, hB.b1, hB.b2, hr1, hr2, hB.l1, hB.bel⟩
                    rfl
                case tw9q_8_8 =>
                  refine Turns.mk (d := some 10) rfl rfl (TurnS.value (V := fun v => ∃ g, v = .pointer (some ⟨g, 0, none⟩)) [] (by kernel_rfl) (by rfl) (fun L9 m9 w9 hSh hAt hDn hS => ?cw9q_8_8)) (fun v8 hVv8 => ?rw9q_8_8)
                  case cw9q_8_8 =>
                    have hs1 := reach_no hSh (f := 11) (j := 9) (d := 8) (by kernel_rfl) hDn
                    have hs2 := reach_no hSh (f := 11) (j := 10) (d := 8) (by kernel_rfl) hDn
                    refine ⟨.pointer (some ⟨w9.heap.size, 0, none⟩), w9.alloc (.cells #[.int .u64 0, .slice none 0 0, .int .u64 0, .int .u64 0, .int .i64 0, .int .i64 0, .slice none 0 0, .bool false, .int .i64 0, .int .i64 0] 51), ?_, ⟨_, rfl⟩, TwoS.make2 hS (LRes.res _ _) (RunR.res _ _) (WantR.res _) hs1 hs2 (by decide)⟩
                    clear hS
                    go_simp
                    try rfl
                  try simp only [Act.put, List.setIfInBounds_toArray, List.set_cons_zero, List.set_cons_succ]
                  obtain ⟨g10, rfl⟩ := hVv8
                  refine Ps.some1 (i := 7) (by kernel_rfl) ?tw9q_12_7
                  case tw9q_12_7 =>
                    refine Turns.mk (d := some 9) rfl rfl (TurnS.value (V := fun v => ∃ g, v = .pointer (some ⟨g, 0, none⟩)) [] (by kernel_rfl) (by rfl) (fun L9 m9 w9 hSh hAt hDn hS => ?cw9q_12_7)) (fun v7 hVv7 => ?rw9q_12_7)
                    case cw9q_12_7 =>
                      have hs1 := reach_no hSh (f := 11) (j := 9) (d := 7) (by kernel_rfl) hDn
                      have hs2 := reach_no hSh (f := 11) (j := 10) (d := 7) (by kernel_rfl) hDn
                      refine ⟨.pointer (some ⟨w9.heap.size, 0, none⟩), w9.alloc (.cells #[.int .u64 0, .slice none 0 0, .int .u64 0, .int .u64 0, .int .i64 0, .int .i64 0, .slice none 0 0, .bool false, .int .i64 0, .int .i64 0] 51), ?_, ⟨_, rfl⟩, TwoS.make1 hS (LRes.res _ _) (RunR.res _ _) (WantR.res _) hs1 hs2 (by decide)⟩
                      clear hS
                      go_simp
                      try rfl
                    try simp only [Act.put, List.setIfInBounds_toArray, List.set_cons_zero, List.set_cons_succ]
                    obtain ⟨g9, rfl⟩ := hVv7
                    refine Ps.step (i := 9) (d := none) (u := undef) rfl rfl (by kernel_rfl) (by kernel_rfl) (by kernel_rfl) (by kernel_rfl) ?yw9q_13 ?rw9q_13
                    case yw9q_13 =>
                      refine StepS.store [2, 6, 7, 8] (by kernel_rfl) (by rfl) (fun L9 m9 w9 hSh hAt hDn hS => ?_)
                      have hs2 := reach_no hSh (f := 11) (j := 10) (d := 9) (by kernel_rfl) hDn
                      obtain ⟨p1, p2, hB⟩ := TwoS.ready1 hS hDn (hAt 7 (by simp)).1 (hAt 8 (by simp)).1 (hAt 2 (by simp)).1 (hAt 6 (by simp)).1
                      obtain rfl : g9 = p1 := pt_inj ((hAt 7 (by simp)).2.symm.trans hB.e1)
                      refine (exec_store_blk (w := w9) 51 (.tmp 9) (.tmp 32) (by rfl) g9 51 #[.int .u64 0, .slice none 0 0, .int .u64 0, .int .u64 0, .int .i64 0, .int .i64 0, .slice none 0 0, .bool false, .int .i64 0, .int .i64 0] #[.int .u64 T.s, .slice tA tm tc, .int .u64 T.num, .int .u64 T.p.num, .int .i64 T.p.frm, .int .i64 T.p.to, .slice tD tn td, .bool T.p.sp, .int .i64 T.gone, .int .i64 T.e] (by rfl) (by rfl) hB.b1 rfl toldI (by simp [Value.oneCell'])).imp fun w7' hx => ⟨hx.1, TwoS.set1 hs2 (by decide) (hAt 2 (by simp)).2 (hB.store1 (RunR.res _ _) (WantR.res _) hx.2.1 hx.2.2)⟩
                    try simp only [Act.put]
                    refine Ps.step (i := 10) (d := none) (u := undef) rfl rfl (by kernel_rfl) (by kernel_rfl) (by kernel_rfl) (by kernel_rfl) ?yw9q_14 ?rw9q_14
                    case yw9q_14 =>
                      refine StepS.store [2, 6, 7, 8, 9] (by kernel_rfl) (by rfl) (fun L9 m9 w9 hSh hAt hDn hS => ?_)
                      obtain ⟨p1, p2, cc, hk, hB⟩ := TwoS.at1 hS (hAt 9 (by simp)).1 hDn
                      obtain rfl : g10 = p2 := pt_inj ((hAt 8 (by simp)).2.symm.trans hB.e2)
                      refine (exec_store_blk (w := w9) 51 (.tmp 10) (.tmp 36) (by rfl) g10 51 #[.int .u64 0, .slice none 0 0, .int .u64 0, .int .u64 0, .int .i64 0, .int .i64 0, .slice none 0 0, .bool false, .int .i64 0, .int .i64 0] #[.int .u64 T.s, .slice uA um uc, .int .u64 T.num, .int .u64 T.p.num, .int .i64 T.p.frm, .int .i64 T.p.to, .slice uD un ud, .bool T.p.sp, .int .i64 T.gone, .int .i64 T.e] (by rfl) (by rfl) hB.b2 rfl toldI (by simp [Value.oneCell'])).imp fun w7' hx => ⟨hx.1, TwoS.set2 (by decide) (hAt 9 (by simp)).1 hk (hAt 6 (by simp)).2 (hB.store2 (RunR.res _ _) (WantR.res _) hx.2.1 hx.2.2)⟩
                    try simp only [Act.put]
                    refine Ps.done (by kernel_rfl) (fun w9q hS => ?_) _
                    obtain ⟨p1, p2, d1, d2, hk1, hk2, hB⟩ := TwoS.fin hS (by rfl)
                    clear hS
                    obtain rfl : g9 = p1 := pt_inj hB.e1
                    obtain rfl : g10 = p2 := pt_inj hB.e2
                    have hk1 : Value.agg #[.int .u64 T.s, .slice tA tm tc, .int .u64 T.num, .int .u64 T.p.num, .int .i64 T.p.frm, .int .i64 T.p.to, .slice tD tn td, .bool T.p.sp, .int .i64 T.gone, .int .i64 T.e] = .agg d1 := hk1
                    have hk2 : Value.agg #[.int .u64 T.s, .slice uA um uc, .int .u64 T.num, .int .u64 T.p.num, .int .i64 T.p.frm, .int .i64 T.p.to, .slice uD un ud, .bool T.p.sp, .int .i64 T.gone, .int .i64 T.e] = .agg d2 := hk2
                    injection hk1 with hk1
                    injection hk2 with hk2
                    subst hk1 hk2
                    have hr1 : RunR w7.heap.size T (.agg #[.int .u64 T.s, .slice tA tm tc, .int .u64 T.num, .int .u64 T.p.num, .int .i64 T.p.frm, .int .i64 T.p.to, .slice tD tn td, .bool T.p.sp, .int .i64 T.gone, .int .i64 T.e]) (fun b => b ≠ g9) _ := (RunR.res _ _).weak (fun b hb _ e => by subst e; exact hb.1 hB.e1) hB.r1
                    have hr2 : WantR T (.agg #[.int .u64 T.s, .slice uA um uc, .int .u64 T.num, .int .u64 T.p.num, .int .i64 T.p.frm, .int .i64 T.p.to, .slice uD un ud, .bool T.p.sp, .int .i64 T.gone, .int .i64 T.e]) AllB _ := (WantR.res _).weak (fun _ _ _ => trivial) hB.r2
                    refine ⟨g9, g10, A5, m5, c5, tA, tm, tc, tD, tn, td, uA, um, uc, uD, un, ud, ?_, hB.b1, hB.b2, hr1, hr2, hB.l1, hB.bel⟩
                    rfl
              case tw9q_7_7 =>
                refine Turns.mk (d := some 9) rfl rfl (TurnS.value (V := fun v => ∃ g, v = .pointer (some ⟨g, 0, none⟩)) [] (by kernel_rfl) (by rfl) (fun L9 m9 w9 hSh hAt hDn hS => ?cw9q_7_7)) (fun v7 hVv7 => ?rw9q_7_7)
                case cw9q_7_7 =>
                  have hs1 := reach_no hSh (f := 11) (j := 9) (d := 7) (by kernel_rfl) hDn
                  have hs2 := reach_no hSh (f := 11) (j := 10) (d := 7) (by kernel_rfl) hDn
                  refine ⟨.pointer (some ⟨w9.heap.size, 0, none⟩), w9.alloc (.cells #[.int .u64 0, .slice none 0 0, .int .u64 0, .int .u64 0, .int .i64 0, .int .i64 0, .slice none 0 0, .bool false, .int .i64 0, .int .i64 0] 51), ?_, ⟨_, rfl⟩, TwoS.make1 hS (LRes.res _ _) (RunR.res _ _) (WantR.res _) hs1 hs2 (by decide)⟩
                  clear hS
                  go_simp
                  try rfl
                try simp only [Act.put, List.setIfInBounds_toArray, List.set_cons_zero, List.set_cons_succ]
                obtain ⟨g9, rfl⟩ := hVv7
                refine Ps.some2 (i := 6) (j := 8) (by kernel_rfl) ?tw9q_15_6 ?tw9q_15_8
                case tw9q_15_6 =>
                  refine Turns.mk (d := some 36) rfl rfl (TurnS.call (V := fun v => ∃ uA um uc uD un ud, v = .agg #[.int .u64 T.s, .slice uA um uc, .int .u64 T.num, .int .u64 T.p.num, .int .i64 T.p.frm, .int .i64 T.p.to, .slice uD un ud, .bool T.p.sp, .int .i64 T.gone, .int .i64 T.e]) ?fw9q_15_6 ?aw9q_15_6 [5] (by kernel_rfl) (by rfl) (fun w9 => ?hw9q_15_6) (fun L9 m9 w9 hSh hAt hDn hS => ?cw9q_15_6)) (fun v6 hVv6 => ?rw9q_15_6)
                  case hw9q_15_6 => go_simp; refine ⟨?_, ?_⟩ <;> rfl
                  case cw9q_15_6 =>
                    have hs1 := reach_no hSh (f := 11) (j := 9) (d := 6) (by kernel_rfl) hDn
                    have hs2 := reach_no hSh (f := 11) (j := 10) (d := 6) (by kernel_rfl) hDn
                    have hT := TwoS.any hS
                    obtain ⟨a0, cs0, he0, ⟨A2, m2, c2, hcs, hc1, hc2, hr0⟩, rfl⟩ := (hS.at0 hs1).r0 (hAt 5 (by simp)).1
                    obtain ⟨rfl, rfl, rfl⟩ : A5 = A2 ∧ m5 = m2 ∧ c5 = c2 := by have h9 := (hAt 5 (by simp)).2.symm.trans he0; exact inj_lres h9 hcs
                    refine (HWANT.out A5 m5 c5 w9 (Lay.rd_weak (fun _ _ _ => trivial) hr0) (Nat.le_trans hc1 hc2) (RdB.below HOB.out hT)).mono ?_
                    rintro e w8 ⟨A2, m2, c2, D2, n2, d2, rfl, ho, q8⟩
                    exact ⟨_, rfl, ⟨A2, m2, c2, D2, n2, d2, rfl⟩, TwoS.call hS (LRes.res _ _) (RunR.res _ _) (WantR.res _) hs1 hs2 (by decide) q8 (fun e => absurd e (by decide)) (fun e => absurd e (by decide)) (fun _ => WantR.of ho (fun b hb => (hS.at0 hs1).avoid (.inr hb)))⟩
                  try simp only [Act.put, List.setIfInBounds_toArray, List.set_cons_zero, List.set_cons_succ]
                  obtain ⟨uA, um, uc, uD, un, ud, rfl⟩ := hVv6
                  refine Ps.some1 (i := 8) (by kernel_rfl) ?tw9q_16_8
                  case tw9q_16_8 =>
                    refine Turns.mk (d := some 10) rfl rfl (TurnS.value (V := fun v => ∃ g, v = .pointer (some ⟨g, 0, none⟩)) [] (by kernel_rfl) (by rfl) (fun L9 m9 w9 hSh hAt hDn hS => ?cw9q_16_8)) (fun v8 hVv8 => ?rw9q_16_8)
                    case cw9q_16_8 =>
                      have hs1 := reach_no hSh (f := 11) (j := 9) (d := 8) (by kernel_rfl) hDn
                      have hs2 := reach_no hSh (f := 11) (j := 10) (d := 8) (by kernel_rfl) hDn
                      refine ⟨.pointer (some ⟨w9.heap.size, 0, none⟩), w9.alloc (.cells #[.int .u64 0, .slice none 0 0, .int .u64 0, .int .u64 0, .int .i64 0, .int .i64 0, .slice none 0 0, .bool false, .int .i64 0, .int .i64 0] 51), ?_, ⟨_, rfl⟩, TwoS.make2 hS (LRes.res _ _) (RunR.res _ _) (WantR.res _) hs1 hs2 (by decide)⟩
                      clear hS
                      go_simp
                      try rfl
                    try simp only [Act.put, List.setIfInBounds_toArray, List.set_cons_zero, List.set_cons_succ]
                    obtain ⟨g10, rfl⟩ := hVv8
                    refine Ps.step (i := 9) (d := none) (u := undef) rfl rfl (by kernel_rfl) (by kernel_rfl) (by kernel_rfl) (by kernel_rfl) ?yw9q_17 ?rw9q_17
                    case yw9q_17 =>
                      refine StepS.store [2, 6, 7, 8] (by kernel_rfl) (by rfl) (fun L9 m9 w9 hSh hAt hDn hS => ?_)
                      have hs2 := reach_no hSh (f := 11) (j := 10) (d := 9) (by kernel_rfl) hDn
                      obtain ⟨p1, p2, hB⟩ := TwoS.ready1 hS hDn (hAt 7 (by simp)).1 (hAt 8 (by simp)).1 (hAt 2 (by simp)).1 (hAt 6 (by simp)).1
                      obtain rfl : g9 = p1 := pt_inj ((hAt 7 (by simp)).2.symm.trans hB.e1)
                      refine (exec_store_blk (w := w9) 51 (.tmp 9) (.tmp 32) (by rfl) g9 51 #[.int .u64 0, .slice none 0 0, .int .u64 0, .int .u64 0, .int .i64 0, .int .i64 0, .slice none 0 0, .bool false, .int .i64 0, .int .i64 0] #[.int .u64 T.s, .slice tA tm tc, .int .u64 T.num, .int .u64 T.p.num, .int .i64 T.p.frm, .int .i64 T.p.to, .slice tD tn td, .bool T.p.sp, .int .i64 T.gone, .int .i64 T.e] (by rfl) (by rfl) hB.b1 rfl toldI (by simp [Value.oneCell'])).imp fun w7' hx => ⟨hx.1, TwoS.set1 hs2 (by decide) (hAt 2 (by simp)).2 (hB.store1 (RunR.res _ _) (WantR.res _) hx.2.1 hx.2.2)⟩
                    try simp only [Act.put]
                    refine Ps.step (i := 10) (d := none) (u := undef) rfl rfl (by kernel_rfl) (by kernel_rfl) (by kernel_rfl) (by kernel_rfl) ?yw9q_18 ?rw9q_18
                    case yw9q_18 =>
                      refine StepS.store [2, 6, 7, 8, 9] (by kernel_rfl) (by rfl) (fun L9 m9 w9 hSh hAt hDn hS => ?_)
                      obtain ⟨p1, p2, cc, hk, hB⟩ := TwoS.at1 hS (hAt 9 (by simp)).1 hDn
                      obtain rfl : g10 = p2 := pt_inj ((hAt 8 (by simp)).2.symm.trans hB.e2)
                      refine (exec_store_blk (w := w9) 51 (.tmp 10) (.tmp 36) (by rfl) g10 51 #[.int .u64 0, .slice none 0 0, .int .u64 0, .int .u64 0, .int .i64 0, .int .i64 0, .slice none 0 0, .bool false, .int .i64 0, .int .i64 0] #[.int .u64 T.s, .slice uA um uc, .int .u64 T.num, .int .u64 T.p.num, .int .i64 T.p.frm, .int .i64 T.p.to, .slice uD un ud, .bool T.p.sp, .int .i64 T.gone, .int .i64 T.e] (by rfl) (by rfl) hB.b2 rfl toldI (by simp [Value.oneCell'])).imp fun w7' hx => ⟨hx.1, TwoS.set2 (by decide) (hAt 9 (by simp)).1 hk (hAt 6 (by simp)).2 (hB.store2 (RunR.res _ _) (WantR.res _) hx.2.1 hx.2.2)⟩
                    try simp only [Act.put]
                    refine Ps.done (by kernel_rfl) (fun w9q hS => ?_) _
                    obtain ⟨p1, p2, d1, d2, hk1, hk2, hB⟩ := TwoS.fin hS (by rfl)
                    clear hS
                    obtain rfl : g9 = p1 := pt_inj hB.e1
                    obtain rfl : g10 = p2 := pt_inj hB.e2
                    have hk1 : Value.agg #[.int .u64 T.s, .slice tA tm tc, .int .u64 T.num, .int .u64 T.p.num, .int .i64 T.p.frm, .int .i64 T.p.to, .slice tD tn td, .bool T.p.sp, .int .i64 T.gone, .int .i64 T.e] = .agg d1 := hk1
                    have hk2 : Value.agg #[.int .u64 T.s, .slice uA um uc, .int .u64 T.num, .int .u64 T.p.num, .int .i64 T.p.frm, .int .i64 T.p.to, .slice uD un ud, .bool T.p.sp, .int .i64 T.gone, .int .i64 T.e] = .agg d2 := hk2
                    injection hk1 with hk1
                    injection hk2 with hk2
                    subst hk1 hk2
                    have hr1 : RunR w7.heap.size T (.agg #[.int .u64 T.s, .slice tA tm tc, .int .u64 T.num, .int .u64 T.p.num, .int .i64 T.p.frm, .int .i64 T.p.to, .slice tD tn td, .bool T.p.sp, .int .i64 T.gone, .int .i64 T.e]) (fun b => b ≠ g9) _ := (RunR.res _ _).weak (fun b hb _ e => by subst e; exact hb.1 hB.e1) hB.r1
                    have hr2 : WantR T (.agg #[.int .u64 T.s, .slice uA um uc, .int .u64 T.num, .int .u64 T.p.num, .int .i64 T.p.frm, .int .i64 T.p.to, .slice uD un ud, .bool T.p.sp, .int .i64 T.gone, .int .i64 T.e]) AllB _ := (WantR.res _).weak (fun _ _ _ => trivial) hB.r2
                    refine ⟨g9, g10, A5, m5, c5, tA, tm, tc, tD, tn, td, uA, um, uc, uD, un, ud, ?_, hB.b1, hB.b2, hr1, hr2, hB.l1, hB.bel⟩
                    rfl
                case tw9q_15_8 =>
                  refine Turns.mk (d := some 10) rfl rfl (TurnS.value (V := fun v => ∃ g, v = .pointer (some ⟨g, 0, none⟩)) [] (by kernel_rfl) (by rfl) (fun L9 m9 w9 hSh hAt hDn hS => ?cw9q_15_8)) (fun v8 hVv8 => ?rw9q_15_8)
                  case cw9q_15_8 =>
                    have hs1 := reach_no hSh (f := 11) (j := 9) (d := 8) (by kernel_rfl) hDn
                    have hs2 := reach_no hSh (f := 11) (j := 10) (d := 8) (by kernel_rfl) hDn
                    refine ⟨.pointer (some ⟨w9.heap.size, 0, none⟩), w9.alloc (.cells #[.int .u64 0, .slice none 0 0, .int .u64 0, .int .u64 0, .int .i64 0, .int .i64 0, .slice none 0 0, .bool false, .int .i64 0, .int .i64 0] 51), ?_, ⟨_, rfl⟩, TwoS.make2 hS (LRes.res _ _) (RunR.res _ _) (WantR.res _) hs1 hs2 (by decide)⟩
                    clear hS
                    go_simp
                    try rfl
                  try simp only [Act.put, List.setIfInBounds_toArray, List.set_cons_zero, List.set_cons_succ]
                  obtain ⟨g10, rfl⟩ := hVv8
                  refine Ps.some1 (i := 6) (by kernel_rfl) ?tw9q_19_6
                  case tw9q_19_6 =>
                    refine Turns.mk (d := some 36) rfl rfl (TurnS.call (V := fun v => ∃ uA um uc uD un ud, v = .agg #[.int .u64 T.s, .slice uA um uc, .int .u64 T.num, .int .u64 T.p.num, .int .i64 T.p.frm, .int .i64 T.p.to, .slice uD un ud, .bool T.p.sp, .int .i64 T.gone, .int .i64 T.e]) ?fw9q_19_6 ?aw9q_19_6 [5] (by kernel_rfl) (by rfl) (fun w9 => ?hw9q_19_6) (fun L9 m9 w9 hSh hAt hDn hS => ?cw9q_19_6)) (fun v6 hVv6 => ?rw9q_19_6)
                    case hw9q_19_6 => go_simp; refine ⟨?_, ?_⟩ <;> rfl
                    case cw9q_19_6 =>
                      have hs1 := reach_no hSh (f := 11) (j := 9) (d := 6) (by kernel_rfl) hDn
                      have hs2 := reach_no hSh (f := 11) (j := 10) (d := 6) (by kernel_rfl) hDn
                      have hT := TwoS.any hS
                      obtain ⟨a0, cs0, he0, ⟨A2, m2, c2, hcs, hc1, hc2, hr0⟩, rfl⟩ := (hS.at0 hs1).r0 (hAt 5 (by simp)).1
                      obtain ⟨rfl, rfl, rfl⟩ : A5 = A2 ∧ m5 = m2 ∧ c5 = c2 := by have h9 := (hAt 5 (by simp)).2.symm.trans he0; exact inj_lres h9 hcs
                      refine (HWANT.out A5 m5 c5 w9 (Lay.rd_weak (fun _ _ _ => trivial) hr0) (Nat.le_trans hc1 hc2) (RdB.below HOB.out hT)).mono ?_
                      rintro e w8 ⟨A2, m2, c2, D2, n2, d2, rfl, ho, q8⟩
                      exact ⟨_, rfl, ⟨A2, m2, c2, D2, n2, d2, rfl⟩, TwoS.call hS (LRes.res _ _) (RunR.res _ _) (WantR.res _) hs1 hs2 (by decide) q8 (fun e => absurd e (by decide)) (fun e => absurd e (by decide)) (fun _ => WantR.of ho (fun b hb => (hS.at0 hs1).avoid (.inr hb)))⟩
                    try simp only [Act.put, List.setIfInBounds_toArray, List.set_cons_zero, List.set_cons_succ]
                    obtain ⟨uA, um, uc, uD, un, ud, rfl⟩ := hVv6
                    refine Ps.step (i := 9) (d := none) (u := undef) rfl rfl (by kernel_rfl) (by kernel_rfl) (by kernel_rfl) (by kernel_rfl) ?yw9q_20 ?rw9q_20
                    case yw9q_20 =>
                      refine StepS.store [2, 6, 7, 8] (by kernel_rfl) (by rfl) (fun L9 m9 w9 hSh hAt hDn hS => ?_)
                      have hs2 := reach_no hSh (f := 11) (j := 10) (d := 9) (by kernel_rfl) hDn
                      obtain ⟨p1, p2, hB⟩ := TwoS.ready1 hS hDn (hAt 7 (by simp)).1 (hAt 8 (by simp)).1 (hAt 2 (by simp)).1 (hAt 6 (by simp)).1
                      obtain rfl : g9 = p1 := pt_inj ((hAt 7 (by simp)).2.symm.trans hB.e1)
                      refine (exec_store_blk (w := w9) 51 (.tmp 9) (.tmp 32) (by rfl) g9 51 #[.int .u64 0, .slice none 0 0, .int .u64 0, .int .u64 0, .int .i64 0, .int .i64 0, .slice none 0 0, .bool false, .int .i64 0, .int .i64 0] #[.int .u64 T.s, .slice tA tm tc, .int .u64 T.num, .int .u64 T.p.num, .int .i64 T.p.frm, .int .i64 T.p.to, .slice tD tn td, .bool T.p.sp, .int .i64 T.gone, .int .i64 T.e] (by rfl) (by rfl) hB.b1 rfl toldI (by simp [Value.oneCell'])).imp fun w7' hx => ⟨hx.1, TwoS.set1 hs2 (by decide) (hAt 2 (by simp)).2 (hB.store1 (RunR.res _ _) (WantR.res _) hx.2.1 hx.2.2)⟩
                    try simp only [Act.put]
                    refine Ps.step (i := 10) (d := none) (u := undef) rfl rfl (by kernel_rfl) (by kernel_rfl) (by kernel_rfl) (by kernel_rfl) ?yw9q_21 ?rw9q_21
                    case yw9q_21 =>
                      refine StepS.store [2, 6, 7, 8, 9] (by kernel_rfl) (by rfl) (fun L9 m9 w9 hSh hAt hDn hS => ?_)
                      obtain ⟨p1, p2, cc, hk, hB⟩ := TwoS.at1 hS (hAt 9 (by simp)).1 hDn
                      obtain rfl : g10 = p2 := pt_inj ((hAt 8 (by simp)).2.symm.trans hB.e2)
                      refine (exec_store_blk (w := w9) 51 (.tmp 10) (.tmp 36) (by rfl) g10 51 #[.int .u64 0, .slice none 0 0, .int .u64 0, .int .u64 0, .int .i64 0, .int .i64 0, .slice none 0 0, .bool false, .int .i64 0, .int .i64 0] #[.int .u64 T.s, .slice uA um uc, .int .u64 T.num, .int .u64 T.p.num, .int .i64 T.p.frm, .int .i64 T.p.to, .slice uD un ud, .bool T.p.sp, .int .i64 T.gone, .int .i64 T.e] (by rfl) (by rfl) hB.b2 rfl toldI (by simp [Value.oneCell'])).imp fun w7' hx => ⟨hx.1, TwoS.set2 (by decide) (hAt 9 (by simp)).1 hk (hAt 6 (by simp)).2 (hB.store2 (RunR.res _ _) (WantR.res _) hx.2.1 hx.2.2)⟩
                    try simp only [Act.put]
                    refine Ps.done (by kernel_rfl) (fun w9q hS => ?_) _
                    obtain ⟨p1, p2, d1, d2, hk1, hk2, hB⟩ := TwoS.fin hS (by rfl)
                    clear hS
                    obtain rfl : g9 = p1 := pt_inj hB.e1
                    obtain rfl : g10 = p2 := pt_inj hB.e2
                    have hk1 : Value.agg #[.int .u64 T.s, .slice tA tm tc, .int .u64 T.num, .int .u64 T.p.num, .int .i64 T.p.frm, .int .i64 T.p.to, .slice tD tn td, .bool T.p.sp, .int .i64 T.gone, .int .i64 T.e] = .agg d1 := hk1
                    have hk2 : Value.agg #[.int .u64 T.s, .slice uA um uc, .int .u64 T.num, .int .u64 T.p.num, .int .i64 T.p.frm, .int .i64 T.p.to, .slice uD un ud, .bool T.p.sp, .int .i64 T.gone, .int .i64 T.e] = .agg d2 := hk2
                    injection hk1 with hk1
                    injection hk2 with hk2
                    subst hk1 hk2
                    have hr1 : RunR w7.heap.size T (.agg #[.int .u64 T.s, .slice tA tm tc, .int .u64 T.num, .int .u64 T.p.num, .int .i64 T.p.frm, .int .i64 T.p.to, .slice tD tn td, .bool T.p.sp, .int .i64 T.gone, .int .i64 T.e]) (fun b => b ≠ g9) _ := (RunR.res _ _).weak (fun b hb _ e => by subst e; exact hb.1 hB.e1) hB.r1
                    have hr2 : WantR T (.agg #[.int .u64 T.s, .slice uA um uc, .int .u64 T.num, .int .u64 T.p.num, .int .i64 T.p.frm, .int .i64 T.p.to, .slice uD un ud, .bool T.p.sp, .int .i64 T.gone, .int .i64 T.e]) AllB _ := (WantR.res _).weak (fun _ _ _ => trivial) hB.r2
                    refine ⟨g9, g10, A5, m5, c5, tA, tm, tc, tD, tn, td, uA, um, uc, uD, un, ud, ?_, hB.b1, hB.b2, hr1, hr2, hB.l1, hB.bel⟩
                    rfl
              case tw9q_7_8 =>
                refine Turns.mk (d := some 10) rfl rfl (TurnS.value (V := fun v => ∃ g, v = .pointer (some ⟨g, 0, none⟩)) [] (by kernel_rfl) (by rfl) (fun L9 m9 w9 hSh hAt hDn hS => ?cw9q_7_8)) (fun v8 hVv8 => ?rw9q_7_8)
                case cw9q_7_8 =>
                  have hs1 := reach_no hSh (f := 11) (j := 9) (d := 8) (by kernel_rfl) hDn
                  have hs2 := reach_no hSh (f := 11) (j := 10) (d := 8) (by kernel_rfl) hDn
                  refine ⟨.pointer (some ⟨w9.heap.size, 0, none⟩), w9.alloc (.cells #[.int .u64 0, .slice none 0 0, .int .u64 0, .int .u64 0, .int .i64 0, .int .i64 0, .slice none 0 0, .bool false, .int .i64 0, .int .i64 0] 51), ?_, ⟨_, rfl⟩, TwoS.make2 hS (LRes.res _ _) (RunR.res _ _) (WantR.res _) hs1 hs2 (by decide)⟩
                  clear hS
                  go_simp
                  try rfl
                try simp only [Act.put, List.setIfInBounds_toArray, List.set_cons_zero, List.set_cons_succ]
                obtain ⟨g10, rfl⟩ := hVv8
                refine Ps.some2 (i := 6) (j := 7) (by kernel_rfl) ?tw9q_22_6 ?tw9q_22_7
                case tw9q_22_6 =>
                  refine Turns.mk (d := some 36) rfl rfl (TurnS.call (V := fun v => ∃ uA um uc uD un ud, v = .agg #[.int .u64 T.s, .slice uA um uc, .int .u64 T.num, .int .u64 T.p.num, .int .i64 T.p.frm, .int .i64 T.p.to, .slice uD un ud, .bool T.p.sp, .int .i64 T.gone, .int .i64 T.e]) ?fw9q_22_6 ?aw9q_22_6 [5] (by kernel_rfl) (by rfl) (fun w9 => ?hw9q_22_6) (fun L9 m9 w9 hSh hAt hDn hS => ?cw9q_22_6)) (fun v6 hVv6 => ?rw9q_22_6)
                  case hw9q_22_6 => go_simp; refine ⟨?_, ?_⟩ <;> rfl
                  case cw9q_22_6 =>
                    have hs1 := reach_no hSh (f := 11) (j := 9) (d := 6) (by kernel_rfl) hDn
                    have hs2 := reach_no hSh (f := 11) (j := 10) (d := 6) (by kernel_rfl) hDn
                    have hT := TwoS.any hS
                    obtain ⟨a0, cs0, he0, ⟨A2, m2, c2, hcs, hc1, hc2, hr0⟩, rfl⟩ := (hS.at0 hs1).r0 (hAt 5 (by simp)).1
                    obtain ⟨rfl, rfl, rfl⟩ : A5 = A2 ∧ m5 = m2 ∧ c5 = c2 := by have h9 := (hAt 5 (by simp)).2.symm.trans he0; exact inj_lres h9 hcs
                    refine (HWANT.out A5 m5 c5 w9 (Lay.rd_weak (fun _ _ _ => trivial) hr0) (Nat.le_trans hc1 hc2) (RdB.below HOB.out hT)).mono ?_
                    rintro e w8 ⟨A2, m2, c2, D2, n2, d2, rfl, ho, q8⟩
                    exact ⟨_, rfl, ⟨A2, m2, c2, D2, n2, d2, rfl⟩, TwoS.call hS (LRes.res _ _) (RunR.res _ _) (WantR.res _) hs1 hs2 (by decide) q8 (fun e => absurd e (by decide)) (fun e => absurd e (by decide)) (fun _ => WantR.of ho (fun b hb => (hS.at0 hs1).avoid (.inr hb)))⟩
                  try simp only [Act.put, List.setIfInBounds_toArray, List.set_cons_zero, List.set_cons_succ]
                  obtain ⟨uA, um, uc, uD, un, ud, rfl⟩ := hVv6
                  refine Ps.some1 (i := 7) (by kernel_rfl) ?tw9q_23_7
                  case tw9q_23_7 =>
                    refine Turns.mk (d := some 9) rfl rfl (TurnS.value (V := fun v => ∃ g, v = .pointer (some ⟨g, 0, none⟩)) [] (by kernel_rfl) (by rfl) (fun L9 m9 w9 hSh hAt hDn hS => ?cw9q_23_7)) (fun v7 hVv7 => ?rw9q_23_7)
                    case cw9q_23_7 =>
                      have hs1 := reach_no hSh (f := 11) (j := 9) (d := 7) (by kernel_rfl) hDn
                      have hs2 := reach_no hSh (f := 11) (j := 10) (d := 7) (by kernel_rfl) hDn
                      refine ⟨.pointer (some ⟨w9.heap.size, 0, none⟩), w9.alloc (.cells #[.int .u64 0, .slice none 0 0, .int .u64 0, .int .u64 0, .int .i64 0, .int .i64 0, .slice none 0 0, .bool false, .int .i64 0, .int .i64 0] 51), ?_, ⟨_, rfl⟩, TwoS.make1 hS (LRes.res _ _) (RunR.res _ _) (WantR.res _) hs1 hs2 (by decide)⟩
                      clear hS
                      go_simp
                      try rfl
                    try simp only [Act.put, List.setIfInBounds_toArray, List.set_cons_zero, List.set_cons_succ]
                    obtain ⟨g9, rfl⟩ := hVv7
                    refine Ps.step (i := 9) (d := none) (u := undef) rfl rfl (by kernel_rfl) (by kernel_rfl) (by kernel_rfl) (by kernel_rfl) ?yw9q_24 ?rw9q_24
                    case yw9q_24 =>
                      refine StepS.store [2, 6, 7, 8] (by kernel_rfl) (by rfl) (fun L9 m9 w9 hSh hAt hDn hS => ?_)
                      have hs2 := reach_no hSh (f := 11) (j := 10) (d := 9) (by kernel_rfl) hDn
                      obtain ⟨p1, p2, hB⟩ := TwoS.ready1 hS hDn (hAt 7 (by simp)).1 (hAt 8 (by simp)).1 (hAt 2 (by simp)).1 (hAt 6 (by simp)).1
                      obtain rfl : g9 = p1 := pt_inj ((hAt 7 (by simp)).2.symm.trans hB.e1)
                      refine (exec_store_blk (w := w9) 51 (.tmp 9) (.tmp 32) (by rfl) g9 51 #[.int .u64 0, .slice none 0 0, .int .u64 0, .int .u64 0, .int .i64 0, .int .i64 0, .slice none 0 0, .bool false, .int .i64 0, .int .i64 0] #[.int .u64 T.s, .slice tA tm tc, .int .u64 T.num, .int .u64 T.p.num, .int .i64 T.p.frm, .int .i64 T.p.to, .slice tD tn td, .bool T.p.sp, .int .i64 T.gone, .int .i64 T.e] (by rfl) (by rfl) hB.b1 rfl toldI (by simp [Value.oneCell'])).imp fun w7' hx => ⟨hx.1, TwoS.set1 hs2 (by decide) (hAt 2 (by simp)).2 (hB.store1 (RunR.res _ _) (WantR.res _) hx.2.1 hx.2.2)⟩
                    try simp only [Act.put]
                    refine Ps.step (i := 10) (d := none) (u := undef) rfl rfl (by kernel_rfl) (by kernel_rfl) (by kernel_rfl) (by kernel_rfl) ?yw9q_25 ?rw9q_25
                    case yw9q_25 =>
                      refine StepS.store [2, 6, 7, 8, 9] (by kernel_rfl) (by rfl) (fun L9 m9 w9 hSh hAt hDn hS => ?_)
                      obtain ⟨p1, p2, cc, hk, hB⟩ := TwoS.at1 hS (hAt 9 (by simp)).1 hDn
                      obtain rfl : g10 = p2 := pt_inj ((hAt 8 (by simp)).2.symm.trans hB.e2)
                      refine (exec_store_blk (w := w9) 51 (.tmp 10) (.tmp 36) (by rfl) g10 51 #[.int .u64 0, .slice none 0 0, .int .u64 0, .int .u64 0, .int .i64 0, .int .i64 0, .slice none 0 0, .bool false, .int .i64 0, .int .i64 0] #[.int .u64 T.s, .slice uA um uc, .int .u64 T.num, .int .u64 T.p.num, .int .i64 T.p.frm, .int .i64 T.p.to, .slice uD un ud, .bool T.p.sp, .int .i64 T.gone, .int .i64 T.e] (by rfl) (by rfl) hB.b2 rfl toldI (by simp [Value.oneCell'])).imp fun w7' hx => ⟨hx.1, TwoS.set2 (by decide) (hAt 9 (by simp)).1 hk (hAt 6 (by simp)).2 (hB.store2 (RunR.res _ _) (WantR.res _) hx.2.1 hx.2.2)⟩
                    try simp only [Act.put]
                    refine Ps.done (by kernel_rfl) (fun w9q hS => ?_) _
                    obtain ⟨p1, p2, d1, d2, hk1, hk2, hB⟩ := TwoS.fin hS (by rfl)
                    clear hS
                    obtain rfl : g9 = p1 := pt_inj hB.e1
                    obtain rfl : g10 = p2 := pt_inj hB.e2
                    have hk1 : Value.agg #[.int .u64 T.s, .slice tA tm tc, .int .u64 T.num, .int .u64 T.p.num, .int .i64 T.p.frm, .int .i64 T.p.to, .slice tD tn td, .bool T.p.sp, .int .i64 T.gone, .int .i64 T.e] = .agg d1 := hk1
                    have hk2 : Value.agg #[.int .u64 T.s, .slice uA um uc, .int .u64 T.num, .int .u64 T.p.num, .int .i64 T.p.frm, .int .i64 T.p.to, .slice uD un ud, .bool T.p.sp, .int .i64 T.gone, .int .i64 T.e] = .agg d2 := hk2
                    injection hk1 with hk1
                    injection hk2 with hk2
                    subst hk1 hk2
                    have hr1 : RunR w7.heap.size T (.agg #[.int .u64 T.s, .slice tA tm tc, .int .u64 T.num, .int .u64 T.p.num, .int .i64 T.p.frm, .int .i64 T.p.to, .slice tD tn td, .bool T.p.sp, .int .i64 T.gone, .int .i64 T.e]) (fun b => b ≠ g9) _ := (RunR.res _ _).weak (fun b hb _ e => by subst e; exact hb.1 hB.e1) hB.r1
                    have hr2 : WantR T (.agg #[.int .u64 T.s, .slice uA um uc, .int .u64 T.num, .int .u64 T.p.num, .int .i64 T.p.frm, .int .i64 T.p.to, .slice uD un ud, .bool T.p.sp, .int .i64 T.gone, .int .i64 T.e]) AllB _ := (WantR.res _).weak (fun _ _ _ => trivial) hB.r2
                    refine ⟨g9, g10, A5, m5, c5, tA, tm, tc, tD, tn, td, uA, um, uc, uD, un, ud, ?_, hB.b1, hB.b2, hr1, hr2, hB.l1, hB.bel⟩
                    rfl
                case tw9q_22_7 =>
                  refine Turns.mk (d := some 9) rfl rfl (TurnS.value (V := fun v => ∃ g, v = .pointer (some ⟨g, 0, none⟩)) [] (by kernel_rfl) (by rfl) (fun L9 m9 w9 hSh hAt hDn hS => ?cw9q_22_7)) (fun v7 hVv7 => ?rw9q_22_7)
                  case cw9q_22_7 =>
                    have hs1 := reach_no hSh (f := 11) (j := 9) (d := 7) (by kernel_rfl) hDn
                    have hs2 := reach_no hSh (f := 11) (j := 10) (d := 7) (by kernel_rfl) hDn
                    refine ⟨.pointer (some ⟨w9.heap.size, 0, none⟩), w9.alloc (.cells #[.int .u64 0, .slice none 0 0, .int .u64 0, .int .u64 0, .int .i64 0, .int .i64 0, .slice none 0 0, .bool false, .int .i64 0, .int .i64 0] 51), ?_, ⟨_, rfl⟩, TwoS.make1 hS (LRes.res _ _) (RunR.res _ _) (WantR.res _) hs1 hs2 (by decide)⟩
                    clear hS
                    go_simp
                    try rfl
                  try simp only [Act.put, List.setIfInBounds_toArray, List.set_cons_zero, List.set_cons_succ]
                  obtain ⟨g9, rfl⟩ := hVv7
                  refine Ps.some1 (i := 6) (by kernel_rfl) ?tw9q_26_6
                  case tw9q_26_6 =>
                    refine Turns.mk (d := some 36) rfl rfl (TurnS.call (V := fun v => ∃ uA um uc uD un ud, v = .agg #[.int .u64 T.s, .slice uA um uc, .int .u64 T.num, .int .u64 T.p.num, .int .i64 T.p.frm, .int .i64 T.p.to, .slice uD un ud, .bool T.p.sp, .int .i64 T.gone, .int .i64 T.e]) ?fw9q_26_6 ?aw9q_26_6 [5] (by kernel_rfl) (by rfl) (fun w9 => ?hw9q_26_6) (fun L9 m9 w9 hSh hAt hDn hS => ?cw9q_26_6)) (fun v6 hVv6 => ?rw9q_26_6)
                    case hw9q_26_6 => go_simp; refine ⟨?_, ?_⟩ <;> rfl
                    case cw9q_26_6 =>
                      have hs1 := reach_no hSh (f := 11) (j := 9) (d := 6) (by kernel_rfl) hDn
                      have hs2 := reach_no hSh (f := 11) (j := 10) (d := 6) (by kernel_rfl) hDn
                      have hT := TwoS.any hS
                      obtain ⟨a0, cs0, he0, ⟨A2, m2, c2, hcs, hc1, hc2, hr0⟩, rfl⟩ := (hS.at0 hs1).r0 (hAt 5 (by simp)).1
                      obtain ⟨rfl, rfl, rfl⟩ : A5 = A2 ∧ m5 = m2 ∧ c5 = c2 := by have h9 := (hAt 5 (by simp)).2.symm.trans he0; exact inj_lres h9 hcs
                      refine (HWANT.out A5 m5 c5 w9 (Lay.rd_weak (fun _ _ _ => trivial) hr0) (Nat.le_trans hc1 hc2) (RdB.below HOB.out hT)).mono ?_
                      rintro e w8 ⟨A2, m2, c2, D2, n2, d2, rfl, ho, q8⟩
                      exact ⟨_, rfl, ⟨A2, m2, c2, D2, n2, d2, rfl⟩, TwoS.call hS (LRes.res _ _) (RunR.res _ _) (WantR.res _) hs1 hs2 (by decide) q8 (fun e => absurd e (by decide)) (fun e => absurd e (by decide)) (fun _ => WantR.of ho (fun b hb => (hS.at0 hs1).avoid (.inr hb)))⟩
                    try simp only [Act.put, List.setIfInBounds_toArray, List.set_cons_zero, List.set_cons_succ]
                    obtain ⟨uA, um, uc, uD, un, ud, rfl⟩ := hVv6
                    refine Ps.step (i := 9) (d := none) (u := undef) rfl rfl (by kernel_rfl) (by kernel_rfl) (by kernel_rfl) (by kernel_rfl) ?yw9q_27 ?rw9q_27
                    case yw9q_27 =>
                      refine StepS.store [2, 6, 7, 8] (by kernel_rfl) (by rfl) (fun L9 m9 w9 hSh hAt hDn hS => ?_)
                      have hs2 := reach_no hSh (f := 11) (j := 10) (d := 9) (by kernel_rfl) hDn
                      obtain ⟨p1, p2, hB⟩ := TwoS.ready1 hS hDn (hAt 7 (by simp)).1 (hAt 8 (by simp)).1 (hAt 2 (by simp)).1 (hAt 6 (by simp)).1
                      obtain rfl : g9 = p1 := pt_inj ((hAt 7 (by simp)).2.symm.trans hB.e1)
                      refine (exec_store_blk (w := w9) 51 (.tmp 9) (.tmp 32) (by rfl) g9 51 #[.int .u64 0, .slice none 0 0, .int .u64 0, .int .u64 0, .int .i64 0, .int .i64 0, .slice none 0 0, .bool false, .int .i64 0, .int .i64 0] #[.int .u64 T.s, .slice tA tm tc, .int .u64 T.num, .int .u64 T.p.num, .int .i64 T.p.frm, .int .i64 T.p.to, .slice tD tn td, .bool T.p.sp, .int .i64 T.gone, .int .i64 T.e] (by rfl) (by rfl) hB.b1 rfl toldI (by simp [Value.oneCell'])).imp fun w7' hx => ⟨hx.1, TwoS.set1 hs2 (by decide) (hAt 2 (by simp)).2 (hB.store1 (RunR.res _ _) (WantR.res _) hx.2.1 hx.2.2)⟩
                    try simp only [Act.put]
                    refine Ps.step (i := 10) (d := none) (u := undef) rfl rfl (by kernel_rfl) (by kernel_rfl) (by kernel_rfl) (by kernel_rfl) ?yw9q_28 ?rw9q_28
                    case yw9q_28 =>
                      refine StepS.store [2, 6, 7, 8, 9] (by kernel_rfl) (by rfl) (fun L9 m9 w9 hSh hAt hDn hS => ?_)
                      obtain ⟨p1, p2, cc, hk, hB⟩ := TwoS.at1 hS (hAt 9 (by simp)).1 hDn
                      obtain rfl : g10 = p2 := pt_inj ((hAt 8 (by simp)).2.symm.trans hB.e2)
                      refine (exec_store_blk (w := w9) 51 (.tmp 10) (.tmp 36) (by rfl) g10 51 #[.int .u64 0, .slice none 0 0, .int .u64 0, .int .u64 0, .int .i64 0, .int .i64 0, .slice none 0 0, .bool false, .int .i64 0, .int .i64 0] #[.int .u64 T.s, .slice uA um uc, .int .u64 T.num, .int .u64 T.p.num, .int .i64 T.p.frm, .int .i64 T.p.to, .slice uD un ud, .bool T.p.sp, .int .i64 T.gone, .int .i64 T.e] (by rfl) (by rfl) hB.b2 rfl toldI (by simp [Value.oneCell'])).imp fun w7' hx => ⟨hx.1, TwoS.set2 (by decide) (hAt 9 (by simp)).1 hk (hAt 6 (by simp)).2 (hB.store2 (RunR.res _ _) (WantR.res _) hx.2.1 hx.2.2)⟩
                    try simp only [Act.put]
                    refine Ps.done (by kernel_rfl) (fun w9q hS => ?_) _
                    obtain ⟨p1, p2, d1, d2, hk1, hk2, hB⟩ := TwoS.fin hS (by rfl)
                    clear hS
                    obtain rfl : g9 = p1 := pt_inj hB.e1
                    obtain rfl : g10 = p2 := pt_inj hB.e2
                    have hk1 : Value.agg #[.int .u64 T.s, .slice tA tm tc, .int .u64 T.num, .int .u64 T.p.num, .int .i64 T.p.frm, .int .i64 T.p.to, .slice tD tn td, .bool T.p.sp, .int .i64 T.gone, .int .i64 T.e] = .agg d1 := hk1
                    have hk2 : Value.agg #[.int .u64 T.s, .slice uA um uc, .int .u64 T.num, .int .u64 T.p.num, .int .i64 T.p.frm, .int .i64 T.p.to, .slice uD un ud, .bool T.p.sp, .int .i64 T.gone, .int .i64 T.e] = .agg d2 := hk2
                    injection hk1 with hk1
                    injection hk2 with hk2
                    subst hk1 hk2
                    have hr1 : RunR w7.heap.size T (.agg #[.int .u64 T.s, .slice tA tm tc, .int .u64 T.num, .int .u64 T.p.num, .int .i64 T.p.frm, .int .i64 T.p.to, .slice tD tn td, .bool T.p.sp, .int .i64 T.gone, .int .i64 T.e]) (fun b => b ≠ g9) _ := (RunR.res _ _).weak (fun b hb _ e => by subst e; exact hb.1 hB.e1) hB.r1
                    have hr2 : WantR T (.agg #[.int .u64 T.s, .slice uA um uc, .int .u64 T.num, .int .u64 T.p.num, .int .i64 T.p.frm, .int .i64 T.p.to, .slice uD un ud, .bool T.p.sp, .int .i64 T.gone, .int .i64 T.e]) AllB _ := (WantR.res _).weak (fun _ _ _ => trivial) hB.r2
                    refine ⟨g9, g10, A5, m5, c5, tA, tm, tc, tD, tn, td, uA, um, uc, uD, un, ud, ?_, hB.b1, hB.b2, hr1, hr2, hB.l1, hB.bel⟩
                    rfl
            case tw9q_6_7 =>
              refine Turns.mk (d := some 9) rfl rfl (TurnS.value (V := fun v => ∃ g, v = .pointer (some ⟨g, 0, none⟩)) [] (by kernel_rfl) (by rfl) (fun L9 m9 w9 hSh hAt hDn hS => ?cw9q_6_7)) (fun v7 hVv7 => ?rw9q_6_7)
              case cw9q_6_7 =>
                have hs1 := reach_no hSh (f := 11) (j := 9) (d := 7) (by kernel_rfl) hDn
                have hs2 := reach_no hSh (f := 11) (j := 10) (d := 7) (by kernel_rfl) hDn
                refine ⟨.pointer (some ⟨w9.heap.size, 0, none⟩), w9.alloc (.cells #[.int .u64 0, .slice none 0 0, .int .u64 0, .int .u64 0, .int .i64 0, .int .i64 0, .slice none 0 0, .bool false, .int .i64 0, .int .i64 0] 51), ?_, ⟨_, rfl⟩, TwoS.make1 hS (LRes.res _ _) (RunR.res _ _) (WantR.res _) hs1 hs2 (by decide)⟩
                clear hS
                go_simp
                try rfl
              try simp only [Act.put, List.setIfInBounds_toArray, List.set_cons_zero, List.set_cons_succ]
              obtain ⟨g9, rfl⟩ := hVv7
              refine Ps.some2 (i := 5) (j := 8) (by kernel_rfl) ?tw9q_29_5 ?tw9q_29_8
              case tw9q_29_5 =>
                refine Turns.mk (d := some 35) rfl rfl (TurnS.call (V := fun v => ∃ A m c, v = .agg #[.int .u64 s, .slice A m c]) ?fw9q_29_5 ?aw9q_29_5 [] (by kernel_rfl) (by rfl) (fun w9 => ?hw9q_29_5) (fun L9 m9 w9 hSh hAt hDn hS => ?cw9q_29_5)) (fun v5 hVv5 => ?rw9q_29_5)
                case hw9q_29_5 => go_simp; refine ⟨?_, ?_⟩ <;> rfl
                case cw9q_29_5 =>
                  have hs1 := reach_no hSh (f := 11) (j := 9) (d := 5) (by kernel_rfl) hDn
                  have hs2 := reach_no hSh (f := 11) (j := 10) (d := 5) (by kernel_rfl) hDn
                  have hT := TwoS.any hS
                  refine (HSH.out A3 m3 c3 w9 (Lay.rd_below HRW.out hT) HM3.out).mono ?_
                  rintro e w8 ⟨A2, m2, c2, rfl, ho, q8⟩
                  have rd : LP.rd w8 (Av 7 8 m9) A2 m2 ps := ho.rd (fun b hb => (hS.at0 hs1).avoid (.inr hb))
                  have hcap := out_cap' ho
                  exact ⟨_, rfl, ⟨A2, m2, c2, rfl⟩, TwoS.call hS (LRes.res _ _) (RunR.res _ _) (WantR.res _) hs1 hs2 (by decide) q8 (fun _ => ⟨(s, ps), _, rfl, ⟨A2, m2, c2, rfl, hcap.1, hcap.2, rd⟩, rfl⟩) (fun e => absurd e (by decide)) (fun e => absurd e (by decide))⟩
                try simp only [Act.put, List.setIfInBounds_toArray, List.set_cons_zero, List.set_cons_succ]
                obtain ⟨A5, m5, c5, rfl⟩ := hVv5
                refine Ps.some2 (i := 6) (j := 8) (by kernel_rfl) ?tw9q_30_6 ?tw9q_30_8
                case tw9q_30_6 =>
                  refine Turns.mk (d := some 36) rfl rfl (TurnS.call (V := fun v => ∃ uA um uc uD un ud, v = .agg #[.int .u64 T.s, .slice uA um uc, .int .u64 T.num, .int .u64 T.p.num, .int .i64 T.p.frm, .int .i64 T.p.to, .slice uD un ud, .bool T.p.sp, .int .i64 T.gone, .int .i64 T.e]) ?fw9q_30_6 ?aw9q_30_6 [5] (by kernel_rfl) (by rfl) (fun w9 => ?hw9q_30_6) (fun L9 m9 w9 hSh hAt hDn hS => ?cw9q_30_6)) (fun v6 hVv6 => ?rw9q_30_6)
                  case hw9q_30_6 => go_simp; refine ⟨?_, ?_⟩ <;> rfl
                  case cw9q_30_6 =>
                    have hs1 := reach_no hSh (f := 11) (j := 9) (d := 6) (by kernel_rfl) hDn
                    have hs2 := reach_no hSh (f := 11) (j := 10) (d := 6) (by kernel_rfl) hDn
                    have hT := TwoS.any hS
                    obtain ⟨a0, cs0, he0, ⟨A2, m2, c2, hcs, hc1, hc2, hr0⟩, rfl⟩ := (hS.at0 hs1).r0 (hAt 5 (by simp)).1
                    obtain ⟨rfl, rfl, rfl⟩ : A5 = A2 ∧ m5 = m2 ∧ c5 = c2 := by have h9 := (hAt 5 (by simp)).2.symm.trans he0; exact inj_lres h9 hcs
                    refine (HWANT.out A5 m5 c5 w9 (Lay.rd_weak (fun _ _ _ => trivial) hr0) (Nat.le_trans hc1 hc2) (RdB.below HOB.out hT)).mono ?_
                    rintro e w8 ⟨A2, m2, c2, D2, n2, d2, rfl, ho, q8⟩
                    exact ⟨_, rfl, ⟨A2, m2, c2, D2, n2, d2, rfl⟩, TwoS.call hS (LRes.res _ _) (RunR.res _ _) (WantR.res _) hs1 hs2 (by decide) q8 (fun e => absurd e (by decide)) (fun e => absurd e (by decide)) (fun _ => WantR.of ho (fun b hb => (hS.at0 hs1).avoid (.inr hb)))⟩
                  try simp only [Act.put, List.setIfInBounds_toArray, List.set_cons_zero, List.set_cons_succ]
                  obtain ⟨uA, um, uc, uD, un, ud, rfl⟩ := hVv6
                  refine Ps.some1 (i := 8) (by kernel_rfl) ?tw9q_31_8
                  case tw9q_31_8 =>
                    refine Turns.mk (d := some 10) rfl rfl (TurnS.value (V := fun v => ∃ g, v = .pointer (some ⟨g, 0, none⟩)) [] (by kernel_rfl) (by rfl) (fun L9 m9 w9 hSh hAt hDn hS => ?cw9q_31_8)) (fun v8 hVv8 => ?rw9q_31_8)
                    case cw9q_31_8 =>
                      have hs1 := reach_no hSh (f := 11) (j := 9) (d := 8) (by kernel_rfl) hDn
                      have hs2 := reach_no hSh (f := 11) (j := 10) (d := 8) (by kernel_rfl) hDn
                      refine ⟨.pointer (some ⟨w9.heap.size, 0, none⟩), w9.alloc (.cells #[.int .u64 0, .slice none 0 0, .int .u64 0, .int .u64 0, .int .i64 0, .int .i64 0, .slice none 0 0, .bool false, .int .i64 0, .int .i64 0] 51), ?_, ⟨_, rfl⟩, TwoS.make2 hS (LRes.res _ _) (RunR.res _ _) (WantR.res _) hs1 hs2 (by decide)⟩
                      clear hS
                      go_simp
                      try rfl
                    try simp only [Act.put, List.setIfInBounds_toArray, List.set_cons_zero, List.set_cons_succ]
                    obtain ⟨g10, rfl⟩ := hVv8
                    refine Ps.step (i := 9) (d := none) (u := undef) rfl rfl (by kernel_rfl) (by kernel_rfl) (by kernel_rfl) (by kernel_rfl) ?yw9q_32 ?rw9q_32
                    case yw9q_32 =>
                      refine StepS.store [2, 6, 7, 8] (by kernel_rfl) (by rfl) (fun L9 m9 w9 hSh hAt hDn hS => ?_)
                      have hs2 := reach_no hSh (f := 11) (j := 10) (d := 9) (by kernel_rfl) hDn
                      obtain ⟨p1, p2, hB⟩ := TwoS.ready1 hS hDn (hAt 7 (by simp)).1 (hAt 8 (by simp)).1 (hAt 2 (by simp)).1 (hAt 6 (by simp)).1
                      obtain rfl : g9 = p1 := pt_inj ((hAt 7 (by simp)).2.symm.trans hB.e1)
                      refine (exec_store_blk (w := w9) 51 (.tmp 9) (.tmp 32) (by rfl) g9 51 #[.int .u64 0, .slice none 0 0, .int .u64 0, .int .u64 0, .int .i64 0, .int .i64 0, .slice none 0 0, .bool false, .int .i64 0, .int .i64 0] #[.int .u64 T.s, .slice tA tm tc, .int .u64 T.num, .int .u64 T.p.num, .int .i64 T.p.frm, .int .i64 T.p.to, .slice tD tn td, .bool T.p.sp, .int .i64 T.gone, .int .i64 T.e] (by rfl) (by rfl) hB.b1 rfl toldI (by simp [Value.oneCell'])).imp fun w7' hx => ⟨hx.1, TwoS.set1 hs2 (by decide) (hAt 2 (by simp)).2 (hB.store1 (RunR.res _ _) (WantR.res _) hx.2.1 hx.2.2)⟩
                    try simp only [Act.put]
                    refine Ps.step (i := 10) (d := none) (u := undef) rfl rfl (by kernel_rfl) (by kernel_rfl) (by kernel_rfl) (by kernel_rfl) ?yw9q_33 ?rw9q_33
                    case yw9q_33 =>
                      refine StepS.store [2, 6, 7, 8, 9] (by kernel_rfl) (by rfl) (fun L9 m9 w9 hSh hAt hDn hS => ?_)
                      obtain ⟨p1, p2, cc, hk, hB⟩ := TwoS.at1 hS (hAt 9 (by simp)).1 hDn
                      obtain rfl : g10 = p2 := pt_inj ((hAt 8 (by simp)).2.symm.trans hB.e2)
                      refine (exec_store_blk (w := w9) 51 (.tmp 10) (.tmp 36) (by rfl) g10 51 #[.int .u64 0, .slice none 0 0, .int .u64 0, .int .u64 0, .int .i64 0, .int .i64 0, .slice none 0 0, .bool false, .int .i64 0, .int .i64 0] #[.int .u64 T.s, .slice uA um uc, .int .u64 T.num, .int .u64 T.p.num, .int .i64 T.p.frm, .int .i64 T.p.to, .slice uD un ud, .bool T.p.sp, .int .i64 T.gone, .int .i64 T.e] (by rfl) (by rfl) hB.b2 rfl toldI (by simp [Value.oneCell'])).imp fun w7' hx => ⟨hx.1, TwoS.set2 (by decide) (hAt 9 (by simp)).1 hk (hAt 6 (by simp)).2 (hB.store2 (RunR.res _ _) (WantR.res _) hx.2.1 hx.2.2)⟩
                    try simp only [Act.put]
                    refine Ps.done (by kernel_rfl) (fun w9q hS => ?_) _
                    obtain ⟨p1, p2, d1, d2, hk1, hk2, hB⟩ := TwoS.fin hS (by rfl)
                    clear hS
                    obtain rfl : g9 = p1 := pt_inj hB.e1
                    obtain rfl : g10 = p2 := pt_inj hB.e2
                    have hk1 : Value.agg #[.int .u64 T.s, .slice tA tm tc, .int .u64 T.num, .int .u64 T.p.num, .int .i64 T.p.frm, .int .i64 T.p.to, .slice tD tn td, .bool T.p.sp, .int .i64 T.gone, .int .i64 T.e] = .agg d1 := hk1
                    have hk2 : Value.agg #[.int .u64 T.s, .slice uA um uc, .int .u64 T.num, .int .u64 T.p.num, .int .i64 T.p.frm, .int .i64 T.p.to, .slice uD un ud, .bool T.p.sp, .int .i64 T.gone, .int .i64 T.e] = .agg d2 := hk2
                    injection hk1 with hk1
                    injection hk2 with hk2
                    subst hk1 hk2
                    have hr1 : RunR w7.heap.size T (.agg #[.int .u64 T.s, .slice tA tm tc, .int .u64 T.num, .int .u64 T.p.num, .int .i64 T.p.frm, .int .i64 T.p.to, .slice tD tn td, .bool T.p.sp, .int .i64 T.gone, .int .i64 T.e]) (fun b => b ≠ g9) _ := (RunR.res _ _).weak (fun b hb _ e => by subst e; exact hb.1 hB.e1) hB.r1
                    have hr2 : WantR T (.agg #[.int .u64 T.s, .slice uA um uc, .int .u64 T.num, .int .u64 T.p.num, .int .i64 T.p.frm, .int .i64 T.p.to, .slice uD un ud, .bool T.p.sp, .int .i64 T.gone, .int .i64 T.e]) AllB _ := (WantR.res _).weak (fun _ _ _ => trivial) hB.r2
                    refine ⟨g9, g10, A5, m5, c5, tA, tm, tc, tD, tn, td, uA, um, uc, uD, un, ud, ?_, hB.b1, hB.b2, hr1, hr2, hB.l1, hB.bel⟩
                    rfl
                case tw9q_30_8 =>
                  refine Turns.mk (d := some 10) rfl rfl (TurnS.value (V := fun v => ∃ g, v = .pointer (some ⟨g, 0, none⟩)) [] (by kernel_rfl) (by rfl) (fun L9 m9 w9 hSh hAt hDn hS => ?cw9q_30_8)) (fun v8 hVv8 => ?rw9q_30_8)
                  case cw9q_30_8 =>
                    have hs1 := reach_no hSh (f := 11) (j := 9) (d := 8) (by kernel_rfl) hDn
                    have hs2 := reach_no hSh (f := 11) (j := 10) (d := 8) (by kernel_rfl) hDn
                    refine ⟨.pointer (some ⟨w9.heap.size, 0, none⟩), w9.alloc (.cells #[.int .u64 0, .slice none 0 0, .int .u64 0, .int .u64 0, .int .i64 0, .int .i64 0, .slice none 0 0, .bool false, .int .i64 0, .int .i64 0] 51), ?_, ⟨_, rfl⟩, TwoS.make2 hS (LRes.res _ _) (RunR.res _ _) (WantR.res _) hs1 hs2 (by decide)⟩
                    clear hS
                    go_simp
                    try rfl
                  try simp only [Act.put, List.setIfInBounds_toArray, List.set_cons_zero, List.set_cons_succ]
                  obtain ⟨g10, rfl⟩ := hVv8
                  refine Ps.some1 (i := 6) (by kernel_rfl) ?tw9q_34_6
                  case tw9q_34_6 =>
                    refine Turns.mk (d := some 36) rfl rfl (TurnS.call (V := fun v => ∃ uA um uc uD un ud, v = .agg #[.int .u64 T.s, .slice uA um uc, .int .u64 T.num, .int .u64 T.p.num, .int .i64 T.p.frm, .int .i64 T.p.to, .slice uD un ud, .bool T.p.sp, .int .i64 T.gone, .int .i64 T.e]) ?fw9q_34_6 ?aw9q_34_6 [5] (by kernel_rfl) (by rfl) (fun w9 => ?hw9q_34_6) (fun L9 m9 w9 hSh hAt hDn hS => ?cw9q_34_6)) (fun v6 hVv6 => ?rw9q_34_6)
                    case hw9q_34_6 => go_simp; refine ⟨?_, ?_⟩ <;> rfl
                    case cw9q_34_6 =>
                      have hs1 := reach_no hSh (f := 11) (j := 9) (d := 6) (by kernel_rfl) hDn
                      have hs2 := reach_no hSh (f := 11) (j := 10) (d := 6) (by kernel_rfl) hDn
                      have hT := TwoS.any hS
                      obtain ⟨a0, cs0, he0, ⟨A2, m2, c2, hcs, hc1, hc2, hr0⟩, rfl⟩ := (hS.at0 hs1).r0 (hAt 5 (by simp)).1
                      obtain ⟨rfl, rfl, rfl⟩ : A5 = A2 ∧ m5 = m2 ∧ c5 = c2 := by have h9 := (hAt 5 (by simp)).2.symm.trans he0; exact inj_lres h9 hcs
                      refine (HWANT.out A5 m5 c5 w9 (Lay.rd_weak (fun _ _ _ => trivial) hr0) (Nat.le_trans hc1 hc2) (RdB.below HOB.out hT)).mono ?_
                      rintro e w8 ⟨A2, m2, c2, D2, n2, d2, rfl, ho, q8⟩
                      exact ⟨_, rfl, ⟨A2, m2, c2, D2, n2, d2, rfl⟩, TwoS.call hS (LRes.res _ _) (RunR.res _ _) (WantR.res _) hs1 hs2 (by decide) q8 (fun e => absurd e (by decide)) (fun e => absurd e (by decide)) (fun _ => WantR.of ho (fun b hb => (hS.at0 hs1).avoid (.inr hb)))⟩
                    try simp only [Act.put, List.setIfInBounds_toArray, List.set_cons_zero, List.set_cons_succ]
                    obtain ⟨uA, um, uc, uD, un, ud, rfl⟩ := hVv6
                    refine Ps.step (i := 9) (d := none) (u := undef) rfl rfl (by kernel_rfl) (by kernel_rfl) (by kernel_rfl) (by kernel_rfl) ?yw9q_35 ?rw9q_35
                    case yw9q_35 =>
                      refine StepS.store [2, 6, 7, 8] (by kernel_rfl) (by rfl) (fun L9 m9 w9 hSh hAt hDn hS => ?_)
                      have hs2 := reach_no hSh (f := 11) (j := 10) (d := 9) (by kernel_rfl) hDn
                      obtain ⟨p1, p2, hB⟩ := TwoS.ready1 hS hDn (hAt 7 (by simp)).1 (hAt 8 (by simp)).1 (hAt 2 (by simp)).1 (hAt 6 (by simp)).1
                      obtain rfl : g9 = p1 := pt_inj ((hAt 7 (by simp)).2.symm.trans hB.e1)
                      refine (exec_store_blk (w := w9) 51 (.tmp 9) (.tmp 32) (by rfl) g9 51 #[.int .u64 0, .slice none 0 0, .int .u64 0, .int .u64 0, .int .i64 0, .int .i64 0, .slice none 0 0, .bool false, .int .i64 0, .int .i64 0] #[.int .u64 T.s, .slice tA tm tc, .int .u64 T.num, .int .u64 T.p.num, .int .i64 T.p.frm, .int .i64 T.p.to, .slice tD tn td, .bool T.p.sp, .int .i64 T.gone, .int .i64 T.e] (by rfl) (by rfl) hB.b1 rfl toldI (by simp [Value.oneCell'])).imp fun w7' hx => ⟨hx.1, TwoS.set1 hs2 (by decide) (hAt 2 (by simp)).2 (hB.store1 (RunR.res _ _) (WantR.res _) hx.2.1 hx.2.2)⟩
                    try simp only [Act.put]
                    refine Ps.step (i := 10) (d := none) (u := undef) rfl rfl (by kernel_rfl) (by kernel_rfl) (by kernel_rfl) (by kernel_rfl) ?yw9q_36 ?rw9q_36
                    case yw9q_36 =>
                      refine StepS.store [2, 6, 7, 8, 9] (by kernel_rfl) (by rfl) (fun L9 m9 w9 hSh hAt hDn hS => ?_)
                      obtain ⟨p1, p2, cc, hk, hB⟩ := TwoS.at1 hS (hAt 9 (by simp)).1 hDn
                      obtain rfl : g10 = p2 := pt_inj ((hAt 8 (by simp)).2.symm.trans hB.e2)
                      refine (exec_store_blk (w := w9) 51 (.tmp 10) (.tmp 36) (by rfl) g10 51 #[.int .u64 0, .slice none 0 0, .int .u64 0, .int .u64 0, .int .i64 0, .int .i64 0, .slice none 0 0, .bool false, .int .i64 0, .int .i64 0] #[.int .u64 T.s, .slice uA um uc, .int .u64 T.num, .int .u64 T.p.num, .int .i64 T.p.frm, .int .i64 T.p.to, .slice uD un ud, .bool T.p.sp, .int .i64 T.gone, .int .i64 T.e] (by rfl) (by rfl) hB.b2 rfl toldI (by simp [Value.oneCell'])).imp fun w7' hx => ⟨hx.1, TwoS.set2 (by decide) (hAt 9 (by simp)).1 hk (hAt 6 (by simp)).2 (hB.store2 (RunR.res _ _) (WantR.res _) hx.2.1 hx.2.2)⟩
                    try simp only [Act.put]
                    refine Ps.done (by kernel_rfl) (fun w9q hS => ?_) _
                    obtain ⟨p1, p2, d1, d2, hk1, hk2, hB⟩ := TwoS.fin hS (by rfl)
                    clear hS
                    obtain rfl : g9 = p1 := pt_inj hB.e1
                    obtain rfl : g10 = p2 := pt_inj hB.e2
                    have hk1 : Value.agg #[.int .u64 T.s, .slice tA tm tc, .int .u64 T.num, .int .u64 T.p.num, .int .i64 T.p.frm, .int .i64 T.p.to, .slice tD tn td, .bool T.p.sp, .int .i64 T.gone, .int .i64 T.e] = .agg d1 := hk1
                    have hk2 : Value.agg #[.int .u64 T.s, .slice uA um uc, .int .u64 T.num, .int .u64 T.p.num, .int .i64 T.p.frm, .int .i64 T.p.to, .slice uD un ud, .bool T.p.sp, .int .i64 T.gone, .int .i64 T.e] = .agg d2 := hk2
                    injection hk1 with hk1
                    injection hk2 with hk2
                    subst hk1 hk2
                    have hr1 : RunR w7.heap.size T (.agg #[.int .u64 T.s, .slice tA tm tc, .int .u64 T.num, .int .u64 T.p.num, .int .i64 T.p.frm, .int .i64 T.p.to, .slice tD tn td, .bool T.p.sp, .int .i64 T.gone, .int .i64 T.e]) (fun b => b ≠ g9) _ := (RunR.res _ _).weak (fun b hb _ e => by subst e; exact hb.1 hB.e1) hB.r1
                    have hr2 : WantR T (.agg #[.int .u64 T.s, .slice uA um uc, .int .u64 T.num, .int .u64 T.p.num, .int .i64 T.p.frm, .int .i64 T.p.to, .slice uD un ud, .bool T.p.sp, .int .i64 T.gone, .int .i64 T.e]) AllB _ := (WantR.res _).weak (fun _ _ _ => trivial) hB.r2
                    refine ⟨g9, g10, A5, m5, c5, tA, tm, tc, tD, tn, td, uA, um, uc, uD, un, ud, ?_, hB.b1, hB.b2, hr1, hr2, hB.l1, hB.bel⟩
                    rfl
              case tw9q_29_8 =>
                refine Turns.mk (d := some 10) rfl rfl (TurnS.value (V := fun v => ∃ g, v = .pointer (some ⟨g, 0, none⟩)) [] (by kernel_rfl) (by rfl) (fun L9 m9 w9 hSh hAt hDn hS => ?cw9q_29_8)) (fun v8 hVv8 => ?rw9q_29_8)
                case cw9q_29_8 =>
                  have hs1 := reach_no hSh (f := 11) (j := 9) (d := 8) (by kernel_rfl) hDn
                  have hs2 := reach_no hSh (f := 11) (j := 10) (d := 8) (by kernel_rfl) hDn
                  refine ⟨.pointer (some ⟨w9.heap.size, 0, none⟩), w9.alloc (.cells #[.int .u64 0, .slice none 0 0, .int .u64 0, .int .u64 0, .int .i64 0, .int .i64 0, .slice none 0 0, .bool false, .int .i64 0, .int .i64 0] 51), ?_, ⟨_, rfl⟩, TwoS.make2 hS (LRes.res _ _) (RunR.res _ _) (WantR.res _) hs1 hs2 (by decide)⟩
                  clear hS
                  go_simp
                  try rfl
                try simp only [Act.put, List.setIfInBounds_toArray, List.set_cons_zero, List.set_cons_succ]
                obtain ⟨g10, rfl⟩ := hVv8
                refine Ps.some1 (i := 5) (by kernel_rfl) ?tw9q_37_5
                case tw9q_37_5 =>
                  refine Turns.mk (d := some 35) rfl rfl (TurnS.call (V := fun v => ∃ A m c, v = .agg #[.int .u64 s, .slice A m c]) ?fw9q_37_5 ?aw9q_37_5 [] (by kernel_rfl) (by rfl) (fun w9 => ?hw9q_37_5) (fun L9 m9 w9 hSh hAt hDn hS => ?cw9q_37_5)) (fun v5 hVv5 => ?rw9q_37_5)
                  case hw9q_37_5 => go_simp; refine ⟨?_, ?_⟩ <;> rfl
                  case cw9q_37_5 =>
                    have hs1 := reach_no hSh (f := 11) (j := 9) (d := 5) (by kernel_rfl) hDn
                    have hs2 := reach_no hSh (f := 11) (j := 10) (d := 5) (by kernel_rfl) hDn
                    have hT := TwoS.any hS
                    refine (HSH.out A3 m3 c3 w9 (Lay.rd_below HRW.out hT) HM3.out).mono ?_
                    rintro e w8 ⟨A2, m2, c2, rfl, ho, q8⟩
                    have rd : LP.rd w8 (Av 7 8 m9) A2 m2 ps := ho.rd (fun b hb => (hS.at0 hs1).avoid (.inr hb))
                    have hcap := out_cap' ho
                    exact ⟨_, rfl, ⟨A2, m2, c2, rfl⟩, TwoS.call hS (LRes.res _ _) (RunR.res _ _) (WantR.res _) hs1 hs2 (by decide) q8 (fun _ => ⟨(s, ps), _, rfl, ⟨A2, m2, c2, rfl, hcap.1, hcap.2, rd⟩, rfl⟩) (fun e => absurd e (by decide)) (fun e => absurd e (by decide))⟩
                  try simp only [Act.put, List.setIfInBounds_toArray, List.set_cons_zero, List.set_cons_succ]
                  obtain ⟨A5, m5, c5, rfl⟩ := hVv5
                  refine Ps.some1 (i := 6) (by kernel_rfl) ?tw9q_38_6
                  case tw9q_38_6 =>
                    refine Turns.mk (d := some 36) rfl rfl (TurnS.call (V := fun v => ∃ uA um uc uD un ud, v = .agg #[.int .u64 T.s, .slice uA um uc, .int .u64 T.num, .int .u64 T.p.num, .int .i64 T.p.frm, .int .i64 T.p.to, .slice uD un ud, .bool T.p.sp, .int .i64 T.gone, .int .i64 T.e]) ?fw9q_38_6 ?aw9q_38_6 [5] (by kernel_rfl) (by rfl) (fun w9 => ?hw9q_38_6) (fun L9 m9 w9 hSh hAt hDn hS => ?cw9q_38_6)) (fun v6 hVv6 => ?rw9q_38_6)
                    case hw9q_38_6 => go_simp; refine ⟨?_, ?_⟩ <;> rfl
                    case cw9q_38_6 =>
                      have hs1 := reach_no hSh (f := 11) (j := 9) (d := 6) (by kernel_rfl) hDn
                      have hs2 := reach_no hSh (f := 11) (j := 10) (d := 6) (by kernel_rfl) hDn
                      have hT := TwoS.any hS
                      obtain ⟨a0, cs0, he0, ⟨A2, m2, c2, hcs, hc1, hc2, hr0⟩, rfl⟩ := (hS.at0 hs1).r0 (hAt 5 (by simp)).1
                      obtain ⟨rfl, rfl, rfl⟩ : A5 = A2 ∧ m5 = m2 ∧ c5 = c2 := by have h9 := (hAt 5 (by simp)).2.symm.trans he0; exact inj_lres h9 hcs
                      refine (HWANT.out A5 m5 c5 w9 (Lay.rd_weak (fun _ _ _ => trivial) hr0) (Nat.le_trans hc1 hc2) (RdB.below HOB.out hT)).mono ?_
                      rintro e w8 ⟨A2, m2, c2, D2, n2, d2, rfl, ho, q8⟩
                      exact ⟨_, rfl, ⟨A2, m2, c2, D2, n2, d2, rfl⟩, TwoS.call hS (LRes.res _ _) (RunR.res _ _) (WantR.res _) hs1 hs2 (by decide) q8 (fun e => absurd e (by decide)) (fun e => absurd e (by decide)) (fun _ => WantR.of ho (fun b hb => (hS.at0 hs1).avoid (.inr hb)))⟩
                    try simp only [Act.put, List.setIfInBounds_toArray, List.set_cons_zero, List.set_cons_succ]
                    obtain ⟨uA, um, uc, uD, un, ud, rfl⟩ := hVv6
                    refine Ps.step (i := 9) (d := none) (u := undef) rfl rfl (by kernel_rfl) (by kernel_rfl) (by kernel_rfl) (by kernel_rfl) ?yw9q_39 ?rw9q_39
                    case yw9q_39 =>
                      refine StepS.store [2, 6, 7, 8] (by kernel_rfl) (by rfl) (fun L9 m9 w9 hSh hAt hDn hS => ?_)
                      have hs2 := reach_no hSh (f := 11) (j := 10) (d := 9) (by kernel_rfl) hDn
                      obtain ⟨p1, p2, hB⟩ := TwoS.ready1 hS hDn (hAt 7 (by simp)).1 (hAt 8 (by simp)).1 (hAt 2 (by simp)).1 (hAt 6 (by simp)).1
                      obtain rfl : g9 = p1 := pt_inj ((hAt 7 (by simp)).2.symm.trans hB.e1)
                      refine (exec_store_blk (w := w9) 51 (.tmp 9) (.tmp 32) (by rfl) g9 51 #[.int .u64 0, .slice none 0 0, .int .u64 0, .int .u64 0, .int .i64 0, .int .i64 0, .slice none 0 0, .bool false, .int .i64 0, .int .i64 0] #[.int .u64 T.s, .slice tA tm tc, .int .u64 T.num, .int .u64 T.p.num, .int .i64 T.p.frm, .int .i64 T.p.to, .slice tD tn td, .bool T.p.sp, .int .i64 T.gone, .int .i64 T.e] (by rfl) (by rfl) hB.b1 rfl toldI (by simp [Value.oneCell'])).imp fun w7' hx => ⟨hx.1, TwoS.set1 hs2 (by decide) (hAt 2 (by simp)).2 (hB.store1 (RunR.res _ _) (WantR.res _) hx.2.1 hx.2.2)⟩
                    try simp only [Act.put]
                    refine Ps.step (i := 10) (d := none) (u := undef) rfl rfl (by kernel_rfl) (by kernel_rfl) (by kernel_rfl) (by kernel_rfl) ?yw9q_40 ?rw9q_40
                    case yw9q_40 =>
                      refine StepS.store [2, 6, 7, 8, 9] (by kernel_rfl) (by rfl) (fun L9 m9 w9 hSh hAt hDn hS => ?_)
                      obtain ⟨p1, p2, cc, hk, hB⟩ := TwoS.at1 hS (hAt 9 (by simp)).1 hDn
                      obtain rfl : g10 = p2 := pt_inj ((hAt 8 (by simp)).2.symm.trans hB.e2)
                      refine (exec_store_blk (w := w9) 51 (.tmp 10) (.tmp 36) (by rfl) g10 51 #[.int .u64 0, .slice none 0 0, .int .u64 0, .int .u64 0, .int .i64 0, .int .i64 0, .slice none 0 0, .bool false, .int .i64 0, .int .i64 0] #[.int .u64 T.s, .slice uA um uc, .int .u64 T.num, .int .u64 T.p.num, .int .i64 T.p.frm, .int .i64 T.p.to, .slice uD un ud, .bool T.p.sp, .int .i64 T.gone, .int .i64 T.e] (by rfl) (by rfl) hB.b2 rfl toldI (by simp [Value.oneCell'])).imp fun w7' hx => ⟨hx.1, TwoS.set2 (by decide) (hAt 9 (by simp)).1 hk (hAt 6 (by simp)).2 (hB.store2 (RunR.res _ _) (WantR.res _) hx.2.1 hx.2.2)⟩
                    try simp only [Act.put]
                    refine Ps.done (by kernel_rfl) (fun w9q hS => ?_) _
                    obtain ⟨p1, p2, d1, d2, hk1, hk2, hB⟩ := TwoS.fin hS (by rfl)
                    clear hS
                    obtain rfl : g9 = p1 := pt_inj hB.e1
                    obtain rfl : g10 = p2 := pt_inj hB.e2
                    have hk1 : Value.agg #[.int .u64 T.s, .slice tA tm tc, .int .u64 T.num, .int .u64 T.p.num, .int .i64 T.p.frm, .int .i64 T.p.to, .slice tD tn td, .bool T.p.sp, .int .i64 T.gone, .int .i64 T.e] = .agg d1 := hk1
                    have hk2 : Value.agg #[.int .u64 T.s, .slice uA um uc, .int .u64 T.num, .int .u64 T.p.num, .int .i64 T.p.frm, .int .i64 T.p.to, .slice uD un ud, .bool T.p.sp, .int .i64 T.gone, .int .i64 T.e] = .agg d2 := hk2
                    injection hk1 with hk1
                    injection hk2 with hk2
                    subst hk1 hk2
                    have hr1 : RunR w7.heap.size T (.agg #[.int .u64 T.s, .slice tA tm tc, .int .u64 T.num, .int .u64 T.p.num, .int .i64 T.p.frm, .int .i64 T.p.to, .slice tD tn td, .bool T.p.sp, .int .i64 T.gone, .int .i64 T.e]) (fun b => b ≠ g9) _ := (RunR.res _ _).weak (fun b hb _ e => by subst e; exact hb.1 hB.e1) hB.r1
                    have hr2 : WantR T (.agg #[.int .u64 T.s, .slice uA um uc, .int .u64 T.num, .int .u64 T.p.num, .int .i64 T.p.frm, .int .i64 T.p.to, .slice uD un ud, .bool T.p.sp, .int .i64 T.gone, .int .i64 T.e]) AllB _ := (WantR.res _).weak (fun _ _ _ => trivial) hB.r2
                    refine ⟨g9, g10, A5, m5, c5, tA, tm, tc, tD, tn, td, uA, um, uc, uD, un, ud, ?_, hB.b1, hB.b2, hr1, hr2, hB.l1, hB.bel⟩
                    rfl
            case tw9q_6_8 =>
              refine Turns.mk (d := some 10) rfl rfl (TurnS.value (V := fun v => ∃ g, v = .pointer (some ⟨g, 0, none⟩)) [] (by kernel_rfl) (by rfl) (fun L9 m9 w9 hSh hAt hDn hS => ?cw9q_6_8)) (fun v8 hVv8 => ?rw9q_6_8)
              case cw9q_6_8 =>
                have hs1 := reach_no hSh (f := 11) (j := 9) (d := 8) (by kernel_rfl) hDn
                have hs2 := reach_no hSh (f := 11) (j := 10) (d := 8) (by kernel_rfl) hDn
                refine ⟨.pointer (some ⟨w9.heap.size, 0, none⟩), w9.alloc (.cells #[.int .u64 0, .slice none 0 0, .int .u64 0, .int .u64 0, .int .i64 0, .int .i64 0, .slice none 0 0, .bool false, .int .i64 0, .int .i64 0] 51), ?_, ⟨_, rfl⟩, TwoS.make2 hS (LRes.res _ _) (RunR.res _ _) (WantR.res _) hs1 hs2 (by decide)⟩
                clear hS
                go_simp
                try rfl
              try simp only [Act.put, List.setIfInBounds_toArray, List.set_cons_zero, List.set_cons_succ]
              obtain ⟨g10, rfl⟩ := hVv8
              refine Ps.some2 (i := 5) (j := 7) (by kernel_rfl) ?tw9q_41_5 ?tw9q_41_7
              case tw9q_41_5 =>
                refine Turns.mk (d := some 35) rfl rfl (TurnS.call (V := fun v => ∃ A m c, v = .agg #[.int .u64 s, .slice A m c]) ?fw9q_41_5 ?aw9q_41_5 [] (by kernel_rfl) (by rfl) (fun w9 => ?hw9q_41_5) (fun L9 m9 w9 hSh hAt hDn hS => ?cw9q_41_5)) (fun v5 hVv5 => ?rw9q_41_5)
                case hw9q_41_5 => go_simp; refine ⟨?_, ?_⟩ <;> rfl
                case cw9q_41_5 =>
                  have hs1 := reach_no hSh (f := 11) (j := 9) (d := 5) (by kernel_rfl) hDn
                  have hs2 := reach_no hSh (f := 11) (j := 10) (d := 5) (by kernel_rfl) hDn
                  have hT := TwoS.any hS
                  refine (HSH.out A3 m3 c3 w9 (Lay.rd_below HRW.out hT) HM3.out).mono ?_
                  rintro e w8 ⟨A2, m2, c2, rfl, ho, q8⟩
                  have rd : LP.rd w8 (Av 7 8 m9) A2 m2 ps := ho.rd (fun b hb => (hS.at0 hs1).avoid (.inr hb))
                  have hcap := out_cap' ho
                  exact ⟨_, rfl, ⟨A2, m2, c2, rfl⟩, TwoS.call hS (LRes.res _ _) (RunR.res _ _) (WantR.res _) hs1 hs2 (by decide) q8 (fun _ => ⟨(s, ps), _, rfl, ⟨A2, m2, c2, rfl, hcap.1, hcap.2, rd⟩, rfl⟩) (fun e => absurd e (by decide)) (fun e => absurd e (by decide))⟩
                try simp only [Act.put, List.setIfInBounds_toArray, List.set_cons_zero, List.set_cons_succ]
                obtain ⟨A5, m5, c5, rfl⟩ := hVv5
                refine Ps.some2 (i := 6) (j := 7) (by kernel_rfl) ?tw9q_42_6 ?tw9q_42_7
                case tw9q_42_6 =>
                  refine Turns.mk (d := some 36) rfl rfl (TurnS.call (V := fun v => ∃ uA um uc uD un ud, v = .agg #[.int .u64 T.s, .slice uA um uc, .int .u64 T.num, .int .u64 T.p.num, .int .i64 T.p.frm, .int .i64 T.p.to, .slice uD un ud, .bool T.p.sp, .int .i64 T.gone, .int .i64 T.e]) ?fw9q_42_6 ?aw9q_42_6 [5] (by kernel_rfl) (by rfl) (fun w9 => ?hw9q_42_6) (fun L9 m9 w9 hSh hAt hDn hS => ?cw9q_42_6)) (fun v6 hVv6 => ?rw9q_42_6)
                  case hw9q_42_6 => go_simp; refine ⟨?_, ?_⟩ <;> rfl
                  case cw9q_42_6 =>
                    have hs1 := reach_no hSh (f := 11) (j := 9) (d := 6) (by kernel_rfl) hDn
                    have hs2 := reach_no hSh (f := 11) (j := 10) (d := 6) (by kernel_rfl) hDn
                    have hT := TwoS.any hS
                    obtain ⟨a0, cs0, he0, ⟨A2, m2, c2, hcs, hc1, hc2, hr0⟩, rfl⟩ := (hS.at0 hs1).r0 (hAt 5 (by simp)).1
                    obtain ⟨rfl, rfl, rfl⟩ : A5 = A2 ∧ m5 = m2 ∧ c5 = c2 := by have h9 := (hAt 5 (by simp)).2.symm.trans he0; exact inj_lres h9 hcs
                    refine (HWANT.out A5 m5 c5 w9 (Lay.rd_weak (fun _ _ _ => trivial) hr0) (Nat.le_trans hc1 hc2) (RdB.below HOB.out hT)).mono ?_
                    rintro e w8 ⟨A2, m2, c2, D2, n2, d2, rfl, ho, q8⟩
                    exact ⟨_, rfl, ⟨A2, m2, c2, D2, n2, d2, rfl⟩, TwoS.call hS (LRes.res _ _) (RunR.res _ _) (WantR.res _) hs1 hs2 (by decide) q8 (fun e => absurd e (by decide)) (fun e => absurd e (by decide)) (fun _ => WantR.of ho (fun b hb => (hS.at0 hs1).avoid (.inr hb)))⟩
                  try simp only [Act.put, List.setIfInBounds_toArray, List.set_cons_zero, List.set_cons_succ]
                  obtain ⟨uA, um, uc, uD, un, ud, rfl⟩ := hVv6
                  refine Ps.some1 (i := 7) (by kernel_rfl) ?tw9q_43_7
                  case tw9q_43_7 =>
                    refine Turns.mk (d := some 9) rfl rfl (TurnS.value (V := fun v => ∃ g, v = .pointer (some ⟨g, 0, none⟩)) [] (by kernel_rfl) (by rfl) (fun L9 m9 w9 hSh hAt hDn hS => ?cw9q_43_7)) (fun v7 hVv7 => ?rw9q_43_7)
                    case cw9q_43_7 =>
                      have hs1 := reach_no hSh (f := 11) (j := 9) (d := 7) (by kernel_rfl) hDn
                      have hs2 := reach_no hSh (f := 11) (j := 10) (d := 7) (by kernel_rfl) hDn
                      refine ⟨.pointer (some ⟨w9.heap.size, 0, none⟩), w9.alloc (.cells #[.int .u64 0, .slice none 0 0, .int .u64 0, .int .u64 0, .int .i64 0, .int .i64 0, .slice none 0 0, .bool false, .int .i64 0, .int .i64 0] 51), ?_, ⟨_, rfl⟩, TwoS.make1 hS (LRes.res _ _) (RunR.res _ _) (WantR.res _) hs1 hs2 (by decide)⟩
                      clear hS
                      go_simp
                      try rfl
                    try simp only [Act.put, List.setIfInBounds_toArray, List.set_cons_zero, List.set_cons_succ]
                    obtain ⟨g9, rfl⟩ := hVv7
                    refine Ps.step (i := 9) (d := none) (u := undef) rfl rfl (by kernel_rfl) (by kernel_rfl) (by kernel_rfl) (by kernel_rfl) ?yw9q_44 ?rw9q_44
                    case yw9q_44 =>
                      refine StepS.store [2, 6, 7, 8] (by kernel_rfl) (by rfl) (fun L9 m9 w9 hSh hAt hDn hS => ?_)
                      have hs2 := reach_no hSh (f := 11) (j := 10) (d := 9) (by kernel_rfl) hDn
                      obtain ⟨p1, p2, hB⟩ := TwoS.ready1 hS hDn (hAt 7 (by simp)).1 (hAt 8 (by simp)).1 (hAt 2 (by simp)).1 (hAt 6 (by simp)).1
                      obtain rfl : g9 = p1 := pt_inj ((hAt 7 (by simp)).2.symm.trans hB.e1)
                      refine (exec_store_blk (w := w9) 51 (.tmp 9) (.tmp 32) (by rfl) g9 51 #[.int .u64 0, .slice none 0 0, .int .u64 0, .int .u64 0, .int .i64 0, .int .i64 0, .slice none 0 0, .bool false, .int .i64 0, .int .i64 0] #[.int .u64 T.s, .slice tA tm tc, .int .u64 T.num, .int .u64 T.p.num, .int .i64 T.p.frm, .int .i64 T.p.to, .slice tD tn td, .bool T.p.sp, .int .i64 T.gone, .int .i64 T.e] (by rfl) (by rfl) hB.b1 rfl toldI (by simp [Value.oneCell'])).imp fun w7' hx => ⟨hx.1, TwoS.set1 hs2 (by decide) (hAt 2 (by simp)).2 (hB.store1 (RunR.res _ _) (WantR.res _) hx.2.1 hx.2.2)⟩
                    try simp only [Act.put]
                    refine Ps.step (i := 10) (d := none) (u := undef) rfl rfl (by kernel_rfl) (by kernel_rfl) (by kernel_rfl) (by kernel_rfl) ?yw9q_45 ?rw9q_45
                    case yw9q_45 =>
                      refine StepS.store [2, 6, 7, 8, 9] (by kernel_rfl) (by rfl) (fun L9 m9 w9 hSh hAt hDn hS => ?_)
                      obtain ⟨p1, p2, cc, hk, hB⟩ := TwoS.at1 hS (hAt 9 (by simp)).1 hDn
                      obtain rfl : g10 = p2 := pt_inj ((hAt 8 (by simp)).2.symm.trans hB.e2)
                      refine (exec_store_blk (w := w9) 51 (.tmp 10) (.tmp 36) (by rfl) g10 51 #[.int .u64 0, .slice none 0 0, .int .u64 0, .int .u64 0, .int .i64 0, .int .i64 0, .slice none 0 0, .bool false, .int .i64 0, .int .i64 0] #[.int .u64 T.s, .slice uA um uc, .int .u64 T.num, .int .u64 T.p.num, .int .i64 T.p.frm, .int .i64 T.p.to, .slice uD un ud, .bool T.p.sp, .int .i64 T.gone, .int .i64 T.e] (by rfl) (by rfl) hB.b2 rfl toldI (by simp [Value.oneCell'])).imp fun w7' hx => ⟨hx.1, TwoS.set2 (by decide) (hAt 9 (by simp)).1 hk (hAt 6 (by simp)).2 (hB.store2 (RunR.res _ _) (WantR.res _) hx.2.1 hx.2.2)⟩
                    try simp only [Act.put]
                    refine Ps.done (by kernel_rfl) (fun w9q hS => ?_) _
                    obtain ⟨p1, p2, d1, d2, hk1, hk2, hB⟩ := TwoS.fin hS (by rfl)
                    clear hS
                    obtain rfl : g9 = p1 := pt_inj hB.e1
                    obtain rfl : g10 = p2 := pt_inj hB.e2
                    have hk1 : Value.agg #[.int .u64 T.s, .slice tA tm tc, .int .u64 T.num, .int .u64 T.p.num, .int .i64 T.p.frm, .int .i64 T.p.to, .slice tD tn td, .bool T.p.sp, .int .i64 T.gone, .int .i64 T.e] = .agg d1 := hk1
                    have hk2 : Value.agg #[.int .u64 T.s, .slice uA um uc, .int .u64 T.num, .int .u64 T.p.num, .int .i64 T.p.frm, .int .i64 T.p.to, .slice uD un ud, .bool T.p.sp, .int .i64 T.gone, .int .i64 T.e] = .agg d2 := hk2
                    injection hk1 with hk1
                    injection hk2 with hk2
                    subst hk1 hk2
                    have hr1 : RunR w7.heap.size T (.agg #[.int .u64 T.s, .slice tA tm tc, .int .u64 T.num, .int .u64 T.p.num, .int .i64 T.p.frm, .int .i64 T.p.to, .slice tD tn td, .bool T.p.sp, .int .i64 T.gone, .int .i64 T.e]) (fun b => b ≠ g9) _ := (RunR.res _ _).weak (fun b hb _ e => by subst e; exact hb.1 hB.e1) hB.r1
                    have hr2 : WantR T (.agg #[.int .u64 T.s, .slice uA um uc, .int .u64 T.num, .int .u64 T.p.num, .int .i64 T.p.frm, .int .i64 T.p.to, .slice uD un ud, .bool T.p.sp, .int .i64 T.gone, .int .i64 T.e]) AllB _ := (WantR.res _).weak (fun _ _ _ => trivial) hB.r2
                    refine ⟨g9, g10, A5, m5, c5, tA, tm, tc, tD, tn, td, uA, um, uc, uD, un, ud, ?_, hB.b1, hB.b2, hr1, hr2, hB.l1, hB.bel⟩
                    rfl
                case tw9q_42_7 =>
                  refine Turns.mk (d := some 9) rfl rfl (TurnS.value (V := fun v => ∃ g, v = .pointer (some ⟨g, 0, none⟩)) [] (by kernel_rfl) (by rfl) (fun L9 m9 w9 hSh hAt hDn hS => ?cw9q_42_7)) (fun v7 hVv7 => ?rw9q_42_7)
                  case cw9q_42_7 =>
                    have hs1 := reach_no hSh (f := 11) (j := 9) (d := 7) (by kernel_rfl) hDn
                    have hs2 := reach_no hSh (f := 11) (j := 10) (d := 7) (by kernel_rfl) hDn
                    refine ⟨.pointer (some ⟨w9.heap.size, 0, none⟩), w9.alloc (.cells #[.int .u64 0, .slice none 0 0, .int .u64 0, .int .u64 0, .int .i64 0, .int .i64 0, .slice none 0 0, .bool false, .int .i64 0, .int .i64 0] 51), ?_, ⟨_, rfl⟩, TwoS.make1 hS (LRes.res _ _) (RunR.res _ _) (WantR.res _) hs1 hs2 (by decide)⟩
                    clear hS
                    go_simp
                    try rfl
                  try simp only [Act.put, List.setIfInBounds_toArray, List.set_cons_zero, List.set_cons_succ]
                  obtain ⟨g9, rfl⟩ := hVv7
                  refine Ps.some1 (i := 6) (by kernel_rfl) ?tw9q_46_6
                  case tw9q_46_6 =>
                    refine Turns.mk (d := some 36) rfl rfl (TurnS.call (V := fun v => ∃ uA um uc uD un ud, v = .agg #[.int .u64 T.s, .slice uA um uc, .int .u64 T.num, .int .u64 T.p.num, .int .i64 T.p.frm, .int .i64 T.p.to, .slice uD un ud, .bool T.p.sp, .int .i64 T.gone, .int .i64 T.e]) ?fw9q_46_6 ?aw9q_46_6 [5] (by kernel_rfl) (by rfl) (fun w9 => ?hw9q_46_6) (fun L9 m9 w9 hSh hAt hDn hS => ?cw9q_46_6)) (fun v6 hVv6 => ?rw9q_46_6)
                    case hw9q_46_6 => go_simp; refine ⟨?_, ?_⟩ <;> rfl
                    case cw9q_46_6 =>
                      have hs1 := reach_no hSh (f := 11) (j := 9) (d := 6) (by kernel_rfl) hDn
                      have hs2 := reach_no hSh (f := 11) (j := 10) (d := 6) (by kernel_rfl) hDn
                      have hT := TwoS.any hS
                      obtain ⟨a0, cs0, he0, ⟨A2, m2, c2, hcs, hc1, hc2, hr0⟩, rfl⟩ := (hS.at0 hs1).r0 (hAt 5 (by simp)).1
                      obtain ⟨rfl, rfl, rfl⟩ : A5 = A2 ∧ m5 = m2 ∧ c5 = c2 := by have h9 := (hAt 5 (by simp)).2.symm.trans he0; exact inj_lres h9 hcs
                      refine (HWANT.out A5 m5 c5 w9 (Lay.rd_weak (fun _ _ _ => trivial) hr0) (Nat.le_trans hc1 hc2) (RdB.below HOB.out hT)).mono ?_
                      rintro e w8 ⟨A2, m2, c2, D2, n2, d2, rfl, ho, q8⟩
                      exact ⟨_, rfl, ⟨A2, m2, c2, D2, n2, d2, rfl⟩, TwoS.call hS (LRes.res _ _) (RunR.res _ _) (WantR.res _) hs1 hs2 (by decide) q8 (fun e => absurd e (by decide)) (fun e => absurd e (by decide)) (fun _ => WantR.of ho (fun b hb => (hS.at0 hs1).avoid (.inr hb)))⟩
                    try simp only [Act.put, List.setIfInBounds_toArray, List.set_cons_zero, List.set_cons_succ]
                    obtain ⟨uA, um, uc, uD, un, ud, rfl⟩ := hVv6
                    refine Ps.step (i := 9) (d := none) (u := undef) rfl rfl (by kernel_rfl) (by kernel_rfl) (by kernel_rfl) (by kernel_rfl) ?yw9q_47 ?rw9q_47
                    case yw9q_47 =>
                      refine StepS.store [2, 6, 7, 8] (by kernel_rfl) (by rfl) (fun L9 m9 w9 hSh hAt hDn hS => ?_)
                      have hs2 := reach_no hSh (f := 11) (j := 10) (d := 9) (by kernel_rfl) hDn
                      obtain ⟨p1, p2, hB⟩ := TwoS.ready1 hS hDn (hAt 7 (by simp)).1 (hAt 8 (by simp)).1 (hAt 2 (by simp)).1 (hAt 6 (by simp)).1
                      obtain rfl : g9 = p1 := pt_inj ((hAt 7 (by simp)).2.symm.trans hB.e1)
                      refine (exec_store_blk (w := w9) 51 (.tmp 9) (.tmp 32) (by rfl) g9 51 #[.int .u64 0, .slice none 0 0, .int .u64 0, .int .u64 0, .int .i64 0, .int .i64 0, .slice none 0 0, .bool false, .int .i64 0, .int .i64 0] #[.int .u64 T.s, .slice tA tm tc, .int .u64 T.num, .int .u64 T.p.num, .int .i64 T.p.frm, .int .i64 T.p.to, .slice tD tn td, .bool T.p.sp, .int .i64 T.gone, .int .i64 T.e] (by rfl) (by rfl) hB.b1 rfl toldI (by simp [Value.oneCell'])).imp fun w7' hx => ⟨hx.1, TwoS.set1 hs2 (by decide) (hAt 2 (by simp)).2 (hB.store1 (RunR.res _ _) (WantR.res _) hx.2.1 hx.2.2)⟩
                    try simp only [Act.put]
                    refine Ps.step (i := 10) (d := none) (u := undef) rfl rfl (by kernel_rfl) (by kernel_rfl) (by kernel_rfl) (by kernel_rfl) ?yw9q_48 ?rw9q_48
                    case yw9q_48 =>
                      refine StepS.store [2, 6, 7, 8, 9] (by kernel_rfl) (by rfl) (fun L9 m9 w9 hSh hAt hDn hS => ?_)
                      obtain ⟨p1, p2, cc, hk, hB⟩ := TwoS.at1 hS (hAt 9 (by simp)).1 hDn
                      obtain rfl : g10 = p2 := pt_inj ((hAt 8 (by simp)).2.symm.trans hB.e2)
                      refine (exec_store_blk (w := w9) 51 (.tmp 10) (.tmp 36) (by rfl) g10 51 #[.int .u64 0, .slice none 0 0, .int .u64 0, .int .u64 0, .int .i64 0, .int .i64 0, .slice none 0 0, .bool false, .int .i64 0, .int .i64 0] #[.int .u64 T.s, .slice uA um uc, .int .u64 T.num, .int .u64 T.p.num, .int .i64 T.p.frm, .int .i64 T.p.to, .slice uD un ud, .bool T.p.sp, .int .i64 T.gone, .int .i64 T.e] (by rfl) (by rfl) hB.b2 rfl toldI (by simp [Value.oneCell'])).imp fun w7' hx => ⟨hx.1, TwoS.set2 (by decide) (hAt 9 (by simp)).1 hk (hAt 6 (by simp)).2 (hB.store2 (RunR.res _ _) (WantR.res _) hx.2.1 hx.2.2)⟩
                    try simp only [Act.put]
                    refine Ps.done (by kernel_rfl) (fun w9q hS => ?_) _
                    obtain ⟨p1, p2, d1, d2, hk1, hk2, hB⟩ := TwoS.fin hS (by rfl)
                    clear hS
                    obtain rfl : g9 = p1 := pt_inj hB.e1
                    obtain rfl : g10 = p2 := pt_inj hB.e2
                    have hk1 : Value.agg #[.int .u64 T.s, .slice tA tm tc, .int .u64 T.num, .int .u64 T.p.num, .int .i64 T.p.frm, .int .i64 T.p.to, .slice tD tn td, .bool T.p.sp, .int .i64 T.gone, .int .i64 T.e] = .agg d1 := hk1
                    have hk2 : Value.agg #[.int .u64 T.s, .slice uA um uc, .int .u64 T.num, .int .u64 T.p.num, .int .i64 T.p.frm, .int .i64 T.p.to, .slice uD un ud, .bool T.p.sp, .int .i64 T.gone, .int .i64 T.e] = .agg d2 := hk2
                    injection hk1 with hk1
                    injection hk2 with hk2
                    subst hk1 hk2
                    have hr1 : RunR w7.heap.size T (.agg #[.int .u64 T.s, .slice tA tm tc, .int .u64 T.num, .int .u64 T.p.num, .int .i64 T.p.frm, .int .i64 T.p.to, .slice tD tn td, .bool T.p.sp, .int .i64 T.gone, .int .i64 T.e]) (fun b => b ≠ g9) _ := (RunR.res _ _).weak (fun b hb _ e => by subst e; exact hb.1 hB.e1) hB.r1
                    have hr2 : WantR T (.agg #[.int .u64 T.s, .slice uA um uc, .int .u64 T.num, .int .u64 T.p.num, .int .i64 T.p.frm, .int .i64 T.p.to, .slice uD un ud, .bool T.p.sp, .int .i64 T.gone, .int .i64 T.e]) AllB _ := (WantR.res _).weak (fun _ _ _ => trivial) hB.r2
                    refine ⟨g9, g10, A5, m5, c5, tA, tm, tc, tD, tn, td, uA, um, uc, uD, un, ud, ?_, hB.b1, hB.b2, hr1, hr2, hB.l1, hB.bel⟩
                    rfl
              case tw9q_41_7 =>
                refine Turns.mk (d := some 9) rfl rfl (TurnS.value (V := fun v => ∃ g, v = .pointer (some ⟨g, 0, none⟩)) [] (by kernel_rfl) (by rfl) (fun L9 m9 w9 hSh hAt hDn hS => ?cw9q_41_7)) (fun v7 hVv7 => ?rw9q_41_7)
                case cw9q_41_7 =>
                  have hs1 := reach_no hSh (f := 11) (j := 9) (d := 7) (by kernel_rfl) hDn
                  have hs2 := reach_no hSh (f := 11) (j := 10) (d := 7) (by kernel_rfl) hDn
                  refine ⟨.pointer (some ⟨w9.heap.size, 0, none⟩), w9.alloc (.cells #[.int .u64 0, .slice none 0 0, .int .u64 0, .int .u64 0, .int .i64 0, .int .i64 0, .slice none 0 0, .bool false, .int .i64 0, .int .i64 0] 51), ?_, ⟨_, rfl⟩, TwoS.make1 hS (LRes.res _ _) (RunR.res _ _) (WantR.res _) hs1 hs2 (by decide)⟩
                  clear hS
                  go_simp
                  try rfl
                try simp only [Act.put, List.setIfInBounds_toArray, List.set_cons_zero, List.set_cons_succ]
                obtain ⟨g9, rfl⟩ := hVv7
                refine Ps.some1 (i := 5) (by kernel_rfl) ?tw9q_49_5
                case tw9q_49_5 =>
                  refine Turns.mk (d := some 35) rfl rfl (TurnS.call (V := fun v => ∃ A m c, v = .agg #[.int .u64 s, .slice A m c]) ?fw9q_49_5 ?aw9q_49_5 [] (by kernel_rfl) (by rfl) (fun w9 => ?hw9q_49_5) (fun L9 m9 w9 hSh hAt hDn hS => ?cw9q_49_5)) (fun v5 hVv5 => ?rw9q_49_5)
                  case hw9q_49_5 => go_simp; refine ⟨?_, ?_⟩ <;> rfl
                  case cw9q_49_5 =>
                    have hs1 := reach_no hSh (f := 11) (j := 9) (d := 5) (by kernel_rfl) hDn
                    have hs2 := reach_no hSh (f := 11) (j := 10) (d := 5) (by kernel_rfl) hDn
                    have hT := TwoS.any hS
                    refine (HSH.out A3 m3 c3 w9 (Lay.rd_below HRW.out hT) HM3.out).mono ?_
                    rintro e w8 ⟨A2, m2, c2, rfl, ho, q8⟩
                    have rd : LP.rd w8 (Av 7 8 m9) A2 m2 ps := ho.rd (fun b hb => (hS.at0 hs1).avoid (.inr hb))
                    have hcap := out_cap' ho
                    exact ⟨_, rfl, ⟨A2, m2, c2, rfl⟩, TwoS.call hS (LRes.res _ _) (RunR.res _ _) (WantR.res _) hs1 hs2 (by decide) q8 (fun _ => ⟨(s, ps), _, rfl, ⟨A2, m2, c2, rfl, hcap.1, hcap.2, rd⟩, rfl⟩) (fun e => absurd e (by decide)) (fun e => absurd e (by decide))⟩
                  try simp only [Act.put, List.setIfInBounds_toArray, List.set_cons_zero, List.set_cons_succ]
                  obtain ⟨A5, m5, c5, rfl⟩ := hVv5
                  refine Ps.some1 (i := 6) (by kernel_rfl) ?tw9q_50_6
                  case tw9q_50_6 =>
                    refine Turns.mk (d := some 36) rfl rfl (TurnS.call (V := fun v => ∃ uA um uc uD un ud, v = .agg #[.int .u64 T.s, .slice uA um uc, .int .u64 T.num, .int .u64 T.p.num, .int .i64 T.p.frm, .int .i64 T.p.to, .slice uD un ud, .bool T.p.sp, .int .i64 T.gone, .int .i64 T.e]) ?fw9q_50_6 ?aw9q_50_6 [5] (by kernel_rfl) (by rfl) (fun w9 => ?hw9q_50_6) (fun L9 m9 w9 hSh hAt hDn hS => ?cw9q_50_6)) (fun v6 hVv6 => ?rw9q_50_6)
                    case hw9q_50_6 => go_simp; refine ⟨?_, ?_⟩ <;> rfl
                    case cw9q_50_6 =>
                      have hs1 := reach_no hSh (f := 11) (j := 9) (d := 6) (by kernel_rfl) hDn
                      have hs2 := reach_no hSh (f := 11) (j := 10) (d := 6) (by kernel_rfl) hDn
                      have hT := TwoS.any hS
                      obtain ⟨a0, cs0, he0, ⟨A2, m2, c2, hcs, hc1, hc2, hr0⟩, rfl⟩ := (hS.at0 hs1).r0 (hAt 5 (by simp)).1
                      obtain ⟨rfl, rfl, rfl⟩ : A5 = A2 ∧ m5 = m2 ∧ c5 = c2 := by have h9 := (hAt 5 (by simp)).2.symm.trans he0; exact inj_lres h9 hcs
                      refine (HWANT.out A5 m5 c5 w9 (Lay.rd_weak (fun _ _ _ => trivial) hr0) (Nat.le_trans hc1 hc2) (RdB.below HOB.out hT)).mono ?_
                      rintro e w8 ⟨A2, m2, c2, D2, n2, d2, rfl, ho, q8⟩
                      exact ⟨_, rfl, ⟨A2, m2, c2, D2, n2, d2, rfl⟩, TwoS.call hS (LRes.res _ _) (RunR.res _ _) (WantR.res _) hs1 hs2 (by decide) q8 (fun e => absurd e (by decide)) (fun e => absurd e (by decide)) (fun _ => WantR.of ho (fun b hb => (hS.at0 hs1).avoid (.inr hb)))⟩
                    try simp only [Act.put, List.setIfInBounds_toArray, List.set_cons_zero, List.set_cons_succ]
                    obtain ⟨uA, um, uc, uD, un, ud, rfl⟩ := hVv6
                    refine Ps.step (i := 9) (d := none) (u := undef) rfl rfl (by kernel_rfl) (by kernel_rfl) (by kernel_rfl) (by kernel_rfl) ?yw9q_51 ?rw9q_51
                    case yw9q_51 =>
                      refine StepS.store [2, 6, 7, 8] (by kernel_rfl) (by rfl) (fun L9 m9 w9 hSh hAt hDn hS => ?_)
                      have hs2 := reach_no hSh (f := 11) (j := 10) (d := 9) (by kernel_rfl) hDn
                      obtain ⟨p1, p2, hB⟩ := TwoS.ready1 hS hDn (hAt 7 (by simp)).1 (hAt 8 (by simp)).1 (hAt 2 (by simp)).1 (hAt 6 (by simp)).1
                      obtain rfl : g9 = p1 := pt_inj ((hAt 7 (by simp)).2.symm.trans hB.e1)
                      refine (exec_store_blk (w := w9) 51 (.tmp 9) (.tmp 32) (by rfl) g9 51 #[.int .u64 0, .slice none 0 0, .int .u64 0, .int .u64 0, .int .i64 0, .int .i64 0, .slice none 0 0, .bool false, .int .i64 0, .int .i64 0] #[.int .u64 T.s, .slice tA tm tc, .int .u64 T.num, .int .u64 T.p.num, .int .i64 T.p.frm, .int .i64 T.p.to, .slice tD tn td, .bool T.p.sp, .int .i64 T.gone, .int .i64 T.e] (by rfl) (by rfl) hB.b1 rfl toldI (by simp [Value.oneCell'])).imp fun w7' hx => ⟨hx.1, TwoS.set1 hs2 (by decide) (hAt 2 (by simp)).2 (hB.store1 (RunR.res _ _) (WantR.res _) hx.2.1 hx.2.2)⟩
                    try simp only [Act.put]
                    refine Ps.step (i := 10) (d := none) (u := undef) rfl rfl (by kernel_rfl) (by kernel_rfl) (by kernel_rfl) (by kernel_rfl) ?yw9q_52 ?rw9q_52
                    case yw9q_52 =>
                      refine StepS.store [2, 6, 7, 8, 9] (by kernel_rfl) (by rfl) (fun L9 m9 w9 hSh hAt hDn hS => ?_)
                      obtain ⟨p1, p2, cc, hk, hB⟩ := TwoS.at1 hS (hAt 9 (by simp)).1 hDn
                      obtain rfl : g10 = p2 := pt_inj ((hAt 8 (by simp)).2.symm.trans hB.e2)
                      refine (exec_store_blk (w := w9) 51 (.tmp 10) (.tmp 36) (by rfl) g10 51 #[.int .u64 0, .slice none 0 0, .int .u64 0, .int .u64 0, .int .i64 0, .int .i64 0, .slice none 0 0, .bool false, .int .i64 0, .int .i64 0] #[.int .u64 T.s, .slice uA um uc, .int .u64 T.num, .int .u64 T.p.num, .int .i64 T.p.frm, .int .i64 T.p.to, .slice uD un ud, .bool T.p.sp, .int .i64 T.gone, .int .i64 T.e] (by rfl) (by rfl) hB.b2 rfl toldI (by simp [Value.oneCell'])).imp fun w7' hx => ⟨hx.1, TwoS.set2 (by decide) (hAt 9 (by simp)).1 hk (hAt 6 (by simp)).2 (hB.store2 (RunR.res _ _) (WantR.res _) hx.2.1 hx.2.2)⟩
                    try simp only [Act.put]
                    refine Ps.done (by kernel_rfl) (fun w9q hS => ?_) _
                    obtain ⟨p1, p2, d1, d2, hk1, hk2, hB⟩ := TwoS.fin hS (by rfl)
                    clear hS
                    obtain rfl : g9 = p1 := pt_inj hB.e1
                    obtain rfl : g10 = p2 := pt_inj hB.e2
                    have hk1 : Value.agg #[.int .u64 T.s, .slice tA tm tc, .int .u64 T.num, .int .u64 T.p.num, .int .i64 T.p.frm, .int .i64 T.p.to, .slice tD tn td, .bool T.p.sp, .int .i64 T.gone, .int .i64 T.e] = .agg d1 := hk1
                    have hk2 : Value.agg #[.int .u64 T.s, .slice uA um uc, .int .u64 T.num, .int .u64 T.p.num, .int .i64 T.p.frm, .int .i64 T.p.to, .slice uD un ud, .bool T.p.sp, .int .i64 T.gone, .int .i64 T.e] = .agg d2 := hk2
                    injection hk1 with hk1
                    injection hk2 with hk2
                    subst hk1 hk2
                    have hr1 : RunR w7.heap.size T (.agg #[.int .u64 T.s, .slice tA tm tc, .int .u64 T.num, .int .u64 T.p.num, .int .i64 T.p.frm, .int .i64 T.p.to, .slice tD tn td, .bool T.p.sp, .int .i64 T.gone, .int .i64 T.e]) (fun b => b ≠ g9) _ := (RunR.res _ _).weak (fun b hb _ e => by subst e; exact hb.1 hB.e1) hB.r1
                    have hr2 : WantR T (.agg #[.int .u64 T.s, .slice uA um uc, .int .u64 T.num, .int .u64 T.p.num, .int .i64 T.p.frm, .int .i64 T.p.to, .slice uD un ud, .bool T.p.sp, .int .i64 T.gone, .int .i64 T.e]) AllB _ := (WantR.res _).weak (fun _ _ _ => trivial) hB.r2
                    refine ⟨g9, g10, A5, m5, c5, tA, tm, tc, tD, tn, td, uA, um, uc, uD, un, ud, ?_, hB.b1, hB.b2, hr1, hr2, hB.l1, hB.bel⟩
                    rfl
          case tw9q_5_7 =>
            refine Turns.mk (d := some 9) rfl rfl (TurnS.value (V := fun v => ∃ g, v = .pointer (some ⟨g, 0, none⟩)) [] (by kernel_rfl) (by rfl) (fun L9 m9 w9 hSh hAt hDn hS => ?cw9q_5_7)) (fun v7 hVv7 => ?rw9q_5_7)
            case cw9q_5_7 =>
              have hs1 := reach_no hSh (f := 11) (j := 9) (d := 7) (by kernel_rfl) hDn
              have hs2 := reach_no hSh (f := 11) (j := 10) (d := 7) (by kernel_rfl) hDn
              refine ⟨.pointer (some ⟨w9.heap.size, 0, none⟩), w9.alloc (.cells #[.int .u64 0, .slice none 0 0, .int .u64 0, .int .u64 0, .int .i64 0, .int .i64 0, .slice none 0 0, .bool false, .int .i64 0, .int .i64 0] 51), ?_, ⟨_, rfl⟩, TwoS.make1 hS (LRes.res _ _) (RunR.res _ _) (WantR.res _) hs1 hs2 (by decide)⟩
              clear hS
              go_simp
              try rfl
            try simp only [Act.put, List.setIfInBounds_toArray, List.set_cons_zero, List.set_cons_succ]
            obtain ⟨g9, rfl⟩ := hVv7
            refine Ps.some2 (i := 2) (j := 8) (by kernel_rfl) ?tw9q_53_2 ?tw9q_53_8
            case tw9q_53_2 =>
              refine Turns.mk (d := some 32) rfl rfl (TurnS.call (V := fun v => ∃ tA tm tc tD tn td, v = .agg #[.int .u64 T.s, .slice tA tm tc, .int .u64 T.num, .int .u64 T.p.num, .int .i64 T.p.frm, .int .i64 T.p.to, .slice tD tn td, .bool T.p.sp, .int .i64 T.gone, .int .i64 T.e]) ?fw9q_53_2 ?aw9q_53_2 [] (by kernel_rfl) (by rfl) (fun w9 => ?hw9q_53_2) (fun L9 m9 w9 hSh hAt hDn hS => ?cw9q_53_2)) (fun v2 hVv2 => ?rw9q_53_2)
              case hw9q_53_2 => go_simp; refine ⟨?_, ?_⟩ <;> rfl
              case cw9q_53_2 =>
                have hs1 := reach_no hSh (f := 11) (j := 9) (d := 2) (by kernel_rfl) hDn
                have hs2 := reach_no hSh (f := 11) (j := 10) (d := 2) (by kernel_rfl) hDn
                have hT := TwoS.any hS
                refine (HRUN.out w9 (Lay.rd_below HR.out hT) (RdB.below HOB.out hT)).mono ?_
                rintro e w8 ⟨A2, m2, c2, D2, n2, d2, rfl, ho, q8⟩
                exact ⟨_, rfl, ⟨A2, m2, c2, D2, n2, d2, rfl⟩, TwoS.call hS (LRes.res _ _) (RunR.res _ _) (WantR.res _) hs1 hs2 (by decide) q8 (fun e => absurd e (by decide)) (fun _ => RunR.of ho hT.size (fun b hb => (hS.at0 hs1).avoid (.inr hb))) (fun e => absurd e (by decide))⟩
              try simp only [Act.put, List.setIfInBounds_toArray, List.set_cons_zero, List.set_cons_succ]
              obtain ⟨tA, tm, tc, tD, tn, td, rfl⟩ := hVv2
              refine Ps.some2 (i := 5) (j := 8) (by kernel_rfl) ?tw9q_54_5 ?tw9q_54_8
              case tw9q_54_5 =>
                refine Turns.mk (d := some 35) rfl rfl (TurnS.call (V := fun v => ∃ A m c, v = .agg #[.int .u64 s, .slice A m c]) ?fw9q_54_5 ?aw9q_54_5 [] (by kernel_rfl) (by rfl) (fun w9 => ?hw9q_54_5) (fun L9 m9 w9 hSh hAt hDn hS => ?cw9q_54_5)) (fun v5 hVv5 => ?rw9q_54_5)
                case hw9q_54_5 => go_simp; refine ⟨?_, ?_⟩ <;> rfl
                case cw9q_54_5 =>
                  have hs1 := reach_no hSh (f := 11) (j := 9) (d := 5) (by kernel_rfl) hDn
                  have hs2 := reach_no hSh (f := 11) (j := 10) (d := 5) (by kernel_rfl) hDn
                  have hT := TwoS.any hS
                  refine (HSH.out A3 m3 c3 w9 (Lay.rd_below HRW.out hT) HM3.out).mono ?_
                  rintro e w8 ⟨A2, m2, c2, rfl, ho, q8⟩
                  have rd : LP.rd w8 (Av 7 8 m9) A2 m2 ps := ho.rd (fun b hb => (hS.at0 hs1).avoid (.inr hb))
                  have hcap := out_cap' ho
                  exact ⟨_, rfl, ⟨A2, m2, c2, rfl⟩, TwoS.call hS (LRes.res _ _) (RunR.res _ _) (WantR.res _) hs1 hs2 (by decide) q8 (fun _ => ⟨(s, ps), _, rfl, ⟨A2, m2, c2, rfl, hcap.1, hcap.2, rd⟩, rfl⟩) (fun e => absurd e (by decide)) (fun e => absurd e (by decide))⟩
                try simp only [Act.put, List.setIfInBounds_toArray, List.set_cons_zero, List.set_cons_succ]
                obtain ⟨A5, m5, c5, rfl⟩ := hVv5
                refine Ps.some2 (i := 6) (j := 8) (by kernel_rfl) ?tw9q_55_6 ?tw9q_55_8
                case tw9q_55_6 =>
                  refine Turns.mk (d := some 36) rfl rfl (TurnS.call (V := fun v => ∃ uA um uc uD un ud, v = .agg #[.int .u64 T.s, .slice uA um uc, .int .u64 T.num, .int .u64 T.p.num, .int .i64 T.p.frm, .int .i64 T.p.to, .slice uD un ud, .bool T.p.sp, .int .i64 T.gone, .int .i64 T.e]) ?fw9q_55_6 ?aw9q_55_6 [5] (by kernel_rfl) (by rfl) (fun w9 => ?hw9q_55_6) (fun L9 m9 w9 hSh hAt hDn hS => ?cw9q_55_6)) (fun v6 hVv6 => ?rw9q_55_6)
                  case hw9q_55_6 => go_simp; refine ⟨?_, ?_⟩ <;> rfl
                  case cw9q_55_6 =>
                    have hs1 := reach_no hSh (f := 11) (j := 9) (d := 6) (by kernel_rfl) hDn
                    have hs2 := reach_no hSh (f := 11) (j := 10) (d := 6) (by kernel_rfl) hDn
                    have hT := TwoS.any hS
                    obtain ⟨a0, cs0, he0, ⟨A2, m2, c2, hcs, hc1, hc2, hr0⟩, rfl⟩ := (hS.at0 hs1).r0 (hAt 5 (by simp)).1
                    obtain ⟨rfl, rfl, rfl⟩ : A5 = A2 ∧ m5 = m2 ∧ c5 = c2 := by have h9 := (hAt 5 (by simp)).2.symm.trans he0; exact inj_lres h9 hcs
                    refine (HWANT.out A5 m5 c5 w9 (Lay.rd_weak (fun _ _ _ => trivial) hr0) (Nat.le_trans hc1 hc2) (RdB.below HOB.out hT)).mono ?_
                    rintro e w8 ⟨A2, m2, c2, D2, n2, d2, rfl, ho, q8⟩
                    exact ⟨_, rfl, ⟨A2, m2, c2, D2, n2, d2, rfl⟩, TwoS.call hS (LRes.res _ _) (RunR.res _ _) (WantR.res _) hs1 hs2 (by decide) q8 (fun e => absurd e (by decide)) (fun e => absurd e (by decide)) (fun _ => WantR.of ho (fun b hb => (hS.at0 hs1).avoid (.inr hb)))⟩
                  try simp only [Act.put, List.setIfInBounds_toArray, List.set_cons_zero, List.set_cons_succ]
                  obtain ⟨uA, um, uc, uD, un, ud, rfl⟩ := hVv6
                  refine Ps.some1 (i := 8) (by kernel_rfl) ?tw9q_56_8
                  case tw9q_56_8 =>
                    refine Turns.mk (d := some 10) rfl rfl (TurnS.value (V := fun v => ∃ g, v = .pointer (some ⟨g, 0, none⟩)) [] (by kernel_rfl) (by rfl) (fun L9 m9 w9 hSh hAt hDn hS => ?cw9q_56_8)) (fun v8 hVv8 => ?rw9q_56_8)
                    case cw9q_56_8 =>
                      have hs1 := reach_no hSh (f := 11) (j := 9) (d := 8) (by kernel_rfl) hDn
                      have hs2 := reach_no hSh (f := 11) (j := 10) (d := 8) (by kernel_rfl) hDn
                      refine ⟨.pointer (some ⟨w9.heap.size, 0, none⟩), w9.alloc (.cells #[.int .u64 0, .slice none 0 0, .int .u64 0, .int .u64 0, .int .i64 0, .int .i64 0, .slice none 0 0, .bool false, .int .i64 0, .int .i64 0] 51), ?_, ⟨_, rfl⟩, TwoS.make2 hS (LRes.res _ _) (RunR.res _ _) (WantR.res _) hs1 hs2 (by decide)⟩
                      clear hS
                      go_simp
                      try rfl
                    try simp only [Act.put, List.setIfInBounds_toArray, List.set_cons_zero, List.set_cons_succ]
                    obtain ⟨g10, rfl⟩ := hVv8
                    refine Ps.step (i := 9) (d := none) (u := undef) rfl rfl (by kernel_rfl) (by kernel_rfl) (by kernel_rfl) (by kernel_rfl) ?yw9q_57 ?rw9q_57
                    case yw9q_57 =>
                      refine StepS.store [2, 6, 7, 8] (by kernel_rfl) (by rfl) (fun L9 m9 w9 hSh hAt hDn hS => ?_)
                      have hs2 := reach_no hSh (f := 11) (j := 10) (d := 9) (by kernel_rfl) hDn
                      obtain ⟨p1, p2, hB⟩ := TwoS.ready1 hS hDn (hAt 7 (by simp)).1 (hAt 8 (by simp)).1 (hAt 2 (by simp)).1 (hAt 6 (by simp)).1
                      obtain rfl : g9 = p1 := pt_inj ((hAt 7 (by simp)).2.symm.trans hB.e1)
                      refine (exec_store_blk (w := w9) 51 (.tmp 9) (.tmp 32) (by rfl) g9 51 #[.int .u64 0, .slice none 0 0, .int .u64 0, .int .u64 0, .int .i64 0, .int .i64 0, .slice none 0 0, .bool false, .int .i64 0, .int .i64 0] #[.int .u64 T.s, .slice tA tm tc, .int .u64 T.num, .int .u64 T.p.num, .int .i64 T.p.frm, .int .i64 T.p.to, .slice tD tn td, .bool T.p.sp, .int .i64 T.gone, .int .i64 T.e] (by rfl) (by rfl) hB.b1 rfl toldI (by simp [Value.oneCell'])).imp fun w7' hx => ⟨hx.1, TwoS.set1 hs2 (by decide) (hAt 2 (by simp)).2 (hB.store1 (RunR.res _ _) (WantR.res _) hx.2.1 hx.2.2)⟩
                    try simp only [Act.put]
                    refine Ps.step (i := 10) (d := none) (u := undef) rfl rfl (by kernel_rfl) (by kernel_rfl) (by kernel_rfl) (by kernel_rfl) ?yw9q_58 ?rw9q_58
                    case yw9q_58 =>
                      refine StepS.store [2, 6, 7, 8, 9] (by kernel_rfl) (by rfl) (fun L9 m9 w9 hSh hAt hDn hS => ?_)
                      obtain ⟨p1, p2, cc, hk, hB⟩ := TwoS.at1 hS (hAt 9 (by simp)).1 hDn
                      obtain rfl : g10 = p2 := pt_inj ((hAt 8 (by simp)).2.symm.trans hB.e2)
                      refine (exec_store_blk (w := w9) 51 (.tmp 10) (.tmp 36) (by rfl) g10 51 #[.int .u64 0, .slice none 0 0, .int .u64 0, .int .u64 0, .int .i64 0, .int .i64 0, .slice none 0 0, .bool false, .int .i64 0, .int .i64 0] #[.int .u64 T.s, .slice uA um uc, .int .u64 T.num, .int .u64 T.p.num, .int .i64 T.p.frm, .int .i64 T.p.to, .slice uD un ud, .bool T.p.sp, .int .i64 T.gone, .int .i64 T.e] (by rfl) (by rfl) hB.b2 rfl toldI (by simp [Value.oneCell'])).imp fun w7' hx => ⟨hx.1, TwoS.set2 (by decide) (hAt 9 (by simp)).1 hk (hAt 6 (by simp)).2 (hB.store2 (RunR.res _ _) (WantR.res _) hx.2.1 hx.2.2)⟩
                    try simp only [Act.put]
                    refine Ps.done (by kernel_rfl) (fun w9q hS => ?_) _
                    obtain ⟨p1, p2, d1, d2, hk1, hk2, hB⟩ := TwoS.fin hS (by rfl)
                    clear hS
                    obtain rfl : g9 = p1 := pt_inj hB.e1
                    obtain rfl : g10 = p2 := pt_inj hB.e2
                    have hk1 : Value.agg #[.int .u64 T.s, .slice tA tm tc, .int .u64 T.num, .int .u64 T.p.num, .int .i64 T.p.frm, .int .i64 T.p.to, .slice tD tn td, .bool T.p.sp, .int .i64 T.gone, .int .i64 T.e] = .agg d1 := hk1
                    have hk2 : Value.agg #[.int .u64 T.s, .slice uA um uc, .int .u64 T.num, .int .u64 T.p.num, .int .i64 T.p.frm, .int .i64 T.p.to, .slice uD un ud, .bool T.p.sp, .int .i64 T.gone, .int .i64 T.e] = .agg d2 := hk2
                    injection hk1 with hk1
                    injection hk2 with hk2
                    subst hk1 hk2
                    have hr1 : RunR w7.heap.size T (.agg #[.int .u64 T.s, .slice tA tm tc, .int .u64 T.num, .int .u64 T.p.num, .int .i64 T.p.frm, .int .i64 T.p.to, .slice tD tn td, .bool T.p.sp, .int .i64 T.gone, .int .i64 T.e]) (fun b => b ≠ g9) _ := (RunR.res _ _).weak (fun b hb _ e => by subst e; exact hb.1 hB.e1) hB.r1
                    have hr2 : WantR T (.agg #[.int .u64 T.s, .slice uA um uc, .int .u64 T.num, .int .u64 T.p.num, .int .i64 T.p.frm, .int .i64 T.p.to, .slice uD un ud, .bool T.p.sp, .int .i64 T.gone, .int .i64 T.e]) AllB _ := (WantR.res _).weak (fun _ _ _ => trivial) hB.r2
                    refine ⟨g9, g10, A5, m5, c5, tA, tm, tc, tD, tn, td, uA, um, uc, uD, un, ud, ?_, hB.b1, hB.b2, hr1, hr2, hB.l1, hB.bel⟩
                    rfl
                case tw9q_55_8 =>
                  refine Turns.mk (d := some 10) rfl rfl (TurnS.value (V := fun v => ∃ g, v = .pointer (some ⟨g, 0, none⟩)) [] (by kernel_rfl) (by rfl) (fun L9 m9 w9 hSh hAt hDn hS => ?cw9q_55_8)) (fun v8 hVv8 => ?rw9q_55_8)
                  case cw9q_55_8 =>
                    have hs1 := reach_no hSh (f := 11) (j := 9) (d := 8) (by kernel_rfl) hDn
                    have hs2 := reach_no hSh (f := 11) (j := 10) (d := 8) (by kernel_rfl) hDn
                    refine ⟨.pointer (some ⟨w9.heap.size, 0, none⟩), w9.alloc (.cells #[.int .u64 0, .slice none 0 0, .int .u64 0, .int .u64 0, .int .i64 0, .int .i64 0, .slice none 0 0, .bool false, .int .i64 0, .int .i64 0] 51), ?_, ⟨_, rfl⟩, TwoS.make2 hS (LRes.res _ _) (RunR.res _ _) (WantR.res _) hs1 hs2 (by decide)⟩
                    clear hS
                    go_simp
                    try rfl
                  try simp only [Act.put, List.setIfInBounds_toArray, List.set_cons_zero, List.set_cons_succ]
                  obtain ⟨g10, rfl⟩ := hVv8
                  refine Ps.some1 (i := 6) (by kernel_rfl) ?tw9q_59_6
                  case tw9q_59_6 =>
                    refine Turns.mk (d := some 36) rfl rfl (TurnS.call (V := fun v => ∃ uA um uc uD un ud, v = .agg #[.int .u64 T.s, .slice uA um uc, .int .u64 T.num, .int .u64 T.p.num, .int .i64 T.p.frm, .int .i64 T.p.to, .slice uD un ud, .bool T.p.sp, .int .i64 T.gone, .int .i64 T.e]) ?fw9q_59_6 ?aw9q_59_6 [5] (by kernel_rfl) (by rfl) (fun w9 => ?hw9q_59_6) (fun L9 m9 w9 hSh hAt hDn hS => ?cw9q_59_6)) (fun v6 hVv6 => ?rw9q_59_6)
                    case hw9q_59_6 => go_simp; refine ⟨?_, ?_⟩ <;> rfl
                    case cw9q_59_6 =>
                      have hs1 := reach_no hSh (f := 11) (j := 9) (d := 6) (by kernel_rfl) hDn
                      have hs2 := reach_no hSh (f := 11) (j := 10) (d := 6) (by kernel_rfl) hDn
                      have hT := TwoS.any hS
                      obtain ⟨a0, cs0, he0, ⟨A2, m2, c2, hcs, hc1, hc2, hr0⟩, rfl⟩ := (hS.at0 hs1).r0 (hAt 5 (by simp)).1
                      obtain ⟨rfl, rfl, rfl⟩ : A5 = A2 ∧ m5 = m2 ∧ c5 = c2 := by have h9 := (hAt 5 (by simp)).2.symm.trans he0; exact inj_lres h9 hcs
                      refine (HWANT.out A5 m5 c5 w9 (Lay.rd_weak (fun _ _ _ => trivial) hr0) (Nat.le_trans hc1 hc2) (RdB.below HOB.out hT)).mono ?_
                      rintro e w8 ⟨A2, m2, c2, D2, n2, d2, rfl, ho, q8⟩
                      exact ⟨_, rfl, ⟨A2, m2, c2, D2, n2, d2, rfl⟩, TwoS.call hS (LRes.res _ _) (RunR.res _ _) (WantR.res _) hs1 hs2 (by decide) q8 (fun e => absurd e (by decide)) (fun e => absurd e (by decide)) (fun _ => WantR.of ho (fun b hb => (hS.at0 hs1).avoid (.inr hb)))⟩
                    try simp only [Act.put, List.setIfInBounds_toArray, List.set_cons_zero, List.set_cons_succ]
                    obtain ⟨uA, um, uc, uD, un, ud, rfl⟩ := hVv6
                    refine Ps.step (i := 9) (d := none) (u := undef) rfl rfl (by kernel_rfl) (by kernel_rfl) (by kernel_rfl) (by kernel_rfl) ?yw9q_60 ?rw9q_60
                    case yw9q_60 =>
                      refine StepS.store [2, 6, 7, 8] (by kernel_rfl) (by rfl) (fun L9 m9 w9 hSh hAt hDn hS => ?_)
                      have hs2 := reach_no hSh (f := 11) (j := 10) (d := 9) (by kernel_rfl) hDn
                      obtain ⟨p1, p2, hB⟩ := TwoS.ready1 hS hDn (hAt 7 (by simp)).1 (hAt 8 (by simp)).1 (hAt 2 (by simp)).1 (hAt 6 (by simp)).1
                      obtain rfl : g9 = p1 := pt_inj ((hAt 7 (by simp)).2.symm.trans hB.e1)
                      refine (exec_store_blk (w := w9) 51 (.tmp 9) (.tmp 32) (by rfl) g9 51 #[.int .u64 0, .slice none 0 0, .int .u64 0, .int .u64 0, .int .i64 0, .int .i64 0, .slice none 0 0, .bool false, .int .i64 0, .int .i64 0] #[.int .u64 T.s, .slice tA tm tc, .int .u64 T.num, .int .u64 T.p.num, .int .i64 T.p.frm, .int .i64 T.p.to, .slice tD tn td, .bool T.p.sp, .int .i64 T.gone, .int .i64 T.e] (by rfl) (by rfl) hB.b1 rfl toldI (by simp [Value.oneCell'])).imp fun w7' hx => ⟨hx.1, TwoS.set1 hs2 (by decide) (hAt 2 (by simp)).2 (hB.store1 (RunR.res _ _) (WantR.res _) hx.2.1 hx.2.2)⟩
                    try simp only [Act.put]
                    refine Ps.step (i := 10) (d := none) (u := undef) rfl rfl (by kernel_rfl) (by kernel_rfl) (by kernel_rfl) (by kernel_rfl) ?yw9q_61 ?rw9q_61
                    case yw9q_61 =>
                      refine StepS.store [2, 6, 7, 8, 9] (by kernel_rfl) (by rfl) (fun L9 m9 w9 hSh hAt hDn hS => ?_)
                      obtain ⟨p1, p2, cc, hk, hB⟩ := TwoS.at1 hS (hAt 9 (by simp)).1 hDn
                      obtain rfl : g10 = p2 := pt_inj ((hAt 8 (by simp)).2.symm.trans hB.e2)
                      refine (exec_store_blk (w := w9) 51 (.tmp 10) (.tmp 36) (by rfl) g10 51 #[.int .u64 0, .slice none 0 0, .int .u64 0, .int .u64 0, .int .i64 0, .int .i64 0, .slice none 0 0, .bool false, .int .i64 0, .int .i64 0] #[.int .u64 T.s, .slice uA um uc, .int .u64 T.num, .int .u64 T.p.num, .int .i64 T.p.frm, .int .i64 T.p.to, .slice uD un ud, .bool T.p.sp, .int .i64 T.gone, .int .i64 T.e] (by rfl) (by rfl) hB.b2 rfl toldI (by simp [Value.oneCell'])).imp fun w7' hx => ⟨hx.1, TwoS.set2 (by decide) (hAt 9 (by simp)).1 hk (hAt 6 (by simp)).2 (hB.store2 (RunR.res _ _) (WantR.res _) hx.2.1 hx.2.2)⟩
                    try simp only [Act.put]
                    refine Ps.done (by kernel_rfl) (fun w9q hS => ?_) _
                    obtain ⟨p1, p2, d1, d2, hk1, hk2, hB⟩ := TwoS.fin hS (by rfl)
                    clear hS
                    obtain rfl : g9 = p1 := pt_inj hB.e1
                    obtain rfl : g10 = p2 := pt_inj hB.e2
                    have hk1 : Value.agg #[.int .u64 T.s, .slice tA tm tc, .int .u64 T.num, .int .u64 T.p.num, .int .i64 T.p.frm, .int .i64 T.p.to, .slice tD tn td, .bool T.p.sp, .int .i64 T.gone, .int .i64 T.e] = .agg d1 := hk1
                    have hk2 : Value.agg #[.int .u64 T.s, .slice uA um uc, .int .u64 T.num, .int .u64 T.p.num, .int .i64 T.p.frm, .int .i64 T.p.to, .slice uD un ud, .bool T.p.sp, .int .i64 T.gone, .int .i64 T.e] = .agg d2 := hk2
                    injection hk1 with hk1
                    injection hk2 with hk2
                    subst hk1 hk2
                    have hr1 : RunR w7.heap.size T (.agg #[.int .u64 T.s, .slice tA tm tc, .int .u64 T.num, .int .u64 T.p.num, .int .i64 T.p.frm, .int .i64 T.p.to, .slice tD tn td, .bool T.p.sp, .int .i64 T.gone, .int .i64 T.e]) (fun b => b ≠ g9) _ := (RunR.res _ _).weak (fun b hb _ e => by subst e; exact hb.1 hB.e1) hB.r1
                    have hr2 : WantR T (.agg #[.int .u64 T.s, .slice uA um uc, .int .u64 T.num, .int .u64 T.p.num, .int .i64 T.p.frm, .int .i64 T.p.to, .slice uD un ud, .bool T.p.sp, .int .i64 T.gone, .int .i64 T.e]) AllB _ := (WantR.res _).weak (fun _ _ _ => trivial) hB.r2
                    refine ⟨g9, g10, A5, m5, c5, tA, tm, tc, tD, tn, td, uA, um, uc, uD, un, ud, ?_, hB.b1, hB.b2, hr1, hr2, hB.l1, hB.bel⟩
                    rfl
              case tw9q_54_8 =>
                refine Turns.mk (d := some 10) rfl rfl (TurnS.value (V := fun v => ∃ g, v = .pointer (some ⟨g, 0, none⟩)) [] (by kernel_rfl) (by rfl) (fun L9 m9 w9 hSh hAt hDn hS => ?cw9q_54_8)) (fun v8 hVv8 => ?rw9q_54_8)
                case cw9q_54_8 =>
                  have hs1 := reach_no hSh (f := 11) (j := 9) (d := 8) (by kernel_rfl) hDn
                  have hs2 := reach_no hSh (f := 11) (j := 10) (d := 8) (by kernel_rfl) hDn
                  refine ⟨.pointer (some ⟨w9.heap.size, 0, none⟩), w9.alloc (.cells #[.int .u64 0, .slice none 0 0, .int .u64 0, .int .u64 0, .int .i64 0, .int .i64 0, .slice none 0 0, .bool false, .int .i64 0, .int .i64 0] 51), ?_, ⟨_, rfl⟩, TwoS.make2 hS (LRes.res _ _) (RunR.res _ _) (WantR.res _) hs1 hs2 (by decide)⟩
                  clear hS
                  go_simp
                  try rfl
                try simp only [Act.put, List.setIfInBounds_toArray, List.set_cons_zero, List.set_cons_succ]
                obtain ⟨g10, rfl⟩ := hVv8
                refine Ps.some1 (i := 5) (by kernel_rfl) ?tw9q_62_5
                case tw9q_62_5 =>
                  refine Turns.mk (d := some 35) rfl rfl (TurnS.call (V := fun v => ∃ A m c, v = .agg #[.int .u64 s, .slice A m c]) ?fw9q_62_5 ?aw9q_62_5 [] (by kernel_rfl) (by rfl) (fun w9 => ?hw9q_62_5) (fun L9 m9 w9 hSh hAt hDn hS => ?cw9q_62_5)) (fun v5 hVv5 => ?rw9q_62_5)
                  case hw9q_62_5 => go_simp; refine ⟨?_, ?_⟩ <;> rfl
                  case cw9q_62_5 =>
                    have hs1 := reach_no hSh (f := 11) (j := 9) (d := 5) (by kernel_rfl) hDn
                    have hs2 := reach_no hSh (f := 11) (j := 10) (d := 5) (by kernel_rfl) hDn
                    have hT := TwoS.any hS
                    refine (HSH.out A3 m3 c3 w9 (Lay.rd_below HRW.out hT) HM3.out).mono ?_
                    rintro e w8 ⟨A2, m2, c2, rfl, ho, q8⟩
                    have rd : LP.rd w8 (Av 7 8 m9) A2 m2 ps := ho.rd (fun b hb => (hS.at0 hs1).avoid (.inr hb))
                    have hcap := out_cap' ho
                    exact ⟨_, rfl, ⟨A2, m2, c2, rfl⟩, TwoS.call hS (LRes.res _ _) (RunR.res _ _) (WantR.res _) hs1 hs2 (by decide) q8 (fun _ => ⟨(s, ps), _, rfl, ⟨A2, m2, c2, rfl, hcap.1, hcap.2, rd⟩, rfl⟩) (fun e => absurd e (by decide)) (fun e => absurd e (by decide))⟩
                  try simp only [Act.put, List.setIfInBounds_toArray, List.set_cons_zero, List.set_cons_succ]
                  obtain ⟨A5, m5, c5, rfl⟩ := hVv5
                  refine Ps.some1 (i := 6) (by kernel_rfl) ?tw9q_63_6
                  case tw9q_63_6 =>
                    refine Turns.mk (d := some 36) rfl rfl (TurnS.call (V := fun v => ∃ uA um uc uD un ud, v = .agg #[.int .u64 T.s, .slice uA um uc, .int .u64 T.num, .int .u64 T.p.num, .int .i64 T.p.frm, .int .i64 T.p.to, .slice uD un ud, .bool T.p.sp, .int .i64 T.gone, .int .i64 T.e]) ?fw9q_63_6 ?aw9q_63_6 [5] (by kernel_rfl) (by rfl) (fun w9 => ?hw9q_63_6) (fun L9 m9 w9 hSh hAt hDn hS => ?cw9q_63_6)) (fun v6 hVv6 => ?rw9q_63_6)
                    case hw9q_63_6 => go_simp; refine ⟨?_, ?_⟩ <;> rfl
                    case cw9q_63_6 =>
                      have hs1 := reach_no hSh (f := 11) (j := 9) (d := 6) (by kernel_rfl) hDn
                      have hs2 := reach_no hSh (f := 11) (j := 10) (d := 6) (by kernel_rfl) hDn
                      have hT := TwoS.any hS
                      obtain ⟨a0, cs0, he0, ⟨A2, m2, c2, hcs, hc1, hc2, hr0⟩, rfl⟩ := (hS.at0 hs1).r0 (hAt 5 (by simp)).1
                      obtain ⟨rfl, rfl, rfl⟩ : A5 = A2 ∧ m5 = m2 ∧ c5 = c2 := by have h9 := (hAt 5 (by simp)).2.symm.trans he0; exact inj_lres h9 hcs
                      refine (HWANT.out A5 m5 c5 w9 (Lay.rd_weak (fun _ _ _ => trivial) hr0) (Nat.le_trans hc1 hc2) (RdB.below HOB.out hT)).mono ?_
                      rintro e w8 ⟨A2, m2, c2, D2, n2, d2, rfl, ho, q8⟩
                      exact ⟨_, rfl, ⟨A2, m2, c2, D2, n2, d2, rfl⟩, TwoS.call hS (LRes.res _ _) (RunR.res _ _) (WantR.res _) hs1 hs2 (by decide) q8 (fun e => absurd e (by decide)) (fun e => absurd e (by decide)) (fun _ => WantR.of ho (fun b hb => (hS.at0 hs1).avoid (.inr hb)))⟩
                    try simp only [Act.put, List.setIfInBounds_toArray, List.set_cons_zero, List.set_cons_succ]
                    obtain ⟨uA, um, uc, uD, un, ud, rfl⟩ := hVv6
                    refine Ps.step (i := 9) (d := none) (u := undef) rfl rfl (by kernel_rfl) (by kernel_rfl) (by kernel_rfl) (by kernel_rfl) ?yw9q_64 ?rw9q_64
                    case yw9q_64 =>
                      refine StepS.store [2, 6, 7, 8] (by kernel_rfl) (by rfl) (fun L9 m9 w9 hSh hAt hDn hS => ?_)
                      have hs2 := reach_no hSh (f := 11) (j := 10) (d := 9) (by kernel_rfl) hDn
                      obtain ⟨p1, p2, hB⟩ := TwoS.ready1 hS hDn (hAt 7 (by simp)).1 (hAt 8 (by simp)).1 (hAt 2 (by simp)).1 (hAt 6 (by simp)).1
                      obtain rfl : g9 = p1 := pt_inj ((hAt 7 (by simp)).2.symm.trans hB.e1)
                      refine (exec_store_blk (w := w9) 51 (.tmp 9) (.tmp 32) (by rfl) g9 51 #[.int .u64 0, .slice none 0 0, .int .u64 0, .int .u64 0, .int .i64 0, .int .i64 0, .slice none 0 0, .bool false, .int .i64 0, .int .i64 0] #[.int .u64 T.s, .slice tA tm tc, .int .u64 T.num, .int .u64 T.p.num, .int .i64 T.p.frm, .int .i64 T.p.to, .slice tD tn td, .bool T.p.sp, .int .i64 T.gone, .int .i64 T.e] (by rfl) (by rfl) hB.b1 rfl toldI (by simp [Value.oneCell'])).imp fun w7' hx => ⟨hx.1, TwoS.set1 hs2 (by decide) (hAt 2 (by simp)).2 (hB.store1 (RunR.res _ _) (WantR.res _) hx.2.1 hx.2.2)⟩
                    try simp only [Act.put]
                    refine Ps.step (i := 10) (d := none) (u := undef) rfl rfl (by kernel_rfl) (by kernel_rfl) (by kernel_rfl) (by kernel_rfl) ?yw9q_65 ?rw9q_65
                    case yw9q_65 =>
                      refine StepS.store [2, 6, 7, 8, 9] (by kernel_rfl) (by rfl) (fun L9 m9 w9 hSh hAt hDn hS => ?_)
                      obtain ⟨p1, p2, cc, hk, hB⟩ := TwoS.at1 hS (hAt 9 (by simp)).1 hDn
                      obtain rfl : g10 = p2 := pt_inj ((hAt 8 (by simp)).2.symm.trans hB.e2)
                      refine (exec_store_blk (w := w9) 51 (.tmp 10) (.tmp 36) (by rfl) g10 51 #[.int .u64 0, .slice none 0 0, .int .u64 0, .int .u64 0, .int .i64 0, .int .i64 0, .slice none 0 0, .bool false, .int .i64 0, .int .i64 0] #[.int .u64 T.s, .slice uA um uc, .int .u64 T.num, .int .u64 T.p.num, .int .i64 T.p.frm, .int .i64 T.p.to, .slice uD un ud, .bool T.p.sp, .int .i64 T.gone, .int .i64 T.e] (by rfl) (by rfl) hB.b2 rfl toldI (by simp [Value.oneCell'])).imp fun w7' hx => ⟨hx.1, TwoS.set2 (by decide) (hAt 9 (by simp)).1 hk (hAt 6 (by simp)).2 (hB.store2 (RunR.res _ _) (WantR.res _) hx.2.1 hx.2.2)⟩
                    try simp only [Act.put]
                    refine Ps.done (by kernel_rfl) (fun w9q hS => ?_) _
                    obtain ⟨p1, p2, d1, d2, hk1, hk2, hB⟩ := TwoS.fin hS (by rfl)
                    clear hS
                    obtain rfl : g9 = p1 := pt_inj hB.e1
                    obtain rfl : g10 = p2 := pt_inj hB.e2
                    have hk1 : Value.agg #[.int .u64 T.s, .slice tA tm tc, .int .u64 T.num, .int .u64 T.p.num, .int .i64 T.p.frm, .int .i64 T.p.to, .slice tD tn td, .bool T.p.sp, .int .i64 T.gone, .int .i64 T.e] = .agg d1 := hk1
                    have hk2 : Value.agg #[.int .u64 T.s, .slice uA um uc, .int .u64 T.num, .int .u64 T.p.num, .int .i64 T.p.frm, .int .i64 T.p.to, .slice uD un ud, .bool T.p.sp, .int .i64 T.gone, .int .i64 T.e] = .agg d2 := hk2
                    injection hk1 with hk1
                    injection hk2 with hk2
                    subst hk1 hk2
                    have hr1 : RunR w7.heap.size T (.agg #[.int .u64 T.s, .slice tA tm tc, .int .u64 T.num, .int .u64 T.p.num, .int .i64 T.p.frm, .int .i64 T.p.to, .slice tD tn td, .bool T.p.sp, .int .i64 T.gone, .int .i64 T.e]) (fun b => b ≠ g9) _ := (RunR.res _ _).weak (fun b hb _ e => by subst e; exact hb.1 hB.e1) hB.r1
                    have hr2 : WantR T (.agg #[.int .u64 T.s, .slice uA um uc, .int .u64 T.num, .int .u64 T.p.num, .int .i64 T.p.frm, .int .i64 T.p.to, .slice uD un ud, .bool T.p.sp, .int .i64 T.gone, .int .i64 T.e]) AllB _ := (WantR.res _).weak (fun _ _ _ => trivial) hB.r2
                    refine ⟨g9, g10, A5, m5, c5, tA, tm, tc, tD, tn, td, uA, um, uc, uD, un, ud, ?_, hB.b1, hB.b2, hr1, hr2, hB.l1, hB.bel⟩
                    rfl
            case tw9q_53_8 =>
              refine Turns.mk (d := some 10) rfl rfl (TurnS.value (V := fun v => ∃ g, v = .pointer (some ⟨g, 0, none⟩)) [] (by kernel_rfl) (by rfl) (fun L9 m9 w9 hSh hAt hDn hS => ?cw9q_53_8)) (fun v8 hVv8 => ?rw9q_53_8)
              case cw9q_53_8 =>
                have hs1 := reach_no hSh (f := 11) (j := 9) (d := 8) (by kernel_rfl) hDn
                have hs2 := reach_no hSh (f := 11) (j := 10) (d := 8) (by kernel_rfl) hDn
                refine ⟨.pointer (some ⟨w9.heap.size, 0, none⟩), w9.alloc (.cells #[.int .u64 0, .slice none 0 0, .int .u64 0, .int .u64 0, .int .i64 0, .int .i64 0, .slice none 0 0, .bool false, .int .i64 0, .int .i64 0] 51), ?_, ⟨_, rfl⟩, TwoS.make2 hS (LRes.res _ _) (RunR.res _ _) (WantR.res _) hs1 hs2 (by decide)⟩
                clear hS
                go_simp
                try rfl
              try simp only [Act.put, List.setIfInBounds_toArray, List.set_cons_zero, List.set_cons_succ]
              obtain ⟨g10, rfl⟩ := hVv8
              refine Ps.some1 (i := 2) (by kernel_rfl) ?tw9q_66_2
              case tw9q_66_2 =>
                refine Turns.mk (d := some 32) rfl rfl (TurnS.call (V := fun v => ∃ tA tm tc tD tn td, v = .agg #[.int .u64 T.s, .slice tA tm tc, .int .u64 T.num, .int .u64 T.p.num, .int .i64 T.p.frm, .int .i64 T.p.to, .slice tD tn td, .bool T.p.sp, .int .i64 T.gone, .int .i64 T.e]) ?fw9q_66_2 ?aw9q_66_2 [] (by kernel_rfl) (by rfl) (fun w9 => ?hw9q_66_2) (fun L9 m9 w9 hSh hAt hDn hS => ?cw9q_66_2)) (fun v2 hVv2 => ?rw9q_66_2)
                case hw9q_66_2 => go_simp; refine ⟨?_, ?_⟩ <;> rfl
                case cw9q_66_2 =>
                  have hs1 := reach_no hSh (f := 11) (j := 9) (d := 2) (by kernel_rfl) hDn
                  have hs2 := reach_no hSh (f := 11) (j := 10) (d := 2) (by kernel_rfl) hDn
                  have hT := TwoS.any hS
                  refine (HRUN.out w9 (Lay.rd_below HR.out hT) (RdB.below HOB.out hT)).mono ?_
                  rintro e w8 ⟨A2, m2, c2, D2, n2, d2, rfl, ho, q8⟩
                  exact ⟨_, rfl, ⟨A2, m2, c2, D2, n2, d2, rfl⟩, TwoS.call hS (LRes.res _ _) (RunR.res _ _) (WantR.res _) hs1 hs2 (by decide) q8 (fun e => absurd e (by decide)) (fun _ => RunR.of ho hT.size (fun b hb => (hS.at0 hs1).avoid (.inr hb))) (fun e => absurd e (by decide))⟩
                try simp only [Act.put, List.setIfInBounds_toArray, List.set_cons_zero, List.set_cons_succ]
                obtain ⟨tA, tm, tc, tD, tn, td, rfl⟩ := hVv2
                refine Ps.some1 (i := 5) (by kernel_rfl) ?tw9q_67_5
                case tw9q_67_5 =>
                  refine Turns.mk (d := some 35) rfl rfl (TurnS.call (V := fun v => ∃ A m c, v = .agg #[.int .u64 s, .slice A m c]) ?fw9q_67_5 ?aw9q_67_5 [] (by kernel_rfl) (by rfl) (fun w9 => ?hw9q_67_5) (fun L9 m9 w9 hSh hAt hDn hS => ?cw9q_67_5)) (fun v5 hVv5 => ?rw9q_67_5)
                  case hw9q_67_5 => go_simp; refine ⟨?_, ?_⟩ <;> rfl
                  case cw9q_67_5 =>
                    have hs1 := reach_no hSh (f := 11) (j := 9) (d := 5) (by kernel_rfl) hDn
                    have hs2 := reach_no hSh (f := 11) (j := 10) (d := 5) (by kernel_rfl) hDn
                    have hT := TwoS.any hS
                    refine (HSH.out A3 m3 c3 w9 (Lay.rd_below HRW.out hT) HM3.out).mono ?_
                    rintro e w8 ⟨A2, m2, c2, rfl, ho, q8⟩
                    have rd : LP.rd w8 (Av 7 8 m9) A2 m2 ps := ho.rd (fun b hb => (hS.at0 hs1).avoid (.inr hb))
                    have hcap := out_cap' ho
                    exact ⟨_, rfl, ⟨A2, m2, c2, rfl⟩, TwoS.call hS (LRes.res _ _) (RunR.res _ _) (WantR.res _) hs1 hs2 (by decide) q8 (fun _ => ⟨(s, ps), _, rfl, ⟨A2, m2, c2, rfl, hcap.1, hcap.2, rd⟩, rfl⟩) (fun e => absurd e (by decide)) (fun e => absurd e (by decide))⟩
                  try simp only [Act.put, List.setIfInBounds_toArray, List.set_cons_zero, List.set_cons_succ]
                  obtain ⟨A5, m5, c5, rfl⟩ := hVv5
                  refine Ps.some1 (i := 6) (by kernel_rfl) ?tw9q_68_6
                  case tw9q_68_6 =>
                    refine Turns.mk (d := some 36) rfl rfl (TurnS.call (V := fun v => ∃ uA um uc uD un ud, v = .agg #[.int .u64 T.s, .slice uA um uc, .int .u64 T.num, .int .u64 T.p.num, .int .i64 T.p.frm, .int .i64 T.p.to, .slice uD un ud, .bool T.p.sp, .int .i64 T.gone, .int .i64 T.e]) ?fw9q_68_6 ?aw9q_68_6 [5] (by kernel_rfl) (by rfl) (fun w9 => ?hw9q_68_6) (fun L9 m9 w9 hSh hAt hDn hS => ?cw9q_68_6)) (fun v6 hVv6 => ?rw9q_68_6)
                    case hw9q_68_6 => go_simp; refine ⟨?_, ?_⟩ <;> rfl
                    case cw9q_68_6 =>
                      have hs1 := reach_no hSh (f := 11) (j := 9) (d := 6) (by kernel_rfl) hDn
                      have hs2 := reach_no hSh (f := 11) (j := 10) (d := 6) (by kernel_rfl) hDn
                      have hT := TwoS.any hS
                      obtain ⟨a0, cs0, he0, ⟨A2, m2, c2, hcs, hc1, hc2, hr0⟩, rfl⟩ := (hS.at0 hs1).r0 (hAt 5 (by simp)).1
                      obtain ⟨rfl, rfl, rfl⟩ : A5 = A2 ∧ m5 = m2 ∧ c5 = c2 := by have h9 := (hAt 5 (by simp)).2.symm.trans he0; exact inj_lres h9 hcs
                      refine (HWANT.out A5 m5 c5 w9 (Lay.rd_weak (fun _ _ _ => trivial) hr0) (Nat.le_trans hc1 hc2) (RdB.below HOB.out hT)).mono ?_
                      rintro e w8 ⟨A2, m2, c2, D2, n2, d2, rfl, ho, q8⟩
                      exact ⟨_, rfl, ⟨A2, m2, c2, D2, n2, d2, rfl⟩, TwoS.call hS (LRes.res _ _) (RunR.res _ _) (WantR.res _) hs1 hs2 (by decide) q8 (fun e => absurd e (by decide)) (fun e => absurd e (by decide)) (fun _ => WantR.of ho (fun b hb => (hS.at0 hs1).avoid (.inr hb)))⟩
                    try simp only [Act.put, List.setIfInBounds_toArray, List.set_cons_zero, List.set_cons_succ]
                    obtain ⟨uA, um, uc, uD, un, ud, rfl⟩ := hVv6
                    refine Ps.step (i := 9) (d := none) (u := undef) rfl rfl (by kernel_rfl) (by kernel_rfl) (by kernel_rfl) (by kernel_rfl) ?yw9q_69 ?rw9q_69
                    case yw9q_69 =>
                      refine StepS.store [2, 6, 7, 8] (by kernel_rfl) (by rfl) (fun L9 m9 w9 hSh hAt hDn hS => ?_)
                      have hs2 := reach_no hSh (f := 11) (j := 10) (d := 9) (by kernel_rfl) hDn
                      obtain ⟨p1, p2, hB⟩ := TwoS.ready1 hS hDn (hAt 7 (by simp)).1 (hAt 8 (by simp)).1 (hAt 2 (by simp)).1 (hAt 6 (by simp)).1
                      obtain rfl : g9 = p1 := pt_inj ((hAt 7 (by simp)).2.symm.trans hB.e1)
                      refine (exec_store_blk (w := w9) 51 (.tmp 9) (.tmp 32) (by rfl) g9 51 #[.int .u64 0, .slice none 0 0, .int .u64 0, .int .u64 0, .int .i64 0, .int .i64 0, .slice none 0 0, .bool false, .int .i64 0, .int .i64 0] #[.int .u64 T.s, .slice tA tm tc, .int .u64 T.num, .int .u64 T.p.num, .int .i64 T.p.frm, .int .i64 T.p.to, .slice tD tn td, .bool T.p.sp, .int .i64 T.gone, .int .i64 T.e] (by rfl) (by rfl) hB.b1 rfl toldI (by simp [Value.oneCell'])).imp fun w7' hx => ⟨hx.1, TwoS.set1 hs2 (by decide) (hAt 2 (by simp)).2 (hB.store1 (RunR.res _ _) (WantR.res _) hx.2.1 hx.2.2)⟩
                    try simp only [Act.put]
                    refine Ps.step (i := 10) (d := none) (u := undef) rfl rfl (by kernel_rfl) (by kernel_rfl) (by kernel_rfl) (by kernel_rfl) ?yw9q_70 ?rw9q_70
                    case yw9q_70 =>
                      refine StepS.store [2, 6, 7, 8, 9] (by kernel_rfl) (by rfl) (fun L9 m9 w9 hSh hAt hDn hS => ?_)
                      obtain ⟨p1, p2, cc, hk, hB⟩ := TwoS.at1 hS (hAt 9 (by simp)).1 hDn
                      obtain rfl : g10 = p2 := pt_inj ((hAt 8 (by simp)).2.symm.trans hB.e2)
                      refine (exec_store_blk (w := w9) 51 (.tmp 10) (.tmp 36) (by rfl) g10 51 #[.int .u64 0, .slice none 0 0, .int .u64 0, .int .u64 0, .int .i64 0, .int .i64 0, .slice none 0 0, .bool false, .int .i64 0, .int .i64 0] #[.int .u64 T.s, .slice uA um uc, .int .u64 T.num, .int .u64 T.p.num, .int .i64 T.p.frm, .int .i64 T.p.to, .slice uD un ud, .bool T.p.sp, .int .i64 T.gone, .int .i64 T.e] (by rfl) (by rfl) hB.b2 rfl toldI (by simp [Value.oneCell'])).imp fun w7' hx => ⟨hx.1, TwoS.set2 (by decide) (hAt 9 (by simp)).1 hk (hAt 6 (by simp)).2 (hB.store2 (RunR.res _ _) (WantR.res _) hx.2.1 hx.2.2)⟩
                    try simp only [Act.put]
                    refine Ps.done (by kernel_rfl) (fun w9q hS => ?_) _
                    obtain ⟨p1, p2, d1, d2, hk1, hk2, hB⟩ := TwoS.fin hS (by rfl)
                    clear hS
                    obtain rfl : g9 = p1 := pt_inj hB.e1
                    obtain rfl : g10 = p2 := pt_inj hB.e2
                    have hk1 : Value.agg #[.int .u64 T.s, .slice tA tm tc, .int .u64 T.num, .int .u64 T.p.num, .int .i64 T.p.frm, .int .i64 T.p.to, .slice tD tn td, .bool T.p.sp, .int .i64 T.gone, .int .i64 T.e] = .agg d1 := hk1
                    have hk2 : Value.agg #[.int .u64 T.s, .slice uA um uc, .int .u64 T.num, .int .u64 T.p.num, .int .i64 T.p.frm, .int .i64 T.p.to, .slice uD un ud, .bool T.p.sp, .int .i64 T.gone, .int .i64 T.e] = .agg d2 := hk2
                    injection hk1 with hk1
                    injection hk2 with hk2
                    subst hk1 hk2
                    have hr1 : RunR w7.heap.size T (.agg #[.int .u64 T.s, .slice tA tm tc, .int .u64 T.num, .int .u64 T.p.num, .int .i64 T.p.frm, .int .i64 T.p.to, .slice tD tn td, .bool T.p.sp, .int .i64 T.gone, .int .i64 T.e]) (fun b => b ≠ g9) _ := (RunR.res _ _).weak (fun b hb _ e => by subst e; exact hb.1 hB.e1) hB.r1
                    have hr2 : WantR T (.agg #[.int .u64 T.s, .slice uA um uc, .int .u64 T.num, .int .u64 T.p.num, .int .i64 T.p.frm, .int .i64 T.p.to, .slice uD un ud, .bool T.p.sp, .int .i64 T.gone, .int .i64 T.e]) AllB _ := (WantR.res _).weak (fun _ _ _ => trivial) hB.r2
                    refine ⟨g9, g10, A5, m5, c5, tA, tm, tc, tD, tn, td, uA, um, uc, uD, un, ud, ?_, hB.b1, hB.b2, hr1, hr2, hB.l1, hB.bel⟩
                    rfl
          case tw9q_5_8 =>
            refine Turns.mk (d := some 10) rfl rfl (TurnS.value (V := fun v => ∃ g, v = .pointer (some ⟨g, 0, none⟩)) [] (by kernel_rfl) (by rfl) (fun L9 m9 w9 hSh hAt hDn hS => ?cw9q_5_8)) (fun v8 hVv8 => ?rw9q_5_8)
            case cw9q_5_8 =>
              have hs1 := reach_no hSh (f := 11) (j := 9) (d := 8) (by kernel_rfl) hDn
              have hs2 := reach_no hSh (f := 11) (j := 10) (d := 8) (by kernel_rfl) hDn
              refine ⟨.pointer (some ⟨w9.heap.size, 0, none⟩), w9.alloc (.cells #[.int .u64 0, .slice none 0 0, .int .u64 0, .int .u64 0, .int .i64 0, .int .i64 0, .slice none 0 0, .bool false, .int .i64 0, .int .i64 0] 51), ?_, ⟨_, rfl⟩, TwoS.make2 hS (LRes.res _ _) (RunR.res _ _) (WantR.res _) hs1 hs2 (by decide)⟩
              clear hS
              go_simp
              try rfl
            try simp only [Act.put, List.setIfInBounds_toArray, List.set_cons_zero, List.set_cons_succ]
            obtain ⟨g10, rfl⟩ := hVv8
            refine Ps.some2 (i := 2) (j := 7) (by kernel_rfl) ?tw9q_71_2 ?tw9q_71_7
            case tw9q_71_2 =>
              refine Turns.mk (d := some 32) rfl rfl (TurnS.call (V := fun v => ∃ tA tm tc tD tn td, v = .agg #[.int .u64 T.s, .slice tA tm tc, .int .u64 T.num, .int .u64 T.p.num, .int .i64 T.p.frm, .int .i64 T.p.to, .slice tD tn td, .bool T.p.sp, .int .i64 T.gone, .int .i64 T.e]) ?fw9q_71_2 ?aw9q_71_2 [] (by kernel_rfl) (by rfl) (fun w9 => ?hw9q_71_2) (fun L9 m9 w9 hSh hAt hDn hS => ?cw9q_71_2)) (fun v2 hVv2 => ?rw9q_71_2)
              case hw9q_71_2 => go_simp; refine ⟨?_, ?_⟩ <;> rfl
              case cw9q_71_2 =>
                have hs1 := reach_no hSh (f := 11) (j := 9) (d := 2) (by kernel_rfl) hDn
                have hs2 := reach_no hSh (f := 11) (j := 10) (d := 2) (by kernel_rfl) hDn
                have hT := TwoS.any hS
                refine (HRUN.out w9 (Lay.rd_below HR.out hT) (RdB.below HOB.out hT)).mono ?_
                rintro e w8 ⟨A2, m2, c2, D2, n2, d2, rfl, ho, q8⟩
                exact ⟨_, rfl, ⟨A2, m2, c2, D2, n2, d2, rfl⟩, TwoS.call hS (LRes.res _ _) (RunR.res _ _) (WantR.res _) hs1 hs2 (by decide) q8 (fun e => absurd e (by decide)) (fun _ => RunR.of ho hT.size (fun b hb => (hS.at0 hs1).avoid (.inr hb))) (fun e => absurd e (by decide))⟩
              try simp only [Act.put, List.setIfInBounds_toArray, List.set_cons_zero, List.set_cons_succ]
              obtain ⟨tA, tm, tc, tD, tn, td, rfl⟩ := hVv2
              refine Ps.some2 (i := 5) (j := 7) (by kernel_rfl) ?tw9q_72_5 ?tw9q_72_7
              case tw9q_72_5 =>
                refine Turns.mk (d := some 35) rfl rfl (TurnS.call (V := fun v => ∃ A m c, v = .agg #[.int .u64 s, .slice A m c]) ?fw9q_72_5 ?aw9q_72_5 [] (by kernel_rfl) (by rfl) (fun w9 => ?hw9q_72_5) (fun L9 m9 w9 hSh hAt hDn hS => ?cw9q_72_5)) (fun v5 hVv5 => ?rw9q_72_5)
                case hw9q_72_5 => go_simp; refine ⟨?_, ?_⟩ <;> rfl
                case cw9q_72_5 =>
                  have hs1 := reach_no hSh (f := 11) (j := 9) (d := 5) (by kernel_rfl) hDn
                  have hs2 := reach_no hSh (f := 11) (j := 10) (d := 5) (by kernel_rfl) hDn
                  have hT := TwoS.any hS
                  refine (HSH.out A3 m3 c3 w9 (Lay.rd_below HRW.out hT) HM3.out).mono ?_
                  rintro e w8 ⟨A2, m2, c2, rfl, ho, q8⟩
                  have rd : LP.rd w8 (Av 7 8 m9) A2 m2 ps := ho.rd (fun b hb => (hS.at0 hs1).avoid (.inr hb))
                  have hcap := out_cap' ho
                  exact ⟨_, rfl, ⟨A2, m2, c2, rfl⟩, TwoS.call hS (LRes.res _ _) (RunR.res _ _) (WantR.res _) hs1 hs2 (by decide) q8 (fun _ => ⟨(s, ps), _, rfl, ⟨A2, m2, c2, rfl, hcap.1, hcap.2, rd⟩, rfl⟩) (fun e => absurd e (by decide)) (fun e => absurd e (by decide))⟩
                try simp only [Act.put, List.setIfInBounds_toArray, List.set_cons_zero, List.set_cons_succ]
                obtain ⟨A5, m5, c5, rfl⟩ := hVv5
                refine Ps.some2 (i := 6) (j := 7) (by kernel_rfl) ?tw9q_73_6 ?tw9q_73_7
                case tw9q_73_6 =>
                  refine Turns.mk (d := some 36) rfl rfl (TurnS.call (V := fun v => ∃ uA um uc uD un ud, v = .agg #[.int .u64 T.s, .slice uA um uc, .int .u64 T.num, .int .u64 T.p.num, .int .i64 T.p.frm, .int .i64 T.p.to, .slice uD un ud, .bool T.p.sp, .int .i64 T.gone, .int .i64 T.e]) ?fw9q_73_6 ?aw9q_73_6 [5] (by kernel_rfl) (by rfl) (fun w9 => ?hw9q_73_6) (fun L9 m9 w9 hSh hAt hDn hS => ?cw9q_73_6)) (fun v6 hVv6 => ?rw9q_73_6)
                  case hw9q_73_6 => go_simp; refine ⟨?_, ?_⟩ <;> rfl
                  case cw9q_73_6 =>
                    have hs1 := reach_no hSh (f := 11) (j := 9) (d := 6) (by kernel_rfl) hDn
                    have hs2 := reach_no hSh (f := 11) (j := 10) (d := 6) (by kernel_rfl) hDn
                    have hT := TwoS.any hS
                    obtain ⟨a0, cs0, he0, ⟨A2, m2, c2, hcs, hc1, hc2, hr0⟩, rfl⟩ := (hS.at0 hs1).r0 (hAt 5 (by simp)).1
                    obtain ⟨rfl, rfl, rfl⟩ : A5 = A2 ∧ m5 = m2 ∧ c5 = c2 := by have h9 := (hAt 5 (by simp)).2.symm.trans he0; exact inj_lres h9 hcs
                    refine (HWANT.out A5 m5 c5 w9 (Lay.rd_weak (fun _ _ _ => trivial) hr0) (Nat.le_trans hc1 hc2) (RdB.below HOB.out hT)).mono ?_
                    rintro e w8 ⟨A2, m2, c2, D2, n2, d2, rfl, ho, q8⟩
                    exact ⟨_, rfl, ⟨A2, m2, c2, D2, n2, d2, rfl⟩, TwoS.call hS (LRes.res _ _) (RunR.res _ _) (WantR.res _) hs1 hs2 (by decide) q8 (fun e => absurd e (by decide)) (fun e => absurd e (by decide)) (fun _ => WantR.of ho (fun b hb => (hS.at0 hs1).avoid (.inr hb)))⟩
                  try simp only [Act.put, List.setIfInBounds_toArray, List.set_cons_zero, List.set_cons_succ]
                  obtain ⟨uA, um, uc, uD, un, ud, rfl⟩ := hVv6
                  refine Ps.some1 (i := 7) (by kernel_rfl) ?tw9q_74_7
                  case tw9q_74_7 =>
                    refine Turns.mk (d := some 9) rfl rfl (TurnS.value (V := fun v => ∃ g, v = .pointer (some ⟨g, 0, none⟩)) [] (by kernel_rfl) (by rfl) (fun L9 m9 w9 hSh hAt hDn hS => ?cw9q_74_7)) (fun v7 hVv7 => ?rw9q_74_7)
                    case cw9q_74_7 =>
                      have hs1 := reach_no hSh (f := 11) (j := 9) (d := 7) (by kernel_rfl) hDn
                      have hs2 := reach_no hSh (f := 11) (j := 10) (d := 7) (by kernel_rfl) hDn
                      refine ⟨.pointer (some ⟨w9.heap.size, 0, none⟩), w9.alloc (.cells #[.int .u64 0, .slice none 0 0, .int .u64 0, .int .u64 0, .int .i64 0, .int .i64 0, .slice none 0 0, .bool false, .int .i64 0, .int .i64 0] 51), ?_, ⟨_, rfl⟩, TwoS.make1 hS (LRes.res _ _) (RunR.res _ _) (WantR.res _) hs1 hs2 (by decide)⟩
                      clear hS
                      go_simp
                      try rfl
                    try simp only [Act.put, List.setIfInBounds_toArray, List.set_cons_zero, List.set_cons_succ]
                    obtain ⟨g9, rfl⟩ := hVv7
                    refine Ps.step (i := 9) (d := none) (u := undef) rfl rfl (by kernel_rfl) (by kernel_rfl) (by kernel_rfl) (by kernel_rfl) ?yw9q_75 ?rw9q_75
                    case yw9q_75 =>
                      refine StepS.store [2, 6, 7, 8] (by kernel_rfl) (by rfl) (fun L9 m9 w9 hSh hAt hDn hS => ?_)
                      have hs2 := reach_no hSh (f := 11) (j := 10) (d := 9) (by kernel_rfl) hDn
                      obtain ⟨p1, p2, hB⟩ := TwoS.ready1 hS hDn (hAt 7 (by simp)).1 (hAt 8 (by simp)).1 (hAt 2 (by simp)).1 (hAt 6 (by simp)).1
                      obtain rfl : g9 = p1 := pt_inj ((hAt 7 (by simp)).2.symm.trans hB.e1)
                      refine (exec_store_blk (w := w9) 51 (.tmp 9) (.tmp 32) (by rfl) g9 51 #[.int .u64 0, .slice none 0 0, .int .u64 0, .int .u64 0, .int .i64 0, .int .i64 0, .slice none 0 0, .bool false, .int .i64 0, .int .i64 0] #[.int .u64 T.s, .slice tA tm tc, .int .u64 T.num, .int .u64 T.p.num, .int .i64 T.p.frm, .int .i64 T.p.to, .slice tD tn td, .bool T.p.sp, .int .i64 T.gone, .int .i64 T.e] (by rfl) (by rfl) hB.b1 rfl toldI (by simp [Value.oneCell'])).imp fun w7' hx => ⟨hx.1, TwoS.set1 hs2 (by decide) (hAt 2 (by simp)).2 (hB.store1 (RunR.res _ _) (WantR.res _) hx.2.1 hx.2.2)⟩
                    try simp only [Act.put]
                    refine Ps.step (i := 10) (d := none) (u := undef) rfl rfl (by kernel_rfl) (by kernel_rfl) (by kernel_rfl) (by kernel_rfl) ?yw9q_76 ?rw9q_76
                    case yw9q_76 =>
                      refine StepS.store [2, 6, 7, 8, 9] (by kernel_rfl) (by rfl) (fun L9 m9 w9 hSh hAt hDn hS => ?_)
                      obtain ⟨p1, p2, cc, hk, hB⟩ := TwoS.at1 hS (hAt 9 (by simp)).1 hDn
                      obtain rfl : g10 = p2 := pt_inj ((hAt 8 (by simp)).2.symm.trans hB.e2)
                      refine (exec_store_blk (w := w9) 51 (.tmp 10) (.tmp 36) (by rfl) g10 51 #[.int .u64 0, .slice none 0 0, .int .u64 0, .int .u64 0, .int .i64 0, .int .i64 0, .slice none 0 0, .bool false, .int .i64 0, .int .i64 0] #[.int .u64 T.s, .slice uA um uc, .int .u64 T.num, .int .u64 T.p.num, .int .i64 T.p.frm, .int .i64 T.p.to, .slice uD un ud, .bool T.p.sp, .int .i64 T.gone, .int .i64 T.e] (by rfl) (by rfl) hB.b2 rfl toldI (by simp [Value.oneCell'])).imp fun w7' hx => ⟨hx.1, TwoS.set2 (by decide) (hAt 9 (by simp)).1 hk (hAt 6 (by simp)).2 (hB.store2 (RunR.res _ _) (WantR.res _) hx.2.1 hx.2.2)⟩
                    try simp only [Act.put]
                    refine Ps.done (by kernel_rfl) (fun w9q hS => ?_) _
                    obtain ⟨p1, p2, d1, d2, hk1, hk2, hB⟩ := TwoS.fin hS (by rfl)
                    clear hS
                    obtain rfl : g9 = p1 := pt_inj hB.e1
                    obtain rfl : g10 = p2 := pt_inj hB.e2
                    have hk1 : Value.agg #[.int .u64 T.s, .slice tA tm tc, .int .u64 T.num, .int .u64 T.p.num, .int .i64 T.p.frm, .int .i64 T.p.to, .slice tD tn td, .bool T.p.sp, .int .i64 T.gone, .int .i64 T.e] = .agg d1 := hk1
                    have hk2 : Value.agg #[.int .u64 T.s, .slice uA um uc, .int .u64 T.num, .int .u64 T.p.num, .int .i64 T.p.frm, .int .i64 T.p.to, .slice uD un ud, .bool T.p.sp, .int .i64 T.gone, .int .i64 T.e] = .agg d2 := hk2
                    injection hk1 with hk1
                    injection hk2 with hk2
                    subst hk1 hk2
                    have hr1 : RunR w7.heap.size T (.agg #[.int .u64 T.s, .slice tA tm tc, .int .u64 T.num, .int .u64 T.p.num, .int .i64 T.p.frm, .int .i64 T.p.to, .slice tD tn td, .bool T.p.sp, .int .i64 T.gone, .int .i64 T.e]) (fun b => b ≠ g9) _ := (RunR.res _ _).weak (fun b hb _ e => by subst e; exact hb.1 hB.e1) hB.r1
                    have hr2 : WantR T (.agg #[.int .u64 T.s, .slice uA um uc, .int .u64 T.num, .int .u64 T.p.num, .int .i64 T.p.frm, .int .i64 T.p.to, .slice uD un ud, .bool T.p.sp, .int .i64 T.gone, .int .i64 T.e]) AllB _ := (WantR.res _).weak (fun _ _ _ => trivial) hB.r2
                    refine ⟨g9, g10, A5, m5, c5, tA, tm, tc, tD, tn, td, uA, um, uc, uD, un, ud, ?_, hB.b1, hB.b2, hr1, hr2, hB.l1, hB.bel⟩
                    rfl
                case tw9q_73_7 =>
                  refine Turns.mk (d := some 9) rfl rfl (TurnS.value (V := fun v => ∃ g, v = .pointer (some ⟨g, 0, none⟩)) [] (by kernel_rfl) (by rfl) (fun L9 m9 w9 hSh hAt hDn hS => ?cw9q_73_7)) (fun v7 hVv7 => ?rw9q_73_7)
                  case cw9q_73_7 =>
                    have hs1 := reach_no hSh (f := 11) (j := 9) (d := 7) (by kernel_rfl) hDn
                    have hs2 := reach_no hSh (f := 11) (j := 10) (d := 7) (by kernel_rfl) hDn
                    refine ⟨.pointer (some ⟨w9.heap.size, 0, none⟩), w9.alloc (.cells #[.int .u64 0, .slice none 0 0, .int .u64 0, .int .u64 0, .int .i64 0, .int .i64 0, .slice none 0 0, .bool false, .int .i64 0, .int .i64 0] 51), ?_, ⟨_, rfl⟩, TwoS.make1 hS (LRes.res _ _) (RunR.res _ _) (WantR.res _) hs1 hs2 (by decide)⟩
                    clear hS
                    go_simp
                    try rfl
                  try simp only [Act.put, List.setIfInBounds_toArray, List.set_cons_zero, List.set_cons_succ]
                  obtain ⟨g9, rfl⟩ := hVv7
                  refine Ps.some1 (i := 6) (by kernel_rfl) ?tw9q_77_6
                  case tw9q_77_6 =>
                    refine Turns.mk (d := some 36) rfl rfl (TurnS.call (V := fun v => ∃ uA um uc uD un ud, v = .agg #[.int .u64 T.s, .slice uA um uc, .int .u64 T.num, .int .u64 T.p.num, .int .i64 T.p.frm, .int .i64 T.p.to, .slice uD un ud, .bool T.p.sp, .int .i64 T.gone, .int .i64 T.e]) ?fw9q_77_6 ?aw9q_77_6 [5] (by kernel_rfl) (by rfl) (fun w9 => ?hw9q_77_6) (fun L9 m9 w9 hSh hAt hDn hS => ?cw9q_77_6)) (fun v6 hVv6 => ?rw9q_77_6)
                    case hw9q_77_6 => go_simp; refine ⟨?_, ?_⟩ <;> rfl
                    case cw9q_77_6 =>
                      have hs1 := reach_no hSh (f := 11) (j := 9) (d := 6) (by kernel_rfl) hDn
                      have hs2 := reach_no hSh (f := 11) (j := 10) (d := 6) (by kernel_rfl) hDn
                      have hT := TwoS.any hS
                      obtain ⟨a0, cs0, he0, ⟨A2, m2, c2, hcs, hc1, hc2, hr0⟩, rfl⟩ := (hS.at0 hs1).r0 (hAt 5 (by simp)).1
                      obtain ⟨rfl, rfl, rfl⟩ : A5 = A2 ∧ m5 = m2 ∧ c5 = c2 := by have h9 := (hAt 5 (by simp)).2.symm.trans he0; exact inj_lres h9 hcs
                      refine (HWANT.out A5 m5 c5 w9 (Lay.rd_weak (fun _ _ _ => trivial) hr0) (Nat.le_trans hc1 hc2) (RdB.below HOB.out hT)).mono ?_
                      rintro e w8 ⟨A2, m2, c2, D2, n2, d2, rfl, ho, q8⟩
                      exact ⟨_, rfl, ⟨A2, m2, c2, D2, n2, d2, rfl⟩, TwoS.call hS (LRes.res _ _) (RunR.res _ _) (WantR.res _) hs1 hs2 (by decide) q8 (fun e => absurd e (by decide)) (fun e => absurd e (by decide)) (fun _ => WantR.of ho (fun b hb => (hS.at0 hs1).avoid (.inr hb)))⟩
                    try simp only [Act.put, List.setIfInBounds_toArray, List.set_cons_zero, List.set_cons_succ]
                    obtain ⟨uA, um, uc, uD, un, ud, rfl⟩ := hVv6
                    refine Ps.step (i := 9) (d := none) (u := undef) rfl rfl (by kernel_rfl) (by kernel_rfl) (by kernel_rfl) (by kernel_rfl) ?yw9q_78 ?rw9q_78
                    case yw9q_78 =>
                      refine StepS.store [2, 6, 7, 8] (by kernel_rfl) (by rfl) (fun L9 m9 w9 hSh hAt hDn hS => ?_)
                      have hs2 := reach_no hSh (f := 11) (j := 10) (d := 9) (by kernel_rfl) hDn
                      obtain ⟨p1, p2, hB⟩ := TwoS.ready1 hS hDn (hAt 7 (by simp)).1 (hAt 8 (by simp)).1 (hAt 2 (by simp)).1 (hAt 6 (by simp)).1
                      obtain rfl : g9 = p1 := pt_inj ((hAt 7 (by simp)).2.symm.trans hB.e1)
                      refine (exec_store_blk (w := w9) 51 (.tmp 9) (.tmp 32) (by rfl) g9 51 #[.int .u64 0, .slice none 0 0, .int .u64 0, .int .u64 0, .int .i64 0, .int .i64 0, .slice none 0 0, .bool false, .int .i64 0, .int .i64 0] #[.int .u64 T.s, .slice tA tm tc, .int .u64 T.num, .int .u64 T.p.num, .int .i64 T.p.frm, .int .i64 T.p.to, .slice tD tn td, .bool T.p.sp, .int .i64 T.gone, .int .i64 T.e] (by rfl) (by rfl) hB.b1 rfl toldI (by simp [Value.oneCell'])).imp fun w7' hx => ⟨hx.1, TwoS.set1 hs2 (by decide) (hAt 2 (by simp)).2 (hB.store1 (RunR.res _ _) (WantR.res _) hx.2.1 hx.2.2)⟩
                    try simp only [Act.put]
                    refine Ps.step (i := 10) (d := none) (u := undef) rfl rfl (by kernel_rfl) (by kernel_rfl) (by kernel_rfl) (by kernel_rfl) ?yw9q_79 ?rw9q_79
                    case yw9q_79 =>
                      refine StepS.store [2, 6, 7, 8, 9] (by kernel_rfl) (by rfl) (fun L9 m9 w9 hSh hAt hDn hS => ?_)
                      obtain ⟨p1, p2, cc, hk, hB⟩ := TwoS.at1 hS (hAt 9 (by simp)).1 hDn
                      obtain rfl : g10 = p2 := pt_inj ((hAt 8 (by simp)).2.symm.trans hB.e2)
                      refine (exec_store_blk (w := w9) 51 (.tmp 10) (.tmp 36) (by rfl) g10 51 #[.int .u64 0, .slice none 0 0, .int .u64 0, .int .u64 0, .int .i64 0, .int .i64 0, .slice none 0 0, .bool false, .int .i64 0, .int .i64 0] #[.int .u64 T.s, .slice uA um uc, .int .u64 T.num, .int .u64 T.p.num, .int .i64 T.p.frm, .int .i64 T.p.to, .slice uD un ud, .bool T.p.sp, .int .i64 T.gone, .int .i64 T.e] (by rfl) (by rfl) hB.b2 rfl toldI (by simp [Value.oneCell'])).imp fun w7' hx => ⟨hx.1, TwoS.set2 (by decide) (hAt 9 (by simp)).1 hk (hAt 6 (by simp)).2 (hB.store2 (RunR.res _ _) (WantR.res _) hx.2.1 hx.2.2)⟩
                    try simp only [Act.put]
                    refine Ps.done (by kernel_rfl) (fun w9q hS => ?_) _
                    obtain ⟨p1, p2, d1, d2, hk1, hk2, hB⟩ := TwoS.fin hS (by rfl)
                    clear hS
                    obtain rfl : g9 = p1 := pt_inj hB.e1
                    obtain rfl : g10 = p2 := pt_inj hB.e2
                    have hk1 : Value.agg #[.int .u64 T.s, .slice tA tm tc, .int .u64 T.num, .int .u64 T.p.num, .int .i64 T.p.frm, .int .i64 T.p.to, .slice tD tn td, .bool T.p.sp, .int .i64 T.gone, .int .i64 T.e] = .agg d1 := hk1
                    have hk2 : Value.agg #[.int .u64 T.s, .slice uA um uc, .int .u64 T.num, .int .u64 T.p.num, .int .i64 T.p.frm, .int .i64 T.p.to, .slice uD un ud, .bool T.p.sp, .int .i64 T.gone, .int .i64 T.e] = .agg d2 := hk2
                    injection hk1 with hk1
                    injection hk2 with hk2
                    subst hk1 hk2
                    have hr1 : RunR w7.heap.size T (.agg #[.int .u64 T.s, .slice tA tm tc, .int .u64 T.num, .int .u64 T.p.num, .int .i64 T.p.frm, .int .i64 T.p.to, .slice tD tn td, .bool T.p.sp, .int .i64 T.gone, .int .i64 T.e]) (fun b => b ≠ g9) _ := (RunR.res _ _).weak (fun b hb _ e => by subst e; exact hb.1 hB.e1) hB.r1
                    have hr2 : WantR T (.agg #[.int .u64 T.s, .slice uA um uc, .int .u64 T.num, .int .u64 T.p.num, .int .i64 T.p.frm, .int .i64 T.p.to, .slice uD un ud, .bool T.p.sp, .int .i64 T.gone, .int .i64 T.e]) AllB _ := (WantR.res _).weak (fun _ _ _ => trivial) hB.r2
                    refine ⟨g9, g10, A5, m5, c5, tA, tm, tc, tD, tn, td, uA, um, uc, uD, un, ud, ?_, hB.b1, hB.b2, hr1, hr2, hB.l1, hB.bel⟩
                    rfl
              case tw9q_72_7 =>
                refine Turns.mk (d := some 9) rfl rfl (TurnS.value (V := fun v => ∃ g, v = .pointer (some ⟨g, 0, none⟩)) [] (by kernel_rfl) (by rfl) (fun L9 m9 w9 hSh hAt hDn hS => ?cw9q_72_7)) (fun v7 hVv7 => ?rw9q_72_7)
                case cw9q_72_7 =>
                  have hs1 := reach_no hSh (f := 11) (j := 9) (d := 7) (by kernel_rfl) hDn
                  have hs2 := reach_no hSh (f := 11) (j := 10) (d := 7) (by kernel_rfl) hDn
                  refine ⟨.pointer (some ⟨w9.heap.size, 0, none⟩), w9.alloc (.cells #[.int .u64 0, .slice none 0 0, .int .u64 0, .int .u64 0, .int .i64 0, .int .i64 0, .slice none 0 0, .bool false, .int .i64 0, .int .i64 0] 51), ?_, ⟨_, rfl⟩, TwoS.make1 hS (LRes.res _ _) (RunR.res _ _) (WantR.res _) hs1 hs2 (by decide)⟩
                  clear hS
                  go_simp
                  try rfl
                try simp only [Act.put, List.setIfInBounds_toArray, List.set_cons_zero, List.set_cons_succ]
                obtain ⟨g9, rfl⟩ := hVv7
                refine Ps.some1 (i := 5) (by kernel_rfl) ?tw9q_80_5
                case tw9q_80_5 =>
                  refine Turns.mk (d := some 35) rfl rfl (TurnS.call (V := fun v => ∃ A m c, v = .agg #[.int .u64 s, .slice A m c]) ?fw9q_80_5 ?aw9q_80_5 [] (by kernel_rfl) (by rfl) (fun w9 => ?hw9q_80_5) (fun L9 m9 w9 hSh hAt hDn hS => ?cw9q_80_5)) (fun v5 hVv5 => ?rw9q_80_5)
                  case hw9q_80_5 => go_simp; refine ⟨?_, ?_⟩ <;> rfl
                  case cw9q_80_5 =>
                    have hs1 := reach_no hSh (f := 11) (j := 9) (d := 5) (by kernel_rfl) hDn
                    have hs2 := reach_no hSh (f := 11) (j := 10) (d := 5) (by kernel_rfl) hDn
                    have hT := TwoS.any hS
                    refine (HSH.out A3 m3 c3 w9 (Lay.rd_below HRW.out hT) HM3.out).mono ?_
                    rintro e w8 ⟨A2, m2, c2, rfl, ho, q8⟩
                    have rd : LP.rd w8 (Av 7 8 m9) A2 m2 ps := ho.rd (fun b hb => (hS.at0 hs1).avoid (.inr hb))
                    have hcap := out_cap' ho
                    exact ⟨_, rfl, ⟨A2, m2, c2, rfl⟩, TwoS.call hS (LRes.res _ _) (RunR.res _ _) (WantR.res _) hs1 hs2 (by decide) q8 (fun _ => ⟨(s, ps), _, rfl, ⟨A2, m2, c2, rfl, hcap.1, hcap.2, rd⟩, rfl⟩) (fun e => absurd e (by decide)) (fun e => absurd e (by decide))⟩
                  try simp only [Act.put, List.setIfInBounds_toArray, List.set_cons_zero, List.set_cons_succ]
                  obtain ⟨A5, m5, c5, rfl⟩ := hVv5
                  refine Ps.some1 (i := 6) (by kernel_rfl) ?tw9q_81_6
                  case tw9q_81_6 =>
                    refine Turns.mk (d := some 36) rfl rfl (TurnS.call (V := fun v => ∃ uA um uc uD un ud, v = .agg #[.int .u64 T.s, .slice uA um uc, .int .u64 T.num, .int .u64 T.p.num, .int .i64 T.p.frm, .int .i64 T.p.to, .slice uD un ud, .bool T.p.sp, .int .i64 T.gone, .int .i64 T.e]) ?fw9q_81_6 ?aw9q_81_6 [5] (by kernel_rfl) (by rfl) (fun w9 => ?hw9q_81_6) (fun L9 m9 w9 hSh hAt hDn hS => ?cw9q_81_6)) (fun v6 hVv6 => ?rw9q_81_6)
                    case hw9q_81_6 => go_simp; refine ⟨?_, ?_⟩ <;> rfl
                    case cw9q_81_6 =>
                      have hs1 := reach_no hSh (f := 11) (j := 9) (d := 6) (by kernel_rfl) hDn
                      have hs2 := reach_no hSh (f := 11) (j := 10) (d := 6) (by kernel_rfl) hDn
                      have hT := TwoS.any hS
                      obtain ⟨a0, cs0, he0, ⟨A2, m2, c2, hcs, hc1, hc2, hr0⟩, rfl⟩ := (hS.at0 hs1).r0 (hAt 5 (by simp)).1
                      obtain ⟨rfl, rfl, rfl⟩ : A5 = A2 ∧ m5 = m2 ∧ c5 = c2 := by have h9 := (hAt 5 (by simp)).2.symm.trans he0; exact inj_lres h9 hcs
                      refine (HWANT.out A5 m5 c5 w9 (Lay.rd_weak (fun _ _ _ => trivial) hr0) (Nat.le_trans hc1 hc2) (RdB.below HOB.out hT)).mono ?_
                      rintro e w8 ⟨A2, m2, c2, D2, n2, d2, rfl, ho, q8⟩
                      exact ⟨_, rfl, ⟨A2, m2, c2, D2, n2, d2, rfl⟩, TwoS.call hS (LRes.res _ _) (RunR.res _ _) (WantR.res _) hs1 hs2 (by decide) q8 (fun e => absurd e (by decide)) (fun e => absurd e (by decide)) (fun _ => WantR.of ho (fun b hb => (hS.at0 hs1).avoid (.inr hb)))⟩
                    try simp only [Act.put, List.setIfInBounds_toArray, List.set_cons_zero, List.set_cons_succ]
                    obtain ⟨uA, um, uc, uD, un, ud, rfl⟩ := hVv6
                    refine Ps.step (i := 9) (d := none) (u := undef) rfl rfl (by kernel_rfl) (by kernel_rfl) (by kernel_rfl) (by kernel_rfl) ?yw9q_82 ?rw9q_82
                    case yw9q_82 =>
                      refine StepS.store [2, 6, 7, 8] (by kernel_rfl) (by rfl) (fun L9 m9 w9 hSh hAt hDn hS => ?_)
                      have hs2 := reach_no hSh (f := 11) (j := 10) (d := 9) (by kernel_rfl) hDn
                      obtain ⟨p1, p2, hB⟩ := TwoS.ready1 hS hDn (hAt 7 (by simp)).1 (hAt 8 (by simp)).1 (hAt 2 (by simp)).1 (hAt 6 (by simp)).1
                      obtain rfl : g9 = p1 := pt_inj ((hAt 7 (by simp)).2.symm.trans hB.e1)
                      refine (exec_store_blk (w := w9) 51 (.tmp 9) (.tmp 32) (by rfl) g9 51 #[.int .u64 0, .slice none 0 0, .int .u64 0, .int .u64 0, .int .i64 0, .int .i64 0, .slice none 0 0, .bool false, .int .i64 0, .int .i64 0] #[.int .u64 T.s, .slice tA tm tc, .int .u64 T.num, .int .u64 T.p.num, .int .i64 T.p.frm, .int .i64 T.p.to, .slice tD tn td, .bool T.p.sp, .int .i64 T.gone, .int .i64 T.e] (by rfl) (by rfl) hB.b1 rfl toldI (by simp [Value.oneCell'])).imp fun w7' hx => ⟨hx.1, TwoS.set1 hs2 (by decide) (hAt 2 (by simp)).2 (hB.store1 (RunR.res _ _) (WantR.res _) hx.2.1 hx.2.2)⟩
                    try simp only [Act.put]
                    refine Ps.step (i := 10) (d := none) (u := undef) rfl rfl (by kernel_rfl) (by kernel_rfl) (by kernel_rfl) (by kernel_rfl) ?yw9q_83 ?rw9q_83
                    case yw9q_83 =>
                      refine StepS.store [2, 6, 7, 8, 9] (by kernel_rfl) (by rfl) (fun L9 m9 w9 hSh hAt hDn hS => ?_)
                      obtain ⟨p1, p2, cc, hk, hB⟩ := TwoS.at1 hS (hAt 9 (by simp)).1 hDn
                      obtain rfl : g10 = p2 := pt_inj ((hAt 8 (by simp)).2.symm.trans hB.e2)
                      refine (exec_store_blk (w := w9) 51 (.tmp 10) (.tmp 36) (by rfl) g10 51 #[.int .u64 0, .slice none 0 0, .int .u64 0, .int .u64 0, .int .i64 0, .int .i64 0, .slice none 0 0, .bool false, .int .i64 0, .int .i64 0] #[.int .u64 T.s, .slice uA um uc, .int .u64 T.num, .int .u64 T.p.num, .int .i64 T.p.frm, .int .i64 T.p.to, .slice uD un ud, .bool T.p.sp, .int .i64 T.gone, .int .i64 T.e] (by rfl) (by rfl) hB.b2 rfl toldI (by simp [Value.oneCell'])).imp fun w7' hx => ⟨hx.1, TwoS.set2 (by decide) (hAt 9 (by simp)).1 hk (hAt 6 (by simp)).2 (hB.store2 (RunR.res _ _) (WantR.res _) hx.2.1 hx.2.2)⟩
                    try simp only [Act.put]
                    refine Ps.done (by kernel_rfl) (fun w9q hS => ?_) _
                    obtain ⟨p1, p2, d1, d2, hk1, hk2, hB⟩ := TwoS.fin hS (by rfl)
                    clear hS
                    obtain rfl : g9 = p1 := pt_inj hB.e1
                    obtain rfl : g10 = p2 := pt_inj hB.e2
                    have hk1 : Value.agg #[.int .u64 T.s, .slice tA tm tc, .int .u64 T.num, .int .u64 T.p.num, .int .i64 T.p.frm, .int .i64 T.p.to, .slice tD tn td, .bool T.p.sp, .int .i64 T.gone, .int .i64 T.e] = .agg d1 := hk1
                    have hk2 : Value.agg #[.int .u64 T.s, .slice uA um uc, .int .u64 T.num, .int .u64 T.p.num, .int .i64 T.p.frm, .int .i64 T.p.to, .slice uD un ud, .bool T.p.sp, .int .i64 T.gone, .int .i64 T.e] = .agg d2 := hk2
                    injection hk1 with hk1
                    injection hk2 with hk2
                    subst hk1 hk2
                    have hr1 : RunR w7.heap.size T (.agg #[.int .u64 T.s, .slice tA tm tc, .int .u64 T.num, .int .u64 T.p.num, .int .i64 T.p.frm, .int .i64 T.p.to, .slice tD tn td, .bool T.p.sp, .int .i64 T.gone, .int .i64 T.e]) (fun b => b ≠ g9) _ := (RunR.res _ _).weak (fun b hb _ e => by subst e; exact hb.1 hB.e1) hB.r1
                    have hr2 : WantR T (.agg #[.int .u64 T.s, .slice uA um uc, .int .u64 T.num, .int .u64 T.p.num, .int .i64 T.p.frm, .int .i64 T.p.to, .slice uD un ud, .bool T.p.sp, .int .i64 T.gone, .int .i64 T.e]) AllB _ := (WantR.res _).weak (fun _ _ _ => trivial) hB.r2
                    refine ⟨g9, g10, A5, m5, c5, tA, tm, tc, tD, tn, td, uA, um, uc, uD, un, ud, ?_, hB.b1, hB.b2, hr1, hr2, hB.l1, hB.bel⟩
                    rfl
            case tw9q_71_7 =>
              refine Turns.mk (d := some 9) rfl rfl (TurnS.value (V := fun v => ∃ g, v = .pointer (some ⟨g, 0, none⟩)) [] (by kernel_rfl) (by rfl) (fun L9 m9 w9 hSh hAt hDn hS => ?cw9q_71_7)) (fun v7 hVv7 => ?rw9q_71_7)
              case cw9q_71_7 =>
                have hs1 := reach_no hSh (f := 11) (j := 9) (d := 7) (by kernel_rfl) hDn
                have hs2 := reach_no hSh (f := 11) (j := 10) (d := 7) (by kernel_rfl) hDn
                refine ⟨.pointer (some ⟨w9.heap.size, 0, none⟩), w9.alloc (.cells #[.int .u64 0, .slice none 0 0, .int .u64 0, .int .u64 0, .int .i64 0, .int .i64 0, .slice none 0 0, .bool false, .int .i64 0, .int .i64 0] 51), ?_, ⟨_, rfl⟩, TwoS.make1 hS (LRes.res _ _) (RunR.res _ _) (WantR.res _) hs1 hs2 (by decide)⟩
                clear hS
                go_simp
                try rfl
              try simp only [Act.put, List.setIfInBounds_toArray, List.set_cons_zero, List.set_cons_succ]
              obtain ⟨g9, rfl⟩ := hVv7
              refine Ps.some1 (i := 2) (by kernel_rfl) ?tw9q_84_2
              case tw9q_84_2 =>
                refine Turns.mk (d := some 32) rfl rfl (TurnS.call (V := fun v => ∃ tA tm tc tD tn td, v = .agg #[.int .u64 T.s, .slice tA tm tc, .int .u64 T.num, .int .u64 T.p.num, .int .i64 T.p.frm, .int .i64 T.p.to, .slice tD tn td, .bool T.p.sp, .int .i64 T.gone, .int .i64 T.e]) ?fw9q_84_2 ?aw9q_84_2 [] (by kernel_rfl) (by rfl) (fun w9 => ?hw9q_84_2) (fun L9 m9 w9 hSh hAt hDn hS => ?cw9q_84_2)) (fun v2 hVv2 => ?rw9q_84_2)
                case hw9q_84_2 => go_simp; refine ⟨?_, ?_⟩ <;> rfl
                case cw9q_84_2 =>
                  have hs1 := reach_no hSh (f := 11) (j := 9) (d := 2) (by kernel_rfl) hDn
                  have hs2 := reach_no hSh (f := 11) (j := 10) (d := 2) (by kernel_rfl) hDn
                  have hT := TwoS.any hS
                  refine (HRUN.out w9 (Lay.rd_below HR.out hT) (RdB.below HOB.out hT)).mono ?_
                  rintro e w8 ⟨A2, m2, c2, D2, n2, d2, rfl, ho, q8⟩
                  exact ⟨_, rfl, ⟨A2, m2, c2, D2, n2, d2, rfl⟩, TwoS.call hS (LRes.res _ _) (RunR.res _ _) (WantR.res _) hs1 hs2 (by decide) q8 (fun e => absurd e (by decide)) (fun _ => RunR.of ho hT.size (fun b hb => (hS.at0 hs1).avoid (.inr hb))) (fun e => absurd e (by decide))⟩
                try simp only [Act.put, List.setIfInBounds_toArray, List.set_cons_zero, List.set_cons_succ]
                obtain ⟨tA, tm, tc, tD, tn, td, rfl⟩ := hVv2
                refine Ps.some1 (i := 5) (by kernel_rfl) ?tw9q_85_5
                case tw9q_85_5 =>
                  refine Turns.mk (d := some 35) rfl rfl (TurnS.call (V := fun v => ∃ A m c, v = .agg #[.int .u64 s, .slice A m c]) ?fw9q_85_5 ?aw9q_85_5 [] (by kernel_rfl) (by rfl) (fun w9 => ?hw9q_85_5) (fun L9 m9 w9 hSh hAt hDn hS => ?cw9q_85_5)) (fun v5 hVv5 => ?rw9q_85_5)
                  case hw9q_85_5 => go_simp; refine ⟨?_, ?_⟩ <;> rfl
                  case cw9q_85_5 =>
                    have hs1 := reach_no hSh (f := 11) (j := 9) (d := 5) (by kernel_rfl) hDn
                    have hs2 := reach_no hSh (f := 11) (j := 10) (d := 5) (by kernel_rfl) hDn
                    have hT := TwoS.any hS
                    refine (HSH.out A3 m3 c3 w9 (Lay.rd_below HRW.out hT) HM3.out).mono ?_
                    rintro e w8 ⟨A2, m2, c2, rfl, ho, q8⟩
                    have rd : LP.rd w8 (Av 7 8 m9) A2 m2 ps := ho.rd (fun b hb => (hS.at0 hs1).avoid (.inr hb))
                    have hcap := out_cap' ho
                    exact ⟨_, rfl, ⟨A2, m2, c2, rfl⟩, TwoS.call hS (LRes.res _ _) (RunR.res _ _) (WantR.res _) hs1 hs2 (by decide) q8 (fun _ => ⟨(s, ps), _, rfl, ⟨A2, m2, c2, rfl, hcap.1, hcap.2, rd⟩, rfl⟩) (fun e => absurd e (by decide)) (fun e => absurd e (by decide))⟩
                  try simp only [Act.put, List.setIfInBounds_toArray, List.set_cons_zero, List.set_cons_succ]
                  obtain ⟨A5, m5, c5, rfl⟩ := hVv5
                  refine Ps.some1 (i := 6) (by kernel_rfl) ?tw9q_86_6
                  case tw9q_86_6 =>
                    refine Turns.mk (d := some 36) rfl rfl (TurnS.call (V := fun v => ∃ uA um uc uD un ud, v = .agg #[.int .u64 T.s, .slice uA um uc, .int .u64 T.num, .int .u64 T.p.num, .int .i64 T.p.frm, .int .i64 T.p.to, .slice uD un ud, .bool T.p.sp, .int .i64 T.gone, .int .i64 T.e]) ?fw9q_86_6 ?aw9q_86_6 [5] (by kernel_rfl) (by rfl) (fun w9 => ?hw9q_86_6) (fun L9 m9 w9 hSh hAt hDn hS => ?cw9q_86_6)) (fun v6 hVv6 => ?rw9q_86_6)
                    case hw9q_86_6 => go_simp; refine ⟨?_, ?_⟩ <;> rfl
                    case cw9q_86_6 =>
                      have hs1 := reach_no hSh (f := 11) (j := 9) (d := 6) (by kernel_rfl) hDn
                      have hs2 := reach_no hSh (f := 11) (j := 10) (d := 6) (by kernel_rfl) hDn
                      have hT := TwoS.any hS
                      obtain ⟨a0, cs0, he0, ⟨A2, m2, c2, hcs, hc1, hc2, hr0⟩, rfl⟩ := (hS.at0 hs1).r0 (hAt 5 (by simp)).1
                      obtain ⟨rfl, rfl, rfl⟩ : A5 = A2 ∧ m5 = m2 ∧ c5 = c2 := by have h9 := (hAt 5 (by simp)).2.symm.trans he0; exact inj_lres h9 hcs
                      refine (HWANT.out A5 m5 c5 w9 (Lay.rd_weak (fun _ _ _ => trivial) hr0) (Nat.le_trans hc1 hc2) (RdB.below HOB.out hT)).mono ?_
                      rintro e w8 ⟨A2, m2, c2, D2, n2, d2, rfl, ho, q8⟩
                      exact ⟨_, rfl, ⟨A2, m2, c2, D2, n2, d2, rfl⟩, TwoS.call hS (LRes.res _ _) (RunR.res _ _) (WantR.res _) hs1 hs2 (by decide) q8 (fun e => absurd e (by decide)) (fun e => absurd e (by decide)) (fun _ => WantR.of ho (fun b hb => (hS.at0 hs1).avoid (.inr hb)))⟩
                    try simp only [Act.put, List.setIfInBounds_toArray, List.set_cons_zero, List.set_cons_succ]
                    obtain ⟨uA, um, uc, uD, un, ud, rfl⟩ := hVv6
                    refine Ps.step (i := 9) (d := none) (u := undef) rfl rfl (by kernel_rfl) (by kernel_rfl) (by kernel_rfl) (by kernel_rfl) ?yw9q_87 ?rw9q_87
                    case yw9q_87 =>
                      refine StepS.store [2, 6, 7, 8] (by kernel_rfl) (by rfl) (fun L9 m9 w9 hSh hAt hDn hS => ?_)
                      have hs2 := reach_no hSh (f := 11) (j := 10) (d := 9) (by kernel_rfl) hDn
                      obtain ⟨p1, p2, hB⟩ := TwoS.ready1 hS hDn (hAt 7 (by simp)).1 (hAt 8 (by simp)).1 (hAt 2 (by simp)).1 (hAt 6 (by simp)).1
                      obtain rfl : g9 = p1 := pt_inj ((hAt 7 (by simp)).2.symm.trans hB.e1)
                      refine (exec_store_blk (w := w9) 51 (.tmp 9) (.tmp 32) (by rfl) g9 51 #[.int .u64 0, .slice none 0 0, .int .u64 0, .int .u64 0, .int .i64 0, .int .i64 0, .slice none 0 0, .bool false, .int .i64 0, .int .i64 0] #[.int .u64 T.s, .slice tA tm tc, .int .u64 T.num, .int .u64 T.p.num, .int .i64 T.p.frm, .int .i64 T.p.to, .slice tD tn td, .bool T.p.sp, .int .i64 T.gone, .int .i64 T.e] (by rfl) (by rfl) hB.b1 rfl toldI (by simp [Value.oneCell'])).imp fun w7' hx => ⟨hx.1, TwoS.set1 hs2 (by decide) (hAt 2 (by simp)).2 (hB.store1 (RunR.res _ _) (WantR.res _) hx.2.1 hx.2.2)⟩
                    try simp only [Act.put]
                    refine Ps.step (i := 10) (d := none) (u := undef) rfl rfl (by kernel_rfl) (by kernel_rfl) (by kernel_rfl) (by kernel_rfl) ?yw9q_88 ?rw9q_88
                    case yw9q_88 =>
                      refine StepS.store [2, 6, 7, 8, 9] (by kernel_rfl) (by rfl) (fun L9 m9 w9 hSh hAt hDn hS => ?_)
                      obtain ⟨p1, p2, cc, hk, hB⟩ := TwoS.at1 hS (hAt 9 (by simp)).1 hDn
                      obtain rfl : g10 = p2 := pt_inj ((hAt 8 (by simp)).2.symm.trans hB.e2)
                      refine (exec_store_blk (w := w9) 51 (.tmp 10) (.tmp 36) (by rfl) g10 51 #[.int .u64 0, .slice none 0 0, .int .u64 0, .int .u64 0, .int .i64 0, .int .i64 0, .slice none 0 0, .bool false, .int .i64 0, .int .i64 0] #[.int .u64 T.s, .slice uA um uc, .int .u64 T.num, .int .u64 T.p.num, .int .i64 T.p.frm, .int .i64 T.p.to, .slice uD un ud, .bool T.p.sp, .int .i64 T.gone, .int .i64 T.e] (by rfl) (by rfl) hB.b2 rfl toldI (by simp [Value.oneCell'])).imp fun w7' hx => ⟨hx.1, TwoS.set2 (by decide) (hAt 9 (by simp)).1 hk (hAt 6 (by simp)).2 (hB.store2 (RunR.res _ _) (WantR.res _) hx.2.1 hx.2.2)⟩
                    try simp only [Act.put]
                    refine Ps.done (by kernel_rfl) (fun w9q hS => ?_) _
                    obtain ⟨p1, p2, d1, d2, hk1, hk2, hB⟩ := TwoS.fin hS (by rfl)
                    clear hS
                    obtain rfl : g9 = p1 := pt_inj hB.e1
                    obtain rfl : g10 = p2 := pt_inj hB.e2
                    have hk1 : Value.agg #[.int .u64 T.s, .slice tA tm tc, .int .u64 T.num, .int .u64 T.p.num, .int .i64 T.p.frm, .int .i64 T.p.to, .slice tD tn td, .bool T.p.sp, .int .i64 T.gone, .int .i64 T.e] = .agg d1 := hk1
                    have hk2 : Value.agg #[.int .u64 T.s, .slice uA um uc, .int .u64 T.num, .int .u64 T.p.num, .int .i64 T.p.frm, .int .i64 T.p.to, .slice uD un ud, .bool T.p.sp, .int .i64 T.gone, .int .i64 T.e] = .agg d2 := hk2
                    injection hk1 with hk1
                    injection hk2 with hk2
                    subst hk1 hk2
                    have hr1 : RunR w7.heap.size T (.agg #[.int .u64 T.s, .slice tA tm tc, .int .u64 T.num, .int .u64 T.p.num, .int .i64 T.p.frm, .int .i64 T.p.to, .slice tD tn td, .bool T.p.sp, .int .i64 T.gone, .int .i64 T.e]) (fun b => b ≠ g9) _ := (RunR.res _ _).weak (fun b hb _ e => by subst e; exact hb.1 hB.e1) hB.r1
                    have hr2 : WantR T (.agg #[.int .u64 T.s, .slice uA um uc, .int .u64 T.num, .int .u64 T.p.num, .int .i64 T.p.frm, .int .i64 T.p.to, .slice uD un ud, .bool T.p.sp, .int .i64 T.gone, .int .i64 T.e]) AllB _ := (WantR.res _).weak (fun _ _ _ => trivial) hB.r2
                    refine ⟨g9, g10, A5, m5, c5, tA, tm, tc, tD, tn, td, uA, um, uc, uD, un, ud, ?_, hB.b1, hB.b2, hr1, hr2, hB.l1, hB.bel⟩
                    rfl
        intro a' w10 ⟨g9, g10, A5, m5, c5, tA, tm, tc, tD, tn, td, uA, um, uc, uD, un, ud, ha', b9, b10, hrun, hwant, hg9, hb10⟩
        subst ha'
        simp only [Act.put, List.setIfInBounds_toArray, List.set_cons_zero, List.set_cons_succ]
        replace H5 := Lib.hid (H5.out.ca hb10)
        replace H8 := Lib.hid (H8.out.ca hb10)
        have HRo := Lib.hid (Lay.rd_below (Lay.rd_weak (G := fun b => b < w7.heap.size) (fun b _ hb => hb) HR.out) hb10)
        have HRWo := Lib.hid (Lay.rd_below (Lay.rd_weak (G := fun b => b < w7.heap.size) (fun b _ hb => hb) HRW.out) hb10)
        have HRno := Lib.hid (Lay.rd_below (Lay.rd_weak (G := fun b => b < w7.heap.size ∧ b ≠ g5) (fun b h9 hb => ⟨hb, h9⟩) HRn.out) hb10)
        replace HBW := Lib.hid (bl_ca HBW.out hb10)
        have hs7 := hb10.size
        have HBB := Lib.hid hb10
        clear H7 HOB HSH HRUN HWANT HR HRW HRn hb10
        generalize w7.heap.size = B0 at *
        have h9l := b9.lt
        obtain ⟨_, _, _, _, _, _, es, hre, hd, hes, hoD, f1, f2, f3, hz⟩ := hrun
        obtain ⟨rfl, rfl, rfl, rfl, rfl, rfl⟩ := inj_told hre
        obtain ⟨_, _, _, _, _, _, hwe, hwr, hwb⟩ := hwant
        obtain ⟨rfl, rfl, rfl, rfl, rfl, rfl⟩ := inj_told hwe
        have H9 := Lib.hid b9
        have H10 := Lib.hid b10
        have y0 : w10.cell? ⟨g9, 0, none⟩ = some (.int .u64 T.s) := b9.cell 0
        have y1 : w10.cell? ⟨g9, 1, none⟩ = some (.slice tA tm tc) := b9.cell 1
        have y2 : w10.cell? ⟨g9, 2, none⟩ = some (.int .u64 T.num) := b9.cell 2
        have y3 : w10.cell? ⟨g9, 3, none⟩ = some (.int .u64 T.p.num) := b9.cell 3
        have y4 : w10.cell? ⟨g9, 4, none⟩ = some (.int .i64 T.p.frm) := b9.cell 4
        have y5 : w10.cell? ⟨g9, 5, none⟩ = some (.int .i64 T.p.to) := b9.cell 5
        have y6 : w10.cell? ⟨g9, 6, none⟩ = some (.slice tD tn td) := b9.cell 6
        have y7 : w10.cell? ⟨g9, 7, none⟩ = some (.bool T.p.sp) := b9.cell 7
        have y8 : w10.cell? ⟨g9, 8, none⟩ = some (.int .i64 T.gone) := b9.cell 8
        have y9 : w10.cell? ⟨g9, 9, none⟩ = some (.int .i64 T.e) := b9.cell 9
        have z0 : w10.cell? ⟨g10, 0, none⟩ = some (.int .u64 T.s) := b10.cell 0
        have z1 : w10.cell? ⟨g10, 1, none⟩ = some (.slice uA um uc) := b10.cell 1
        have z2 : w10.cell? ⟨g10, 2, none⟩ = some (.int .u64 T.num) := b10.cell 2
        have z3 : w10.cell? ⟨g10, 3, none⟩ = some (.int .u64 T.p.num) := b10.cell 3
        have z4 : w10.cell? ⟨g10, 4, none⟩ = some (.int .i64 T.p.frm) := b10.cell 4
        have z5 : w10.cell? ⟨g10, 5, none⟩ = some (.int .i64 T.p.to) := b10.cell 5
        have z6 : w10.cell? ⟨g10, 6, none⟩ = some (.slice uD un ud) := b10.cell 6
        have z7 : w10.cell? ⟨g10, 7, none⟩ = some (.bool T.p.sp) := b10.cell 7
        have z8 : w10.cell? ⟨g10, 8, none⟩ = some (.int .i64 T.gone) := b10.cell 8
        have z9 : w10.cell? ⟨g10, 9, none⟩ = some (.int .i64 T.e) := b10.cell 9
        have v0 : w10.cell? ⟨g5, 0, none⟩ = some (.int .u64 s) := H5.out.cell 0
        have v1 : w10.cell? ⟨g5, 1, none⟩ = some (.slice A m c) := H5.out.cell 1
        have u0 : w10.cell? ⟨g8, 0, none⟩ = some (.int .u64 s) := H8.out.cell 0
        have u1 : w10.cell? ⟨g8, 1, none⟩ = some (.slice A3 m3 c3) := H8.out.cell 1
        have HSP := Lib.hid (rsamep_any T.p T.p tD tn td uD un ud w10 hoD.rd (LB_rd hwb))
        rw [sameP_self] at HSP
        have hrt : LP.rd w10 AllB tA tm T.ps := by rw [← hes]; exact hd.rd (fun _ _ => trivial)
        have htm : tm ≤ 20001 := by have := Lay.rd_len hrt; have := brief_len HBT.out; omega
        have HRT := Lib.hid hrt
        have HRU := Lib.hid hwr
        have HD := Lib.hid hd
        have HES := Lib.hid hes
        have HOD := Lib.hid hoD
        have HF4 := Lib.hid (fun b hb => (own_base' hoD b hb).2)
        have HF5 := Lib.hid (fun y hy b hb => ((hd.own y hy).base_ b hb).2)
        have HF1 := Lib.hid f1
        have HF2 := Lib.hid f2
        have HF3 := Lib.hid f3
        have HZ := Lib.hid hz
        clear b9 b10 hre hwe hwr hwb hrt hd hes hoD f1 f2 f3 hz
        go_wp2_with fail
        refine HSP.out.mono ?_
        clear HSP
        rintro e w11 ⟨rfl, q11⟩
        replace y0 : w11.cell? ⟨g9, 0, none⟩ = some (.int .u64 T.s) := (H9.out.ca q11).cell 0
        replace y1 : w11.cell? ⟨g9, 1, none⟩ = some (.slice tA tm tc) := (H9.out.ca q11).cell 1
        replace y2 : w11.cell? ⟨g9, 2, none⟩ = some (.int .u64 T.num) := (H9.out.ca q11).cell 2
        replace y3 : w11.cell? ⟨g9, 3, none⟩ = some (.int .u64 T.p.num) := (H9.out.ca q11).cell 3
        replace y4 : w11.cell? ⟨g9, 4, none⟩ = some (.int .i64 T.p.frm) := (H9.out.ca q11).cell 4
        replace y5 : w11.cell? ⟨g9, 5, none⟩ = some (.int .i64 T.p.to) := (H9.out.ca q11).cell 5
        replace y6 : w11.cell? ⟨g9, 6, none⟩ = some (.slice tD tn td) := (H9.out.ca q11).cell 6
        replace y7 : w11.cell? ⟨g9, 7, none⟩ = some (.bool T.p.sp) := (H9.out.ca q11).cell 7
        replace y8 : w11.cell? ⟨g9, 8, none⟩ = some (.int .i64 T.gone) := (H9.out.ca q11).cell 8
        replace y9 : w11.cell? ⟨g9, 9, none⟩ = some (.int .i64 T.e) := (H9.out.ca q11).cell 9
        replace z0 : w11.cell? ⟨g10, 0, none⟩ = some (.int .u64 T.s) := (H10.out.ca q11).cell 0
        replace z1 : w11.cell? ⟨g10, 1, none⟩ = some (.slice uA um uc) := (H10.out.ca q11).cell 1
        replace z2 : w11.cell? ⟨g10, 2, none⟩ = some (.int .u64 T.num) := (H10.out.ca q11).cell 2
        replace z3 : w11.cell? ⟨g10, 3, none⟩ = some (.int .u64 T.p.num) := (H10.out.ca q11).cell 3
        replace z4 : w11.cell? ⟨g10, 4, none⟩ = some (.int .i64 T.p.frm) := (H10.out.ca q11).cell 4
        replace z5 : w11.cell? ⟨g10, 5, none⟩ = some (.int .i64 T.p.to) := (H10.out.ca q11).cell 5
        replace z6 : w11.cell? ⟨g10, 6, none⟩ = some (.slice uD un ud) := (H10.out.ca q11).cell 6
        replace z7 : w11.cell? ⟨g10, 7, none⟩ = some (.bool T.p.sp) := (H10.out.ca q11).cell 7
        replace z8 : w11.cell? ⟨g10, 8, none⟩ = some (.int .i64 T.gone) := (H10.out.ca q11).cell 8
        replace z9 : w11.cell? ⟨g10, 9, none⟩ = some (.int .i64 T.e) := (H10.out.ca q11).cell 9
        replace v0 : w11.cell? ⟨g5, 0, none⟩ = some (.int .u64 s) := (H5.out.ca q11).cell 0
        replace v1 : w11.cell? ⟨g5, 1, none⟩ = some (.slice A m c) := (H5.out.ca q11).cell 1
        replace u0 : w11.cell? ⟨g8, 0, none⟩ = some (.int .u64 s) := (H8.out.ca q11).cell 0
        replace u1 : w11.cell? ⟨g8, 1, none⟩ = some (.slice A3 m3 c3) := (H8.out.ca q11).cell 1
        have HQ := Lib.hid q11
        clear q11
        have HSP := Lib.hid (rsame_any T.s tA tm tc T.ps T.s uA um uc T.ps w11 (Lay.rd_below HRT.out HQ.out) (Lay.rd_below HRU.out HQ.out) (by omega))
        rw [show decide (T.s = T.s ∧ T.ps = T.ps) = true from by simp] at HSP
        go_wp2_with fail
        refine HSP.out.mono ?_
        clear HSP
        rintro e w12 ⟨rfl, q12⟩
        replace HQ := Lib.hid (bl_ca HQ.out q12)
        clear q12
        replace y0 : w12.cell? ⟨g9, 0, none⟩ = some (.int .u64 T.s) := (H9.out.ca HQ.out).cell 0
        replace y1 : w12.cell? ⟨g9, 1, none⟩ = some (.slice tA tm tc) := (H9.out.ca HQ.out).cell 1
        replace y2 : w12.cell? ⟨g9, 2, none⟩ = some (.int .u64 T.num) := (H9.out.ca HQ.out).cell 2
        replace y3 : w12.cell? ⟨g9, 3, none⟩ = some (.int .u64 T.p.num) := (H9.out.ca HQ.out).cell 3
        replace y4 : w12.cell? ⟨g9, 4, none⟩ = some (.int .i64 T.p.frm) := (H9.out.ca HQ.out).cell 4
        replace y5 : w12.cell? ⟨g9, 5, none⟩ = some (.int .i64 T.p.to) := (H9.out.ca HQ.out).cell 5
        replace y6 : w12.cell? ⟨g9, 6, none⟩ = some (.slice tD tn td) := (H9.out.ca HQ.out).cell 6
        replace y7 : w12.cell? ⟨g9, 7, none⟩ = some (.bool T.p.sp) := (H9.out.ca HQ.out).cell 7
        replace y8 : w12.cell? ⟨g9, 8, none⟩ = some (.int .i64 T.gone) := (H9.out.ca HQ.out).cell 8
        replace y9 : w12.cell? ⟨g9, 9, none⟩ = some (.int .i64 T.e) := (H9.out.ca HQ.out).cell 9
        replace z0 : w12.cell? ⟨g10, 0, none⟩ = some (.int .u64 T.s) := (H10.out.ca HQ.out).cell 0
        replace z1 : w12.cell? ⟨g10, 1, none⟩ = some (.slice uA um uc) := (H10.out.ca HQ.out).cell 1
        replace z2 : w12.cell? ⟨g10, 2, none⟩ = some (.int .u64 T.num) := (H10.out.ca HQ.out).cell 2
        replace z3 : w12.cell? ⟨g10, 3, none⟩ = some (.int .u64 T.p.num) := (H10.out.ca HQ.out).cell 3
        replace z4 : w12.cell? ⟨g10, 4, none⟩ = some (.int .i64 T.p.frm) := (H10.out.ca HQ.out).cell 4
        replace z5 : w12.cell? ⟨g10, 5, none⟩ = some (.int .i64 T.p.to) := (H10.out.ca HQ.out).cell 5
        replace z6 : w12.cell? ⟨g10, 6, none⟩ = some (.slice uD un ud) := (H10.out.ca HQ.out).cell 6
        replace z7 : w12.cell? ⟨g10, 7, none⟩ = some (.bool T.p.sp) := (H10.out.ca HQ.out).cell 7
        replace z8 : w12.cell? ⟨g10, 8, none⟩ = some (.int .i64 T.gone) := (H10.out.ca HQ.out).cell 8
        replace z9 : w12.cell? ⟨g10, 9, none⟩ = some (.int .i64 T.e) := (H10.out.ca HQ.out).cell 9
        replace v0 : w12.cell? ⟨g5, 0, none⟩ = some (.int .u64 s) := (H5.out.ca HQ.out).cell 0
        replace v1 : w12.cell? ⟨g5, 1, none⟩ = some (.slice A m c) := (H5.out.ca HQ.out).cell 1
        replace u0 : w12.cell? ⟨g8, 0, none⟩ = some (.int .u64 s) := (H8.out.ca HQ.out).cell 0
        replace u1 : w12.cell? ⟨g8, 1, none⟩ = some (.slice A3 m3 c3) := (H8.out.ca HQ.out).cell 1
        have HSP := Lib.hid (rsame_any s A m c ps s A3 m3 c3 ps w12 (Lay.rd_weak (fun _ _ _ => trivial) (Lay.rd_below HRo.out HQ.out)) (Lay.rd_weak (fun _ _ _ => trivial) (Lay.rd_below HRWo.out HQ.out)) (by omega))
        rw [show decide (s = s ∧ ps = ps) = true from by simp] at HSP
        go_wp2_with fail
        refine HSP.out.mono ?_
        clear HSP
        rintro e w13 ⟨rfl, q13⟩
        replace HQ := Lib.hid (bl_ca HQ.out q13)
        clear q13 y0 y1 y2 y3 y4 y5 y6 y7 y8 y9 u0 v0 u1 v1 z2 z3 z4 z5 z6 z7 z8 z9
        replace z0 : w13.cell? ⟨g10, 0, none⟩ = some (.int .u64 T.s) := (H10.out.ca HQ.out).cell 0
        replace z1 : w13.cell? ⟨g10, 1, none⟩ = some (.slice uA um uc) := (H10.out.ca HQ.out).cell 1
        have HSP := Lib.hid (rcopy_any T.s uA um uc T.ps w13 (Lay.rd_below HRU.out HQ.out) (by have := Lay.rd_len HRU.out; have := brief_len HBT.out; omega) (fun x hx => by have := brief_bytes HBT.out x hx; omega))
        go_wp2_with fail
        refine HSP.out.mono ?_
        clear HSP z0 z1
        rintro e w14 ⟨nA, nc, rfl, hon, q14⟩
        have q15 := bl_al (Below.refl w14.heap.size w14) (.cells #[.int .u64 T.s, .slice nA um nc] 26)
        have H11 := Lib.hid (Blk.new w14 26 #[.int .u64 T.s, .slice nA um nc])
        have HNX := Lib.hid (Lay.rd_below (hon.rd (F := fun b => w13.heap.size ≤ b) (fun b hb => hb)) q15)
        have hs13 := HQ.out.size
        have hs14 := q14.size
        have hbq := bl_ca (bl_ca HQ.out q14) q15
        replace H5 := Lib.hid (H5.out.ca hbq)
        replace H8 := Lib.hid (H8.out.ca hbq)
        replace H9 := Lib.hid (H9.out.ca hbq)
        replace HRo := Lib.hid (Lay.rd_below HRo.out hbq)
        replace HRWo := Lib.hid (Lay.rd_below HRWo.out hbq)
        replace HRno := Lib.hid (Lay.rd_below HRno.out hbq)
        replace HD := Lib.hid (HD.out.below hbq)
        replace HOD := Lib.hid (HOD.out.below hbq)
        replace HBW := Lib.hid (bl_ca HBW.out hbq)
        have hlt11 : w14.heap.size < (w14.alloc (.cells #[.int .u64 T.s, .slice nA um nc] 26)).heap.size := by simp only [World.size_alloc]; omega
        clear hon q14 q15 hbq HQ HRT HRU H10
        have htn : tn ≤ 9223372036854775807 := by have := HOD.out.cap; unfold maxLen at this; omega
        have hX1 : ∀ b, (Value.slice tD tn td).ownBlock = some b → b < w10.heap.size ∧ B0 ≤ b ∧ b ≠ g9 := fun b hb => ⟨HF4.out b hb, (own_base' HOD.out b hb).1, HF3.out b hb⟩
        have y6 : (w14.alloc (.cells #[.int .u64 T.s, .slice nA um nc] 26)).cell? ⟨g9, 6, none⟩ = some (.slice tD tn td) := H9.out.cell 6
        go_wp2_with fail
        generalize w14.alloc (.cells #[.int .u64 T.s, .slice nA um nc] 26) = w15 at *
        generalize w14.heap.size = g11 at *
        clear y6
        obtain ⟨go, rfl⟩ : ∃ g, g = gk := ⟨_, rfl⟩
        obtain ⟨wo, rfl⟩ : ∃ x, x = wr := ⟨_, rfl⟩
        go_loopg [85] tn (fun gz a wr => ∃ (k0 : Nat) (bs2 : List UInt8), k0 + gz = tn ∧ a = .int .i64 k0 ∧ OwnB wr B0 tD tn td bs2 ∧ Chg (fun b => (Value.slice tD tn td).ownBlock = some b) w15 wr)
        case atStart => exact ⟨0, _, by omega, rfl, HOD.out, Chg.refl _ _⟩
        case round =>
          obtain ⟨k0, bs2, hkg, rfl, hO, hch⟩ := hrel
          have HO := Lib.hid hO
          have HCH := Lib.hid hch
          have hb9 := H9.out.chg hch (fun e => (hX1 _ e).2.2 rfl)
          by_cases hk : k0 < tn
          · have hk1 : (k0 : Int) < (tn : Int) := by omega
            have y6 : wr.cell? ⟨g9, 6, none⟩ = some (.slice tD tn td) := hb9.cell 6
            obtain ⟨g, rfl, hg1, hg2⟩ := hO.form (by omega)
            obtain ⟨x, hx⟩ : ∃ x, bs2[k0]? = some x := ⟨_, List.getElem?_eq_getElem (by rw [hO.rd.len]; exact hk)⟩
            have cx : wr.cell? ⟨g, k0, none⟩ = some (.int .u8 (x.toNat : Int)) := by
              have := World.ownsRow.cellAt hO k0 (by omega)
              simpa [List.getElem?_map, hx, vb] using this
            have fx : wr.frozen? ⟨g, k0, none⟩ = false := World.ownsRow.frozenAt hO k0
            have hv := xor_vb x
            obtain ⟨ho9, g9x⟩ := OwnB.set_ HO.out k0 (x ^^^ 238)
            rw [← hv] at ho9 g9x
            have HO9 := Lib.hid ho9
            have HC9 := Lib.hid (HCH.out.grown g9x (by simp [Value.ownBlock]))
            clear hv ho9 g9x hx hO hch hb9
            go_wp2
            go_roundg (gk - 1)
            · exact ⟨k0 + 1, _, by omega, by go_num, HO9.out, HC9.out⟩
            · omega
          · obtain rfl : k0 = tn := by omega
            have hk1 : (k0 : Int) ≤ (k0 : Int) := by omega
            have hXD : ∀ b, (Value.slice tD k0 td).ownBlock = some b → b < w10.heap.size ∧ B0 ≤ b ∧ b ≠ g9 := fun b hb => hX1 b (by simpa using hb)
            replace H5 := Lib.hid (H5.out.chg HCH.out (fun e => by have := (hXD _ e).2.1; omega))
            replace H8 := Lib.hid (H8.out.chg HCH.out (fun e => by have := (hXD _ e).2.1; omega))
            replace H11 := Lib.hid (H11.out.chg HCH.out (fun e => by have := (hXD _ e).1; omega))
            replace H9 := Lib.hid (H9.out.chg HCH.out (fun e => (hXD _ e).2.2 rfl))
            replace HRo := Lib.hid (rd_chg HRo.out HCH.out (fun b h9 e => by have := (hXD _ e).2.1; have h8 : b < B0 := h9; omega))
            replace HRWo := Lib.hid (rd_chg HRWo.out HCH.out (fun b h9 e => by have := (hXD _ e).2.1; have h8 : b < B0 := h9; omega))
            replace HRno := Lib.hid (rd_chg HRno.out HCH.out (fun b h9 e => by have := (hXD _ e).2.1; have h8 : b < B0 := h9.1; omega))
            replace HNX := Lib.hid (rd_chg HNX.out HCH.out (fun b h9 e => by have := (hXD _ e).1; have h8 : w13.heap.size ≤ b := h9; omega))
            replace HBW := Lib.hid (Chg.below HBW.out HCH.out (fun b e => by have := (hXD _ e).2.1; omega) HBW.out.size)
            replace HD := Lib.hid (DO.chg_ HD.out HCH.out (fun b e e2 => ro_ne HD.out.row HOD.out b e e2) (fun y hy b e e2 => HZ.out y hy b e2 e))
            have hs15 := HCH.out.size
            have hrt : LP.rd wr AllB tA tm T.ps := by rw [← HES.out]; exact HD.out.rd (fun _ _ => trivial)
            clear hch hb9 hO HO HCH HOD hX1 hXD
            have y0 : wr.cell? ⟨g9, 0, none⟩ = some (.int .u64 T.s) := H9.out.cell 0
            have y1 : wr.cell? ⟨g9, 1, none⟩ = some (.slice tA tm tc) := H9.out.cell 1
            have n0 : wr.cell? ⟨g11, 0, none⟩ = some (.int .u64 T.s) := H11.out.cell 0
            have n1 : wr.cell? ⟨g11, 1, none⟩ = some (.slice nA um nc) := H11.out.cell 1
            have HSP := Lib.hid (rsame_any T.s tA tm tc T.ps T.s nA um nc T.ps wr hrt (Lay.rd_weak (fun _ _ _ => trivial) HNX.out) (by omega))
            rw [show decide (T.s = T.s ∧ T.ps = T.ps) = true from by simp] at HSP
            clear hrt
            go_wp2_with fail
            refine HSP.out.mono ?_
            clear HSP y0 y1 n0 n1
            rintro e w16 ⟨rfl, q16⟩
            have hs16 := q16.size
            replace H5 := Lib.hid (H5.out.ca q16)
            replace H8 := Lib.hid (H8.out.ca q16)
            replace H9 := Lib.hid (H9.out.ca q16)
            replace H11 := Lib.hid (H11.out.ca q16)
            replace HRo := Lib.hid (Lay.rd_below HRo.out q16)
            replace HRWo := Lib.hid (Lay.rd_below HRWo.out q16)
            replace HRno := Lib.hid (Lay.rd_below HRno.out q16)
            replace HNX := Lib.hid (Lay.rd_below HNX.out q16)
            replace HD := Lib.hid (HD.out.below q16)
            replace HBW := Lib.hid (bl_ca HBW.out q16)
            clear q16
            have hX2 : ∀ b, (∃ y ∈ es, y.bk = some b) → b < w10.heap.size ∧ B0 ≤ b ∧ b ≠ g9 := fun b ⟨y, hy, hb⟩ => ⟨HF5.out y hy b hb, ((HD.out.own y hy).base_ b hb).1, HF2.out y hy b hb⟩
            have HRow := Lib.hid HD.out.row
            have HAP := Lib.hid HD.out.apart
            have hby : Bys w16 B0 es := fun y hy => ⟨_, HD.out.own y hy⟩
            have HBY := Lib.hid hby
            clear hby HD
            have y1 : w16.cell? ⟨g9, 1, none⟩ = some (.slice tA tm tc) := H9.out.cell 1
            go_wp2_with fail
            clear y1
            go_loopg [106] tm (fun gz a wr => ∃ k : Nat, k + gz = tm ∧ a = .int .i64 k ∧ Bys wr B0 es ∧ Chg (fun b => ∃ y ∈ es, y.bk = some b) w16 wr)
            case atStart => exact ⟨0, by omega, rfl, HBY.out, Chg.refl _ _⟩
            case round =>
              obtain ⟨k, hkg, rfl, hby, hch⟩ := hrel
              have HBY2 := Lib.hid hby
              have HCH := Lib.hid hch
              have hb9 := H9.out.chg hch (fun e => (hX2 _ e).2.2 rfl)
              have HRo2 := Lib.hid (ownsRow_same HRow.out (fun b e => hch.block b (own_base' HRow.out b e).2 (fun ⟨y, hy, h9⟩ => ro_ney HRow.out HBY.out b e y hy h9)))
              by_cases hk : k < tm
              · have hk1 : (k : Int) < (tm : Int) := by omega
                have y1 : wr.cell? ⟨g9, 1, none⟩ = some (.slice tA tm tc) := hb9.cell 1
                obtain ⟨gA, rfl, hgA1, hgA2⟩ := Ro.form HRo2.out (by omega)
                obtain ⟨y, hy⟩ : ∃ y, es[k]? = some y := ⟨_, List.getElem?_eq_getElem (by rw [Ro.len HRo2.out]; exact hk)⟩
                obtain ⟨_, _, _, c3, _⟩ := Ro.cell HRo2.out hy
                have hym := List.mem_of_getElem? hy
                obtain ⟨bs1, ho1⟩ := hby y hym
                have hyn : y.n ≤ 9223372036854775807 := by have := ho1.cap; unfold maxLen at this; omega
                clear hb9 hby hch ho1
                have HY := Lib.hid hy
                have HYM := Lib.hid hym
                clear hy hym
                obtain ⟨yp, yA, yn, yc⟩ := y
                dsimp only at c3 hyn
                go_wp2_with fail
                clear c3 y1
                obtain ⟨gj, rfl⟩ : ∃ g, g = gk := ⟨_, rfl⟩
                obtain ⟨wj, rfl⟩ : ∃ x, x = wr := ⟨_, rfl⟩
                go_loopg [117] yn (fun gz a wr => ∃ j : Nat, j + gz = yn ∧ a = .int .i64 j ∧ Bys wr B0 es ∧ Chg (fun b => ∃ y ∈ es, y.bk = some b) w16 wr)
                case atStart => exact ⟨0, by omega, rfl, HBY2.out, HCH.out⟩
                case round =>
                  obtain ⟨j, hjg, rfl, hby, hch⟩ := hrel
                  have HBY3 := Lib.hid hby
                  have HCH3 := Lib.hid hch
                  have hb9 := H9.out.chg hch (fun e => (hX2 _ e).2.2 rfl)
                  have HRo3 := Lib.hid (ownsRow_same HRow.out (fun b e => hch.block b (own_base' HRow.out b e).2 (fun ⟨y, hy, h9⟩ => ro_ney HRow.out HBY.out b e y hy h9)))
                  by_cases hj : j < yn
                  · have hj1 : (j : Int) < (yn : Int) := by omega
                    have y1 : wr.cell? ⟨g9, 1, none⟩ = some (.slice (some ⟨gA, 0, none⟩) tm tc) := hb9.cell 1
                    obtain ⟨_, _, _, c3, _⟩ := Ro.cell HRo3.out HY.out
                    obtain ⟨bs1, ho1⟩ := hby _ HYM.out
                    dsimp only at c3 ho1
                    obtain ⟨g, rfl, hg1, hg2⟩ := ho1.form (by omega)
                    obtain ⟨x, hx⟩ : ∃ x, bs1[j]? = some x := ⟨_, List.getElem?_eq_getElem (by rw [ho1.rd.len]; exact hj)⟩
                    have cx : wr.cell? ⟨g, j, none⟩ = some (.int .u8 (x.toNat : Int)) := by
                      have := World.ownsRow.cellAt ho1 j (by omega)
                      simpa [List.getElem?_map, hx, vb] using this
                    have fx : wr.frozen? ⟨g, j, none⟩ = false := World.ownsRow.frozenAt ho1 j
                    have hv := xor_vb x
                    obtain ⟨ho9, g9x⟩ := Bys.set_ HBY3.out HAP.out HYM.out (i := j) (g := g) (x := x ^^^ 238) rfl
                    rw [← hv] at ho9 g9x
                    have HO9 := Lib.hid ho9
                    have HC9 := Lib.hid (HCH3.out.grown g9x ⟨_, HYM.out, by simp [El.bk, Value.ownBlock]⟩)
                    clear hv ho9 g9x hx hch hb9 hby ho1
                    go_wp2
                    go_roundg (gk - 1)
                    · exact ⟨j + 1, by omega, by go_num, HO9.out, HC9.out⟩
                    · omega
                  · obtain rfl : j = yn := by omega
                    have hj1 : (j : Int) ≤ (j : Int) := by omega
                    clear hb9 hby hch
                    go_wp2
                    go_roundg (gj - 1)
                    · exact ⟨k + 1, by omega, by go_num, HBY3.out, HCH3.out⟩
                    · omega
              · obtain rfl : k = tm := by omega
                have hk1 : (k : Int) ≤ (k : Int) := by omega
                replace H5 := Lib.hid (H5.out.chg HCH.out (fun e => by have := (hX2 _ e).2.1; omega))
                replace H8 := Lib.hid (H8.out.chg HCH.out (fun e => by have := (hX2 _ e).2.1; omega))
                replace H11 := Lib.hid (H11.out.chg HCH.out (fun e => by have := (hX2 _ e).1; omega))
                replace H9 := Lib.hid (H9.out.chg HCH.out (fun e => (hX2 _ e).2.2 rfl))
                replace HRo := Lib.hid (rd_chg HRo.out HCH.out (fun b h9 e => by have := (hX2 _ e).2.1; have h8 : b < B0 := h9; omega))
                replace HRWo := Lib.hid (rd_chg HRWo.out HCH.out (fun b h9 e => by have := (hX2 _ e).2.1; have h8 : b < B0 := h9; omega))
                replace HRno := Lib.hid (rd_chg HRno.out HCH.out (fun b h9 e => by have := (hX2 _ e).2.1; have h8 : b < B0 := h9.1; omega))
                replace HNX := Lib.hid (rd_chg HNX.out HCH.out (fun b h9 e => by have := (hX2 _ e).1; have h8 : w13.heap.size ≤ b := h9; omega))
                replace HBW := Lib.hid (Chg.below HBW.out HCH.out (fun b e => by have := (hX2 _ e).2.1; omega) HBW.out.size)
                clear hb9 hby hch HCH HBY2 HRo2 HBY HRow
                have v0 : wr.cell? ⟨g5, 0, none⟩ = some (.int .u64 s) := H5.out.cell 0
                have u0 : wr.cell? ⟨g8, 0, none⟩ = some (.int .u64 s) := H8.out.cell 0
                have v1 : wr.cell? ⟨g5, 1, none⟩ = some (.slice A m c) := H5.out.cell 1
                have u1 : wr.cell? ⟨g8, 1, none⟩ = some (.slice A3 m3 c3) := H8.out.cell 1
                have HSP := Lib.hid (rsame_any s A m c ps s A3 m3 c3 ps wr (Lay.rd_weak (fun _ _ _ => trivial) HRo.out) (Lay.rd_weak (fun _ _ _ => trivial) HRWo.out) (by omega))
                rw [show decide (s = s ∧ ps = ps) = true from by simp] at HSP
                go_wp2_with fail
                refine HSP.out.mono ?_
                clear HSP u0 u1 v0 v1
                rintro e w20 ⟨rfl, q20⟩
                replace H5 := Lib.hid (H5.out.ca q20)
                replace H9 := Lib.hid (H9.out.ca q20)
                replace H11 := Lib.hid (H11.out.ca q20)
                replace HRno := Lib.hid (Lay.rd_below HRno.out q20)
                replace HNX := Lib.hid (Lay.rd_below HNX.out q20)
                replace HBW := Lib.hid (bl_ca HBW.out q20)
                clear q20 HRo HRWo H8
                have y9 : w20.cell? ⟨g9, 9, none⟩ = some (.int .i64 T.e) := H9.out.cell 9
                by_cases hte : T.e = 0
                · have he2 : ((T.e : Int) == 0) = true := by simpa using hte
                  have n0 : w20.cell? ⟨g11, 0, none⟩ = some (.int .u64 T.s) := H11.out.cell 0
                  have n1 : w20.cell? ⟨g11, 1, none⟩ = some (.slice nA um nc) := H11.out.cell 1
                  clear hte
                  go_wp2_with (refine wpList_store_blk rfl 26 (.tmp 5) (.tmp 141) rfl g5 26 #[.int .u64 s, .slice A m c] #[.int .u64 T.s, .slice nA um nc] rfl rfl H5.out rfl netI (by simp [Value.oneCell']) ?_; intro wz hZ gz)
                  go_roundg (go - 1)
                  · exact ⟨i + 1, T.s, nA, um, nc, T.ps, by omega, by omega, by go_num, bl_gr HBW.out gz (by omega), hZ, Lay.rd_weak (fun b h9 _ e => by have h8 : w13.heap.size ≤ b := h9; omega) (Lay.rd_keep (fun b h9 hb => gz.block b hb (fun e => by injection e with e; have h8 : w13.heap.size ≤ b := h9; omega)) HNX.out), HBT.out, hsT⟩
                  · omega
                · have he2 : ((T.e : Int) == 0) = false := by simpa using hte
                  clear hte
                  go_wp2
                  go_roundg (go - 1)
                  · exact ⟨i + 1, s, A, m, c, ps, by omega, by omega, by go_num, HBW.out, H5.out, Lay.rd_weak (fun b h9 _ => h9.2) HRno.out, HBR.out, hs1⟩
                  · omega
    · obtain rfl : i = ln := by omega
      have hi1 : (i : Int) ≤ (i : Int) := by omega
      clear hbw h5 hr hbr
      go_wp2
      go_ret
      exact ⟨rfl, HBW.out⟩
end Go.Proofs.Ytnbcffnhgijmcaa
