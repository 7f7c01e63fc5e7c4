/- What is of another session, or may not be, changes nothing (LinkOthers). Conditions: none. -/
import Derived.Test.YtojghgbaiiajfaaPkO19
namespace Go.Proofs.Ytojghgbaiiajfaa
open Go.RowKit
theorem chg_no {w w' : World} (h : Chg noX w w') : Below w.heap.size w w' := ⟨h.os, h.tape, h.output, h.size, fun b hb => h.block b hb (fun e => e)⟩
set_option maxRecDepth 100000 in
theorem hear_no_any (r : RC) (A : Option Addr) (n c : Nat) (A2 : Option Addr) (m d : Nat) (pk : PK) (pA : Option Addr) (pn pc : Nat) (w : World) (h : LH4.rd w AllB A n r.ahead) (h2 : LB3.rd w AllB A2 m r.buf) (hr : LR.rd w AllB pA pn pk.b.rows) (hn : n ≤ 9223372036854775807) (hm : m ≤ 9223372036854775807) (hpn : pn ≤ 9223372036854775807) (hno : heardA r pk = false) :
    Calls Try.prog 29 #[.agg (r.cells A n c A2 m d), .agg (pk.cells pA pn pc)] w fun e w' => ∃ (t : RC) (A' : Option Addr) (n' c' : Nat) (B' : Option Addr) (m' d' : Nat) (N : Int), e = .returned (.tuple #[.agg (t.cells A' n' c' B' m' d'), .int .i64 N]) ∧ Below w.heap.size w w' ∧ (N = 0 → t = r) ∧ LH4.rd w' AllB A' n' t.ahead ∧ n' ≤ 9223372036854775807 ∧ LB3.rd w' AllB B' m' t.buf ∧ m' ≤ 9223372036854775807 := by
  refine (hear_do (fun k => k < w.heap.size) r r A n c A2 m d pk pA pn pc w (fun _ h => h) (Lay.rd_weak (fun _ _ h => h) h) (Lay.rd_weak (fun _ _ h => h) h2) (Lay.rd_weak (fun _ _ h => h) hr) hn hm (fun w0 hp hr0 _ => hear1_no r pk (w.heap.size + 1) pA pn pc w0 _ hp hr0 hpn hno)).mono ?_
  rintro e w' ⟨t, A', n', c', B', m', d', N, rfl, ho⟩
  unfold HearsO at ho
  cases hs : recB r
  · rw [hs] at ho
    obtain ⟨hC, hN, hb⟩ := ho
    exact ⟨zeroR, none, 0, 0, none, 0, 0, N, by rw [hC], hb, fun e => by omega, Lay.rd_nil _, by omega, Lay.rd_nil _, by omega⟩
  · rw [hs] at ho
    obtain ⟨hc, _, h3⟩ := ho
    rcases h3 with ⟨h3, _⟩ | ⟨_, hN, A3, n3, c3, A4, m4, d4, hC, hR⟩
    · exact absurd rfl h3
    · exact ⟨r, A3, n3, c3, A4, m4, d4, N, by rw [hC], (chg_no hc), fun _ => rfl, Lay.rd_weak (fun _ _ _ => trivial) hR.ra, Nat.le_trans hR.ca.1 hR.ca.2, Lay.rd_weak (fun _ _ _ => trivial) hR.rb, Nat.le_trans hR.cb.1 hR.cb.2⟩
set_option maxRecDepth 100000 in
theorem acked_no_any (s : SC) (A : Option Addr) (n c : Nat) (pk : PK) (pA : Option Addr) (pn pc : Nat) (w : World) (h : LB3.rd w AllB A n s.q) (hr : LR.rd w AllB pA pn pk.b.rows) (hn : n ≤ 9223372036854775807) (hpn : pn ≤ 9223372036854775807) (h0 : 0 ≤ s.base) (hno : ackedB s pk = false) :
    Calls Try.prog 30 #[.agg (s.cells A n c), .agg (pk.cells pA pn pc)] w fun e w' => ∃ (t : SC) (A' : Option Addr) (n' c' : Nat) (N : Int), e = .returned (.tuple #[.agg (t.cells A' n' c'), .int .i64 N]) ∧ Below w.heap.size w w' ∧ (N = 0 → t = s) ∧ LB3.rd w' AllB A' n' t.q ∧ n' ≤ 9223372036854775807 := by
  have hR : ackedR s pk = s := by unfold ackedR; rw [hno]; rfl
  have hk := acked_any (fun k => k < w.heap.size) s A n c pk pA pn pc w (fun _ h => h) (Lay.rd_weak (fun _ _ h => h) h) (Lay.rd_weak (fun _ _ h => h) hr) hn hpn h0
  rw [hR] at hk
  refine hk.mono ?_
  rintro e w' ⟨t, A', n', c', N, rfl, ho⟩
  unfold SendsO at ho
  cases hs : sendB s
  · rw [hs] at ho
    obtain ⟨hC, hN, hb⟩ := ho
    exact ⟨zeroS, none, 0, 0, N, by rw [hC], hb, fun e => by omega, Lay.rd_nil _, by omega⟩
  · rw [hs] at ho
    obtain ⟨hc, _, h3⟩ := ho
    rcases h3 with ⟨h3, _⟩ | ⟨_, hN, A3, n3, c3, hC, ho⟩
    · exact absurd rfl h3
    · have hca := Lay.own_caps ho
      exact ⟨s, A3, n3, c3, N, by rw [hC], (chg_no hc), fun _ => rfl, Lay.own_rd ho (fun _ _ _ => trivial) (fun _ _ _ => trivial), Nat.le_trans hca.1 hca.2⟩
theorem others_no {r : RC} {s : SC} {pk : PK} {EP : Int} (hE : EP = (if checkP pk then 0 else 321)) (h : false = ((decide (EP = 0)) && ((decide (pk.ses = r.ses)) || (decide (pk.ses = s.ses))))) : heardA r pk = false ∧ ackedB s pk = false := by
  subst hE
  unfold heardA ackedB
  cases hc : checkP pk
  · simp
  · rw [hc] at h
    have h1 : decide (pk.ses = r.ses) = false := by
      cases h9 : decide (pk.ses = r.ses)
      · rfl
      · rw [h9] at h; simp at h
    have h2 : decide (pk.ses = s.ses) = false := by
      cases h9 : decide (pk.ses = s.ses)
      · rfl
      · rw [h9] at h; simp at h
    rw [h1, h2]
    simp
set_option maxRecDepth 100000 in
set_option maxHeartbeats 64000000 in
theorem others_law (x : RC) (XA : Option Addr) (xn xc : Nat) (XB : Option Addr) (xm xd : Nat) (y : SC) (YA : Option Addr) (yn yc : Nat) (L : Option Addr) (m mc : Nat) (ps : List PK) (w : World) (hx : LH4.rd w AllB XA xn x.ahead) (hxc : xn ≤ xc) (hxm : xc ≤ 9223372036854775807) (hx2 : LB3.rd w AllB XB xm x.buf) (hxd : xm ≤ xd) (hxe : xd ≤ 9223372036854775807) (_hxr : RC.rng x)
    (hy : LB3.rd w AllB YA yn y.q) (hyc : yn ≤ yc) (hym : yc ≤ 9223372036854775807) (hyr : SC.rng y) (hl : LP7.rd w AllB L m ps) (hm : m ≤ 9223372036854775807) (_hps : ∀ p ∈ ps, PK.rng p) :
    Calls Try.prog 6 #[.agg (x.cells XA xn xc XB xm xd), .agg (y.cells YA yn yc), .slice L m mc] w fun e w' => e = .returned (.bool true) ∧ Below w.heap.size w w' := by
  have q1 := bl_al (Below.refl w.heap.size w) (.cells (x.cells XA xn xc XB xm xd) 36)
  have q2 := bl_al (Below.refl (w.alloc (.cells (x.cells XA xn xc XB xm xd) 36)).heap.size (w.alloc (.cells (x.cells XA xn xc XB xm xd) 36))) (.cells (y.cells YA yn yc) 29)
  have HX1 := Lib.hid ((Blk.new w 36 (x.cells XA xn xc XB xm xd)).ca q2)
  have HY1 := Lib.hid (show Blk ((w.alloc (.cells (x.cells XA xn xc XB xm xd) 36)).alloc (.cells (y.cells YA yn yc) 29)) (w.heap.size + 1) 29 (y.cells YA yn yc) from Blk.mk' (by simp only [World.size_alloc]))
  have hq := bl_ca q1 q2
  have HRA := Lib.hid (Lay.rd_below (Lay.rd_below hx q1) q2)
  have HRB := Lib.hid (Lay.rd_below (Lay.rd_below hx2 q1) q2)
  have HRY := Lib.hid (Lay.rd_below (Lay.rd_below hy q1) q2)
  have HLP := Lib.hid (Lay.rd_below (Lay.rd_below hl q1) q2)
  have HQ1 := Lib.hid hq
  have hb0 := hyr.1
  clear hx hx2 hy hl q1 q2 hq hyr
  go_enter Try.func6, Try.ntmps6
  go_wp2_with fail
  generalize (w.alloc (.cells (x.cells XA xn xc XB xm xd) 36)).alloc (.cells (y.cells YA yn yc) 29) = w1 at *
  refine (wakes_any _).mono ?_
  rintro e w2 ⟨rfl, q2⟩
  have HX2 := Lib.hid (HX1.out.ca q2)
  have HY2 := Lib.hid (HY1.out.ca q2)
  have HRA2 := Lib.hid (Lay.rd_weak (G := fun k => k < w2.heap.size) (fun _ _ h => h) (Lay.rd_below HRA.out q2))
  have HRB2 := Lib.hid (Lay.rd_weak (G := fun k => k < w2.heap.size) (fun _ _ h => h) (Lay.rd_below HRB.out q2))
  have HRY2 := Lib.hid (Lay.rd_weak (G := fun k => k < w2.heap.size) (fun _ _ h => h) (Lay.rd_below HRY.out q2))
  have HLP2 := Lib.hid (Lay.rd_below HLP.out q2)
  have HB2 := Lib.hid (bl_ca HQ1.out q2)
  clear q2 HX1 HY1 HRA HRB HRY HLP HQ1
  go_upto_region 3 with fail
  refine wp_region_psF (F := fun a1 a' w' => ∃ g7 g8 uA un uc uB um ud vA vn vc, (∃ v18 v19 v20 v21, a' = (((((a1.put (some 18) v18).put (some 19) v19).put (some 20) v20).put (some 21) v21).put (some 7) (.pointer (some ⟨g7, 0, none⟩))).put (some 8) (.pointer (some ⟨g8, 0, none⟩))) ∧ Blk w' g7 36 ((recC x).cells uA un uc uB um ud) ∧ Blk w' g8 29 ((senC y).cells vA vn vc) ∧ Below w2.heap.size w2 w' ∧ w2.heap.size ≤ g7 ∧ w2.heap.size ≤ g8 ∧ LH4.rd w' AllB uA un (recC x).ahead ∧ un ≤ uc ∧ uc ≤ 9223372036854775807 ∧ LB3.rd w' AllB uB um (recC x).buf ∧ um ≤ ud ∧ ud ≤ 9223372036854775807 ∧ LB3.rd w' AllB vA vn (senC y).q ∧ vn ≤ vc ∧ vc ≤ 9223372036854775807) (S := TwoS w2 1000 1 3 4 5 36 29 #[.int .u32 0, .int .u64 0, .slice none 0 0, .slice none 0 0, .int .i64 0, .bool false] #[.int .u32 0, .int .u64 0, .slice none 0 0, .int .u64 0, .int .u64 0, .int .i64 0, .bool false] NoRes (LRes LRV (fun a => a = recC x)) (LRes LSN (fun a => a = senC y)) 6 7) (by kernel_rfl) ?spswg58 ?ppswg58 ?kpswg58
  case spswg58 =>
    exact TwoS.start (by rfl) (.inr rfl)
  case ppswg58 =>
    refine Ps.st (i := 0) (d := some 18) (u := (.agg #[.int .u32 (x.ses), .int .u64 (x.next), .slice XA xn xc, .slice XB xm xd, .int .i64 (x.room), .bool (x.over)])) rfl rfl ?ywg58_59 ?rwg58_59
    case ywg58_59 =>
      refine StepS.read [] (by kernel_rfl) (TwoS.pass (by decide)) (by rfl) (fun L9 m9 w9 hSh hAt hDn hS => ?_)
      have hT := TwoS.any hS
      have x0 : w9.cell? ⟨w.heap.size, 0, none⟩ = some (.int .u32 (x.ses)) := (HX2.out.ca hT).cell 0
      have x1 : w9.cell? ⟨w.heap.size, 1, none⟩ = some (.int .u64 (x.next)) := (HX2.out.ca hT).cell 1
      have x2 : w9.cell? ⟨w.heap.size, 2, none⟩ = some (.slice XA xn xc) := (HX2.out.ca hT).cell 2
      have x3 : w9.cell? ⟨w.heap.size, 3, none⟩ = some (.slice XB xm xd) := (HX2.out.ca hT).cell 3
      have x4 : w9.cell? ⟨w.heap.size, 4, none⟩ = some (.int .i64 (x.room)) := (HX2.out.ca hT).cell 4
      have x5 : w9.cell? ⟨w.heap.size, 5, none⟩ = some (.bool (x.over)) := (HX2.out.ca hT).cell 5
      clear hT hS
      go_simp
      try rfl
    try simp only [Act.put, sA, sZ, sS]
    refine Ps.st (i := 2) (d := some 20) (u := (.agg #[.int .u32 (y.ses), .int .u64 (y.base), .slice YA yn yc, .int .u64 (y.sent), .int .u64 (y.lim), .int .i64 (y.timer), .bool (y.ended)])) rfl rfl ?ywg58_60 ?rwg58_60
    case ywg58_60 =>
      refine StepS.read [] (by kernel_rfl) (TwoS.pass (by decide)) (by rfl) (fun L9 m9 w9 hSh hAt hDn hS => ?_)
      have hT := TwoS.any hS
      have x0 : w9.cell? ⟨w.heap.size + 1, 0, none⟩ = some (.int .u32 (y.ses)) := (HY2.out.ca hT).cell 0
      have x1 : w9.cell? ⟨w.heap.size + 1, 1, none⟩ = some (.int .u64 (y.base)) := (HY2.out.ca hT).cell 1
      have x2 : w9.cell? ⟨w.heap.size + 1, 2, none⟩ = some (.slice YA yn yc) := (HY2.out.ca hT).cell 2
      have x3 : w9.cell? ⟨w.heap.size + 1, 3, none⟩ = some (.int .u64 (y.sent)) := (HY2.out.ca hT).cell 3
      have x4 : w9.cell? ⟨w.heap.size + 1, 4, none⟩ = some (.int .u64 (y.lim)) := (HY2.out.ca hT).cell 4
      have x5 : w9.cell? ⟨w.heap.size + 1, 5, none⟩ = some (.int .i64 (y.timer)) := (HY2.out.ca hT).cell 5
      have x6 : w9.cell? ⟨w.heap.size + 1, 6, none⟩ = some (.bool (y.ended)) := (HY2.out.ca hT).cell 6
      clear hT hS
      go_simp
      try rfl
    try simp only [Act.put, sA, sZ, sS]
    refine Ps.some3 (i := 1) (j := 4) (k := 5) (by kernel_rfl) ?bwg58_61_1 ?bwg58_61_4 ?bwg58_61_5
    case bwg58_61_1 =>
      refine Turns.mk (i := 1) (d := some 19) rfl rfl (TurnS.call (V := fun v => ∃ zA zn zc zB zm zd, v = .agg ((recC x).cells zA zn zc zB zm zd)) ?fwg58_62 ?awg58_62 [] (by kernel_rfl) (by rfl) (fun w9 => ?hwg58_62) (fun L9 m9 w9 hSh hAt hDn hS => ?cwg58_62)) (fun v1 hVv1 => ?rwg58_62)
      case hwg58_62 => go_simp; refine ⟨?_, ?_⟩ <;> rfl
      case cwg58_62 =>
        have hs1 := reach_no hSh (f := 12) (j := 6) (d := 1) (by kernel_rfl) hDn
        have hs2 := reach_no hSh (f := 12) (j := 7) (d := 1) (by kernel_rfl) hDn
        have hT := TwoS.any hS
        have hsz := hT.size
        refine (recvC_any (fun b => b < w2.heap.size) (fun b => b < w2.heap.size) x XA xn xc XB xm xd w9 (Lay.rd_below HRA2.out hT) (Lay.rd_below HRB2.out hT) hxc hxm hxd hxe).mono ?_
        rintro e w8 ⟨zA, zn, zc, zB, zm, zd, rfl, hr, hr2, h1, h2, h3, h4, q8⟩
        have rd : LH4.rd w8 (Av 4 5 m9) zA zn (recC x).ahead := Lay.rd_weak (fun b hb _ => (hS.at0 hs1).avoid (hb.elim (fun h => .inl h.1) (fun h => .inr (by omega)))) hr
        have rd2 : LB3.rd w8 (Av 4 5 m9) zB zm (recC x).buf := Lay.rd_weak (fun b hb _ => (hS.at0 hs1).avoid (hb.elim (fun h => .inl h.1) (fun h => .inr (by omega)))) hr2
        exact ⟨_, rfl, ⟨zA, zn, zc, zB, zm, zd, rfl⟩, TwoS.call hS NoRes.res (LRes.res _ _) (LRes.res _ _) hs1 hs2 (by decide) q8 (fun e => absurd e (by decide)) (fun _ => ⟨recC x, _, rfl, ⟨zA, zn, zc, zB, zm, zd, rfl, h1, h2, h3, h4, rd, rd2⟩, rfl⟩) (fun e => absurd e (by decide))⟩
      try simp only [Act.put, sA, sZ, sS]
      obtain ⟨uA, un, uc, uB, um, ud, rfl⟩ := hVv1
      refine Ps.some3 (i := 3) (j := 4) (k := 5) (by kernel_rfl) ?bwg58_63_3 ?bwg58_63_4 ?bwg58_63_5
      case bwg58_63_3 =>
        refine Turns.mk (i := 3) (d := some 21) rfl rfl (TurnS.call (V := fun v => ∃ zA zn zc, v = .agg ((senC y).cells zA zn zc)) ?fwg58_64 ?awg58_64 [1] (by kernel_rfl) (by rfl) (fun w9 => ?hwg58_64) (fun L9 m9 w9 hSh hAt hDn hS => ?cwg58_64)) (fun v3 hVv3 => ?rwg58_64)
        case hwg58_64 => go_simp; refine ⟨?_, ?_⟩ <;> rfl
        case cwg58_64 =>
          have hs1 := reach_no hSh (f := 12) (j := 6) (d := 3) (by kernel_rfl) hDn
          have hs2 := reach_no hSh (f := 12) (j := 7) (d := 3) (by kernel_rfl) hDn
          have hT := TwoS.any hS
          have hsz := hT.size
          refine (senderC_any (fun b => b < w2.heap.size) y YA yn yc w9 (Lay.rd_below HRY2.out hT) hyc hym).mono ?_
          rintro e w8 ⟨zA, zn, zc, rfl, hr, h1, h2, q8⟩
          have rd : LB3.rd w8 (Av 4 5 m9) zA zn (senC y).q := Lay.rd_weak (fun b hb _ => (hS.at0 hs1).avoid (.inr hb.1)) hr
          exact ⟨_, rfl, ⟨zA, zn, zc, rfl⟩, TwoS.call hS NoRes.res (LRes.res _ _) (LRes.res _ _) hs1 hs2 (by decide) q8 (fun e => absurd e (by decide)) (fun e => absurd e (by decide)) (fun _ => ⟨senC y, _, rfl, ⟨zA, zn, zc, rfl, h1, h2, rd⟩, rfl⟩)⟩
        try simp only [Act.put, sA, sZ, sS]
        obtain ⟨vA, vn, vc, rfl⟩ := hVv3
        refine Ps.some2 (i := 4) (j := 5) (by kernel_rfl) ?bwg58_65_4 ?bwg58_65_5
        case bwg58_65_4 =>
          refine Turns.mk (i := 4) (d := some 7) rfl rfl (TurnS.value (V := fun v => ∃ g, v = .pointer (some ⟨g, 0, none⟩)) [] (by kernel_rfl) (by rfl) (fun L9 m9 w9 hSh hAt hDn hS => ?cwg58_66)) (fun v4 hVv4 => ?rwg58_66)
          case cwg58_66 =>
            have hs1 := reach_no hSh (f := 12) (j := 6) (d := 4) (by kernel_rfl) hDn
            have hs2 := reach_no hSh (f := 12) (j := 7) (d := 4) (by kernel_rfl) hDn
            refine ⟨.pointer (some ⟨w9.heap.size, 0, none⟩), w9.alloc (.cells #[.int .u32 0, .int .u64 0, .slice none 0 0, .slice none 0 0, .int .i64 0, .bool false] 36), ?_, ⟨_, rfl⟩, TwoS.make1 hS NoRes.res (LRes.res _ _) (LRes.res _ _) hs1 hs2 (by decide)⟩
            clear hS
            go_simp
            try rfl
          try simp only [Act.put, sA, sZ, sS]
          obtain ⟨g7, rfl⟩ := hVv4
          refine Ps.one (k := 5) (d := some 8) rfl rfl (by kernel_rfl) (TurnS.value (V := fun v => ∃ g, v = .pointer (some ⟨g, 0, none⟩)) [] (by kernel_rfl) (by rfl) (fun L9 m9 w9 hSh hAt hDn hS => ?cwg58_67)) (fun v5 hVv5 => ?rwg58_67)
          case cwg58_67 =>
            have hs1 := reach_no hSh (f := 12) (j := 6) (d := 5) (by kernel_rfl) hDn
            have hs2 := reach_no hSh (f := 12) (j := 7) (d := 5) (by kernel_rfl) hDn
            refine ⟨.pointer (some ⟨w9.heap.size, 0, none⟩), w9.alloc (.cells #[.int .u32 0, .int .u64 0, .slice none 0 0, .int .u64 0, .int .u64 0, .int .i64 0, .bool false] 29), ?_, ⟨_, rfl⟩, TwoS.make2 hS NoRes.res (LRes.res _ _) (LRes.res _ _) hs1 hs2 (by decide)⟩
            clear hS
            go_simp
            try rfl
          try simp only [Act.put, sA, sZ, sS]
          obtain ⟨g8, rfl⟩ := hVv5
          refine Ps.st (i := 6) (d := none) (u := undef) rfl rfl ?ywg58_68 ?rwg58_68
          case ywg58_68 =>
            refine StepS.store [1, 3, 4, 5] (by kernel_rfl) (by rfl) (fun L9 m9 w9 hSh hAt hDn hS => ?_)
            have hs2 := reach_no hSh (f := 12) (j := 7) (d := 6) (by kernel_rfl) hDn
            obtain ⟨p1, p2, hB⟩ := TwoS.ready1 hS hDn (hAt 4 (by simp)).1 (hAt 5 (by simp)).1 (hAt 1 (by simp)).1 (hAt 3 (by simp)).1
            obtain rfl : g7 = p1 := pt_inj ((hAt 4 (by simp)).2.symm.trans hB.e1)
            refine (exec_store_blk (w := w9) 36 (.tmp 7) (.tmp 19) (by rfl) g7 36 #[.int .u32 0, .int .u64 0, .slice none 0 0, .slice none 0 0, .int .i64 0, .bool false] ((recC x).cells uA un uc uB um ud) (by rfl) (by rfl) hB.b1 rfl receiverI (by simp [RC.cells, Value.oneCell'])).imp fun w7 hx => ⟨hx.1, TwoS.set1 hs2 (by decide) (hAt 1 (by simp)).2 (hB.store1 (LRes.res _ _) (LRes.res _ _) hx.2.1 hx.2.2)⟩
          try simp only [Act.put]
          refine Ps.st (i := 7) (d := none) (u := undef) rfl rfl ?ywg58_69 ?rwg58_69
          case ywg58_69 =>
            refine StepS.store [1, 3, 4, 5, 6] (by kernel_rfl) (by rfl) (fun L9 m9 w9 hSh hAt hDn hS => ?_)
            obtain ⟨p1, p2, cc, hk, hB⟩ := TwoS.at1 hS (hAt 6 (by simp)).1 hDn
            obtain rfl : g8 = p2 := pt_inj ((hAt 5 (by simp)).2.symm.trans hB.e2)
            refine (exec_store_blk (w := w9) 29 (.tmp 8) (.tmp 21) (by rfl) g8 29 #[.int .u32 0, .int .u64 0, .slice none 0 0, .int .u64 0, .int .u64 0, .int .i64 0, .bool false] ((senC y).cells vA vn vc) (by rfl) (by rfl) hB.b2 rfl senderI (by simp [SC.cells, Value.oneCell'])).imp fun w7 hx => ⟨hx.1, TwoS.set2 (by decide) (hAt 6 (by simp)).1 hk (hAt 3 (by simp)).2 (hB.store2 (LRes.res _ _) (LRes.res _ _) hx.2.1 hx.2.2)⟩
          try simp only [Act.put]
          refine Ps.done (by kernel_rfl) (fun wg58 hS => ?_) _
          obtain ⟨p1, p2, d1, d2, hk1, hk2, hB⟩ := TwoS.fin hS (by rfl)
          clear hS
          obtain rfl : g7 = p1 := pt_inj hB.e1
          obtain rfl : g8 = p2 := pt_inj hB.e2
          have hk1 : Value.agg ((recC x).cells uA un uc uB um ud) = .agg d1 := hk1
          have hk2 : Value.agg ((senC y).cells vA vn vc) = .agg d2 := hk2
          injection hk1 with hk1
          injection hk2 with hk2
          subst hk1 hk2
          obtain ⟨a1, c1, e1, ⟨A9, n9, c9, B9, m9, d9, e1b, i1, i2, i3, i4, r1, r2⟩, rfl⟩ := hB.r1
          obtain ⟨a2, c2, e2, ⟨A8, n8, c8, e2b, j1, j2, r3⟩, rfl⟩ := hB.r2
          have e1 : Value.agg ((recC x).cells uA un uc uB um ud) = .agg c1 := e1
          have e2 : Value.agg ((senC y).cells vA vn vc) = .agg c2 := e2
          injection e1 with e1
          injection e2 with e2
          subst e1 e2
          simp only [List.cons.injEq, Value.slice.injEq, true_and, and_true] at e1b e2b
          obtain ⟨⟨rfl, rfl, rfl⟩, rfl, rfl, rfl⟩ := e1b
          obtain ⟨rfl, rfl, rfl⟩ := e2b
          refine ⟨g7, g8, uA, un, uc, uB, um, ud, vA, vn, vc, ⟨.agg (x.cells XA xn xc XB xm xd), .agg ((recC x).cells uA un uc uB um ud), .agg (y.cells YA yn yc), .agg ((senC y).cells vA vn vc), ?_⟩, hB.b1, hB.b2, hB.bel, hB.l1, hB.l2, Lay.rd_weak (fun _ _ _ => trivial) r1, i1, i2, Lay.rd_weak (fun _ _ _ => trivial) r2, i3, i4, Lay.rd_weak (fun _ _ _ => trivial) r3, j1, j2⟩
          rfl
        case bwg58_65_5 =>
          refine Turns.mk (i := 5) (d := some 8) rfl rfl (TurnS.value (V := fun v => ∃ g, v = .pointer (some ⟨g, 0, none⟩)) [] (by kernel_rfl) (by rfl) (fun L9 m9 w9 hSh hAt hDn hS => ?cwg58_70)) (fun v5 hVv5 => ?rwg58_70)
          case cwg58_70 =>
            have hs1 := reach_no hSh (f := 12) (j := 6) (d := 5) (by kernel_rfl) hDn
            have hs2 := reach_no hSh (f := 12) (j := 7) (d := 5) (by kernel_rfl) hDn
            refine ⟨.pointer (some ⟨w9.heap.size, 0, none⟩), w9.alloc (.cells #[.int .u32 0, .int .u64 0, .slice none 0 0, .int .u64 0, .int .u64 0, .int .i64 0, .bool false] 29), ?_, ⟨_, rfl⟩, TwoS.make2 hS NoRes.res (LRes.res _ _) (LRes.res _ _) hs1 hs2 (by decide)⟩
            clear hS
            go_simp
            try rfl
          try simp only [Act.put, sA, sZ, sS]
          obtain ⟨g8, rfl⟩ := hVv5
          refine Ps.one (k := 4) (d := some 7) rfl rfl (by kernel_rfl) (TurnS.value (V := fun v => ∃ g, v = .pointer (some ⟨g, 0, none⟩)) [] (by kernel_rfl) (by rfl) (fun L9 m9 w9 hSh hAt hDn hS => ?cwg58_71)) (fun v4 hVv4 => ?rwg58_71)
          case cwg58_71 =>
            have hs1 := reach_no hSh (f := 12) (j := 6) (d := 4) (by kernel_rfl) hDn
            have hs2 := reach_no hSh (f := 12) (j := 7) (d := 4) (by kernel_rfl) hDn
            refine ⟨.pointer (some ⟨w9.heap.size, 0, none⟩), w9.alloc (.cells #[.int .u32 0, .int .u64 0, .slice none 0 0, .slice none 0 0, .int .i64 0, .bool false] 36), ?_, ⟨_, rfl⟩, TwoS.make1 hS NoRes.res (LRes.res _ _) (LRes.res _ _) hs1 hs2 (by decide)⟩
            clear hS
            go_simp
            try rfl
          try simp only [Act.put, sA, sZ, sS]
          obtain ⟨g7, rfl⟩ := hVv4
          refine Ps.st (i := 6) (d := none) (u := undef) rfl rfl ?ywg58_72 ?rwg58_72
          case ywg58_72 =>
            refine StepS.store [1, 3, 4, 5] (by kernel_rfl) (by rfl) (fun L9 m9 w9 hSh hAt hDn hS => ?_)
            have hs2 := reach_no hSh (f := 12) (j := 7) (d := 6) (by kernel_rfl) hDn
            obtain ⟨p1, p2, hB⟩ := TwoS.ready1 hS hDn (hAt 4 (by simp)).1 (hAt 5 (by simp)).1 (hAt 1 (by simp)).1 (hAt 3 (by simp)).1
            obtain rfl : g7 = p1 := pt_inj ((hAt 4 (by simp)).2.symm.trans hB.e1)
            refine (exec_store_blk (w := w9) 36 (.tmp 7) (.tmp 19) (by rfl) g7 36 #[.int .u32 0, .int .u64 0, .slice none 0 0, .slice none 0 0, .int .i64 0, .bool false] ((recC x).cells uA un uc uB um ud) (by rfl) (by rfl) hB.b1 rfl receiverI (by simp [RC.cells, Value.oneCell'])).imp fun w7 hx => ⟨hx.1, TwoS.set1 hs2 (by decide) (hAt 1 (by simp)).2 (hB.store1 (LRes.res _ _) (LRes.res _ _) hx.2.1 hx.2.2)⟩
          try simp only [Act.put]
          refine Ps.st (i := 7) (d := none) (u := undef) rfl rfl ?ywg58_73 ?rwg58_73
          case ywg58_73 =>
            refine StepS.store [1, 3, 4, 5, 6] (by kernel_rfl) (by rfl) (fun L9 m9 w9 hSh hAt hDn hS => ?_)
            obtain ⟨p1, p2, cc, hk, hB⟩ := TwoS.at1 hS (hAt 6 (by simp)).1 hDn
            obtain rfl : g8 = p2 := pt_inj ((hAt 5 (by simp)).2.symm.trans hB.e2)
            refine (exec_store_blk (w := w9) 29 (.tmp 8) (.tmp 21) (by rfl) g8 29 #[.int .u32 0, .int .u64 0, .slice none 0 0, .int .u64 0, .int .u64 0, .int .i64 0, .bool false] ((senC y).cells vA vn vc) (by rfl) (by rfl) hB.b2 rfl senderI (by simp [SC.cells, Value.oneCell'])).imp fun w7 hx => ⟨hx.1, TwoS.set2 (by decide) (hAt 6 (by simp)).1 hk (hAt 3 (by simp)).2 (hB.store2 (LRes.res _ _) (LRes.res _ _) hx.2.1 hx.2.2)⟩
          try simp only [Act.put]
          refine Ps.done (by kernel_rfl) (fun wg58 hS => ?_) _
          obtain ⟨p1, p2, d1, d2, hk1, hk2, hB⟩ := TwoS.fin hS (by rfl)
          clear hS
          obtain rfl : g7 = p1 := pt_inj hB.e1
          obtain rfl : g8 = p2 := pt_inj hB.e2
          have hk1 : Value.agg ((recC x).cells uA un uc uB um ud) = .agg d1 := hk1
          have hk2 : Value.agg ((senC y).cells vA vn vc) = .agg d2 := hk2
          injection hk1 with hk1
          injection hk2 with hk2
          subst hk1 hk2
          obtain ⟨a1, c1, e1, ⟨A9, n9, c9, B9, m9, d9, e1b, i1, i2, i3, i4, r1, r2⟩, rfl⟩ := hB.r1
          obtain ⟨a2, c2, e2, ⟨A8, n8, c8, e2b, j1, j2, r3⟩, rfl⟩ := hB.r2
          have e1 : Value.agg ((recC x).cells uA un uc uB um ud) = .agg c1 := e1
          have e2 : Value.agg ((senC y).cells vA vn vc) = .agg c2 := e2
          injection e1 with e1
          injection e2 with e2
          subst e1 e2
          simp only [List.cons.injEq, Value.slice.injEq, true_and, and_true] at e1b e2b
          obtain ⟨⟨rfl, rfl, rfl⟩, rfl, rfl, rfl⟩ := e1b
          obtain ⟨rfl, rfl, rfl⟩ := e2b
          refine ⟨g7, g8, uA, un, uc, uB, um, ud, vA, vn, vc, ⟨.agg (x.cells XA xn xc XB xm xd), .agg ((recC x).cells uA un uc uB um ud), .agg (y.cells YA yn yc), .agg ((senC y).cells vA vn vc), ?_⟩, hB.b1, hB.b2, hB.bel, hB.l1, hB.l2, Lay.rd_weak (fun _ _ _ => trivial) r1, i1, i2, Lay.rd_weak (fun _ _ _ => trivial) r2, i3, i4, Lay.rd_weak (fun _ _ _ => trivial) r3, j1, j2⟩
          rfl
      case bwg58_63_4 =>
        refine Turns.mk (i := 4) (d := some 7) rfl rfl (TurnS.value (V := fun v => ∃ g, v = .pointer (some ⟨g, 0, none⟩)) [] (by kernel_rfl) (by rfl) (fun L9 m9 w9 hSh hAt hDn hS => ?cwg58_74)) (fun v4 hVv4 => ?rwg58_74)
        case cwg58_74 =>
          have hs1 := reach_no hSh (f := 12) (j := 6) (d := 4) (by kernel_rfl) hDn
          have hs2 := reach_no hSh (f := 12) (j := 7) (d := 4) (by kernel_rfl) hDn
          refine ⟨.pointer (some ⟨w9.heap.size, 0, none⟩), w9.alloc (.cells #[.int .u32 0, .int .u64 0, .slice none 0 0, .slice none 0 0, .int .i64 0, .bool false] 36), ?_, ⟨_, rfl⟩, TwoS.make1 hS NoRes.res (LRes.res _ _) (LRes.res _ _) hs1 hs2 (by decide)⟩
          clear hS
          go_simp
          try rfl
        try simp only [Act.put, sA, sZ, sS]
        obtain ⟨g7, rfl⟩ := hVv4
        refine Ps.some2 (i := 3) (j := 5) (by kernel_rfl) ?bwg58_75_3 ?bwg58_75_5
        case bwg58_75_3 =>
          refine Turns.mk (i := 3) (d := some 21) rfl rfl (TurnS.call (V := fun v => ∃ zA zn zc, v = .agg ((senC y).cells zA zn zc)) ?fwg58_76 ?awg58_76 [1] (by kernel_rfl) (by rfl) (fun w9 => ?hwg58_76) (fun L9 m9 w9 hSh hAt hDn hS => ?cwg58_76)) (fun v3 hVv3 => ?rwg58_76)
          case hwg58_76 => go_simp; refine ⟨?_, ?_⟩ <;> rfl
          case cwg58_76 =>
            have hs1 := reach_no hSh (f := 12) (j := 6) (d := 3) (by kernel_rfl) hDn
            have hs2 := reach_no hSh (f := 12) (j := 7) (d := 3) (by kernel_rfl) hDn
            have hT := TwoS.any hS
            have hsz := hT.size
            refine (senderC_any (fun b => b < w2.heap.size) y YA yn yc w9 (Lay.rd_below HRY2.out hT) hyc hym).mono ?_
            rintro e w8 ⟨zA, zn, zc, rfl, hr, h1, h2, q8⟩
            have rd : LB3.rd w8 (Av 4 5 m9) zA zn (senC y).q := Lay.rd_weak (fun b hb _ => (hS.at0 hs1).avoid (.inr hb.1)) hr
            exact ⟨_, rfl, ⟨zA, zn, zc, rfl⟩, TwoS.call hS NoRes.res (LRes.res _ _) (LRes.res _ _) hs1 hs2 (by decide) q8 (fun e => absurd e (by decide)) (fun e => absurd e (by decide)) (fun _ => ⟨senC y, _, rfl, ⟨zA, zn, zc, rfl, h1, h2, rd⟩, rfl⟩)⟩
          try simp only [Act.put, sA, sZ, sS]
          obtain ⟨vA, vn, vc, rfl⟩ := hVv3
          refine Ps.one (k := 5) (d := some 8) rfl rfl (by kernel_rfl) (TurnS.value (V := fun v => ∃ g, v = .pointer (some ⟨g, 0, none⟩)) [] (by kernel_rfl) (by rfl) (fun L9 m9 w9 hSh hAt hDn hS => ?cwg58_77)) (fun v5 hVv5 => ?rwg58_77)
          case cwg58_77 =>
            have hs1 := reach_no hSh (f := 12) (j := 6) (d := 5) (by kernel_rfl) hDn
            have hs2 := reach_no hSh (f := 12) (j := 7) (d := 5) (by kernel_rfl) hDn
            refine ⟨.pointer (some ⟨w9.heap.size, 0, none⟩), w9.alloc (.cells #[.int .u32 0, .int .u64 0, .slice none 0 0, .int .u64 0, .int .u64 0, .int .i64 0, .bool false] 29), ?_, ⟨_, rfl⟩, TwoS.make2 hS NoRes.res (LRes.res _ _) (LRes.res _ _) hs1 hs2 (by decide)⟩
            clear hS
            go_simp
            try rfl
          try simp only [Act.put, sA, sZ, sS]
          obtain ⟨g8, rfl⟩ := hVv5
          refine Ps.st (i := 6) (d := none) (u := undef) rfl rfl ?ywg58_78 ?rwg58_78
          case ywg58_78 =>
            refine StepS.store [1, 3, 4, 5] (by kernel_rfl) (by rfl) (fun L9 m9 w9 hSh hAt hDn hS => ?_)
            have hs2 := reach_no hSh (f := 12) (j := 7) (d := 6) (by kernel_rfl) hDn
            obtain ⟨p1, p2, hB⟩ := TwoS.ready1 hS hDn (hAt 4 (by simp)).1 (hAt 5 (by simp)).1 (hAt 1 (by simp)).1 (hAt 3 (by simp)).1
            obtain rfl : g7 = p1 := pt_inj ((hAt 4 (by simp)).2.symm.trans hB.e1)
            refine (exec_store_blk (w := w9) 36 (.tmp 7) (.tmp 19) (by rfl) g7 36 #[.int .u32 0, .int .u64 0, .slice none 0 0, .slice none 0 0, .int .i64 0, .bool false] ((recC x).cells uA un uc uB um ud) (by rfl) (by rfl) hB.b1 rfl receiverI (by simp [RC.cells, Value.oneCell'])).imp fun w7 hx => ⟨hx.1, TwoS.set1 hs2 (by decide) (hAt 1 (by simp)).2 (hB.store1 (LRes.res _ _) (LRes.res _ _) hx.2.1 hx.2.2)⟩
          try simp only [Act.put]
          refine Ps.st (i := 7) (d := none) (u := undef) rfl rfl ?ywg58_79 ?rwg58_79
          case ywg58_79 =>
            refine StepS.store [1, 3, 4, 5, 6] (by kernel_rfl) (by rfl) (fun L9 m9 w9 hSh hAt hDn hS => ?_)
            obtain ⟨p1, p2, cc, hk, hB⟩ := TwoS.at1 hS (hAt 6 (by simp)).1 hDn
            obtain rfl : g8 = p2 := pt_inj ((hAt 5 (by simp)).2.symm.trans hB.e2)
            refine (exec_store_blk (w := w9) 29 (.tmp 8) (.tmp 21) (by rfl) g8 29 #[.int .u32 0, .int .u64 0, .slice none 0 0, .int .u64 0, .int .u64 0, .int .i64 0, .bool false] ((senC y).cells vA vn vc) (by rfl) (by rfl) hB.b2 rfl senderI (by simp [SC.cells, Value.oneCell'])).imp fun w7 hx => ⟨hx.1, TwoS.set2 (by decide) (hAt 6 (by simp)).1 hk (hAt 3 (by simp)).2 (hB.store2 (LRes.res _ _) (LRes.res _ _) hx.2.1 hx.2.2)⟩
          try simp only [Act.put]
          refine Ps.done (by kernel_rfl) (fun wg58 hS => ?_) _
          obtain ⟨p1, p2, d1, d2, hk1, hk2, hB⟩ := TwoS.fin hS (by rfl)
          clear hS
          obtain rfl : g7 = p1 := pt_inj hB.e1
          obtain rfl : g8 = p2 := pt_inj hB.e2
          have hk1 : Value.agg ((recC x).cells uA un uc uB um ud) = .agg d1 := hk1
          have hk2 : Value.agg ((senC y).cells vA vn vc) = .agg d2 := hk2
          injection hk1 with hk1
          injection hk2 with hk2
          subst hk1 hk2
          obtain ⟨a1, c1, e1, ⟨A9, n9, c9, B9, m9, d9, e1b, i1, i2, i3, i4, r1, r2⟩, rfl⟩ := hB.r1
          obtain ⟨a2, c2, e2, ⟨A8, n8, c8, e2b, j1, j2, r3⟩, rfl⟩ := hB.r2
          have e1 : Value.agg ((recC x).cells uA un uc uB um ud) = .agg c1 := e1
          have e2 : Value.agg ((senC y).cells vA vn vc) = .agg c2 := e2
          injection e1 with e1
          injection e2 with e2
          subst e1 e2
          simp only [List.cons.injEq, Value.slice.injEq, true_and, and_true] at e1b e2b
          obtain ⟨⟨rfl, rfl, rfl⟩, rfl, rfl, rfl⟩ := e1b
          obtain ⟨rfl, rfl, rfl⟩ := e2b
          refine ⟨g7, g8, uA, un, uc, uB, um, ud, vA, vn, vc, ⟨.agg (x.cells XA xn xc XB xm xd), .agg ((recC x).cells uA un uc uB um ud), .agg (y.cells YA yn yc), .agg ((senC y).cells vA vn vc), ?_⟩, hB.b1, hB.b2, hB.bel, hB.l1, hB.l2, Lay.rd_weak (fun _ _ _ => trivial) r1, i1, i2, Lay.rd_weak (fun _ _ _ => trivial) r2, i3, i4, Lay.rd_weak (fun _ _ _ => trivial) r3, j1, j2⟩
          rfl
        case bwg58_75_5 =>
          refine Turns.mk (i := 5) (d := some 8) rfl rfl (TurnS.value (V := fun v => ∃ g, v = .pointer (some ⟨g, 0, none⟩)) [] (by kernel_rfl) (by rfl) (fun L9 m9 w9 hSh hAt hDn hS => ?cwg58_80)) (fun v5 hVv5 => ?rwg58_80)
          case cwg58_80 =>
            have hs1 := reach_no hSh (f := 12) (j := 6) (d := 5) (by kernel_rfl) hDn
            have hs2 := reach_no hSh (f := 12) (j := 7) (d := 5) (by kernel_rfl) hDn
            refine ⟨.pointer (some ⟨w9.heap.size, 0, none⟩), w9.alloc (.cells #[.int .u32 0, .int .u64 0, .slice none 0 0, .int .u64 0, .int .u64 0, .int .i64 0, .bool false] 29), ?_, ⟨_, rfl⟩, TwoS.make2 hS NoRes.res (LRes.res _ _) (LRes.res _ _) hs1 hs2 (by decide)⟩
            clear hS
            go_simp
            try rfl
          try simp only [Act.put, sA, sZ, sS]
          obtain ⟨g8, rfl⟩ := hVv5
          refine Ps.one (k := 3) (d := some 21) rfl rfl (by kernel_rfl) (TurnS.call (V := fun v => ∃ zA zn zc, v = .agg ((senC y).cells zA zn zc)) ?fwg58_81 ?awg58_81 [1] (by kernel_rfl) (by rfl) (fun w9 => ?hwg58_81) (fun L9 m9 w9 hSh hAt hDn hS => ?cwg58_81)) (fun v3 hVv3 => ?rwg58_81)
          case hwg58_81 => go_simp; refine ⟨?_, ?_⟩ <;> rfl
          case cwg58_81 =>
            have hs1 := reach_no hSh (f := 12) (j := 6) (d := 3) (by kernel_rfl) hDn
            have hs2 := reach_no hSh (f := 12) (j := 7) (d := 3) (by kernel_rfl) hDn
            have hT := TwoS.any hS
            have hsz := hT.size
            refine (senderC_any (fun b => b < w2.heap.size) y YA yn yc w9 (Lay.rd_below HRY2.out hT) hyc hym).mono ?_
            rintro e w8 ⟨zA, zn, zc, rfl, hr, h1, h2, q8⟩
            have rd : LB3.rd w8 (Av 4 5 m9) zA zn (senC y).q := Lay.rd_weak (fun b hb _ => (hS.at0 hs1).avoid (.inr hb.1)) hr
            exact ⟨_, rfl, ⟨zA, zn, zc, rfl⟩, TwoS.call hS NoRes.res (LRes.res _ _) (LRes.res _ _) hs1 hs2 (by decide) q8 (fun e => absurd e (by decide)) (fun e => absurd e (by decide)) (fun _ => ⟨senC y, _, rfl, ⟨zA, zn, zc, rfl, h1, h2, rd⟩, rfl⟩)⟩
          try simp only [Act.put, sA, sZ, sS]
          obtain ⟨vA, vn, vc, rfl⟩ := hVv3
          refine Ps.st (i := 6) (d := none) (u := undef) rfl rfl ?ywg58_82 ?rwg58_82
          case ywg58_82 =>
            refine StepS.store [1, 3, 4, 5] (by kernel_rfl) (by rfl) (fun L9 m9 w9 hSh hAt hDn hS => ?_)
            have hs2 := reach_no hSh (f := 12) (j := 7) (d := 6) (by kernel_rfl) hDn
            obtain ⟨p1, p2, hB⟩ := TwoS.ready1 hS hDn (hAt 4 (by simp)).1 (hAt 5 (by simp)).1 (hAt 1 (by simp)).1 (hAt 3 (by simp)).1
            obtain rfl : g7 = p1 := pt_inj ((hAt 4 (by simp)).2.symm.trans hB.e1)
            refine (exec_store_blk (w := w9) 36 (.tmp 7) (.tmp 19) (by rfl) g7 36 #[.int .u32 0, .int .u64 0, .slice none 0 0, .slice none 0 0, .int .i64 0, .bool false] ((recC x).cells uA un uc uB um ud) (by rfl) (by rfl) hB.b1 rfl receiverI (by simp [RC.cells, Value.oneCell'])).imp fun w7 hx => ⟨hx.1, TwoS.set1 hs2 (by decide) (hAt 1 (by simp)).2 (hB.store1 (LRes.res _ _) (LRes.res _ _) hx.2.1 hx.2.2)⟩
          try simp only [Act.put]
          refine Ps.st (i := 7) (d := none) (u := undef) rfl rfl ?ywg58_83 ?rwg58_83
          case ywg58_83 =>
            refine StepS.store [1, 3, 4, 5, 6] (by kernel_rfl) (by rfl) (fun L9 m9 w9 hSh hAt hDn hS => ?_)
            obtain ⟨p1, p2, cc, hk, hB⟩ := TwoS.at1 hS (hAt 6 (by simp)).1 hDn
            obtain rfl : g8 = p2 := pt_inj ((hAt 5 (by simp)).2.symm.trans hB.e2)
            refine (exec_store_blk (w := w9) 29 (.tmp 8) (.tmp 21) (by rfl) g8 29 #[.int .u32 0, .int .u64 0, .slice none 0 0, .int .u64 0, .int .u64 0, .int .i64 0, .bool false] ((senC y).cells vA vn vc) (by rfl) (by rfl) hB.b2 rfl senderI (by simp [SC.cells, Value.oneCell'])).imp fun w7 hx => ⟨hx.1, TwoS.set2 (by decide) (hAt 6 (by simp)).1 hk (hAt 3 (by simp)).2 (hB.store2 (LRes.res _ _) (LRes.res _ _) hx.2.1 hx.2.2)⟩
          try simp only [Act.put]
          refine Ps.done (by kernel_rfl) (fun wg58 hS => ?_) _
          obtain ⟨p1, p2, d1, d2, hk1, hk2, hB⟩ := TwoS.fin hS (by rfl)
          clear hS
          obtain rfl : g7 = p1 := pt_inj hB.e1
          obtain rfl : g8 = p2 := pt_inj hB.e2
          have hk1 : Value.agg ((recC x).cells uA un uc uB um ud) = .agg d1 := hk1
          have hk2 : Value.agg ((senC y).cells vA vn vc) = .agg d2 := hk2
          injection hk1 with hk1
          injection hk2 with hk2
          subst hk1 hk2
          obtain ⟨a1, c1, e1, ⟨A9, n9, c9, B9, m9, d9, e1b, i1, i2, i3, i4, r1, r2⟩, rfl⟩ := hB.r1
          obtain ⟨a2, c2, e2, ⟨A8, n8, c8, e2b, j1, j2, r3⟩, rfl⟩ := hB.r2
          have e1 : Value.agg ((recC x).cells uA un uc uB um ud) = .agg c1 := e1
          have e2 : Value.agg ((senC y).cells vA vn vc) = .agg c2 := e2
          injection e1 with e1
          injection e2 with e2
          subst e1 e2
          simp only [List.cons.injEq, Value.slice.injEq, true_and, and_true] at e1b e2b
          obtain ⟨⟨rfl, rfl, rfl⟩, rfl, rfl, rfl⟩ := e1b
          obtain ⟨rfl, rfl, rfl⟩ := e2b
          refine ⟨g7, g8, uA, un, uc, uB, um, ud, vA, vn, vc, ⟨.agg (x.cells XA xn xc XB xm xd), .agg ((recC x).cells uA un uc uB um ud), .agg (y.cells YA yn yc), .agg ((senC y).cells vA vn vc), ?_⟩, hB.b1, hB.b2, hB.bel, hB.l1, hB.l2, Lay.rd_weak (fun _ _ _ => trivial) r1, i1, i2, Lay.rd_weak (fun _ _ _ => trivial) r2, i3, i4, Lay.rd_weak (fun _ _ _ => trivial) r3, j1, j2⟩
          rfl
      case bwg58_63_5 =>
        refine Turns.mk (i := 5) (d := some 8) rfl rfl (TurnS.value (V := fun v => ∃ g, v = .pointer (some ⟨g, 0, none⟩)) [] (by kernel_rfl) (by rfl) (fun L9 m9 w9 hSh hAt hDn hS => ?cwg58_84)) (fun v5 hVv5 => ?rwg58_84)
        case cwg58_84 =>
          have hs1 := reach_no hSh (f := 12) (j := 6) (d := 5) (by kernel_rfl) hDn
          have hs2 := reach_no hSh (f := 12) (j := 7) (d := 5) (by kernel_rfl) hDn
          refine ⟨.pointer (some ⟨w9.heap.size, 0, none⟩), w9.alloc (.cells #[.int .u32 0, .int .u64 0, .slice none 0 0, .int .u64 0, .int .u64 0, .int .i64 0, .bool false] 29), ?_, ⟨_, rfl⟩, TwoS.make2 hS NoRes.res (LRes.res _ _) (LRes.res _ _) hs1 hs2 (by decide)⟩
          clear hS
          go_simp
          try rfl
        try simp only [Act.put, sA, sZ, sS]
        obtain ⟨g8, rfl⟩ := hVv5
        refine Ps.some2 (i := 3) (j := 4) (by kernel_rfl) ?bwg58_85_3 ?bwg58_85_4
        case bwg58_85_3 =>
          refine Turns.mk (i := 3) (d := some 21) rfl rfl (TurnS.call (V := fun v => ∃ zA zn zc, v = .agg ((senC y).cells zA zn zc)) ?fwg58_86 ?awg58_86 [1] (by kernel_rfl) (by rfl) (fun w9 => ?hwg58_86) (fun L9 m9 w9 hSh hAt hDn hS => ?cwg58_86)) (fun v3 hVv3 => ?rwg58_86)
          case hwg58_86 => go_simp; refine ⟨?_, ?_⟩ <;> rfl
          case cwg58_86 =>
            have hs1 := reach_no hSh (f := 12) (j := 6) (d := 3) (by kernel_rfl) hDn
            have hs2 := reach_no hSh (f := 12) (j := 7) (d := 3) (by kernel_rfl) hDn
            have hT := TwoS.any hS
            have hsz := hT.size
            refine (senderC_any (fun b => b < w2.heap.size) y YA yn yc w9 (Lay.rd_below HRY2.out hT) hyc hym).mono ?_
            rintro e w8 ⟨zA, zn, zc, rfl, hr, h1, h2, q8⟩
            have rd : LB3.rd w8 (Av 4 5 m9) zA zn (senC y).q := Lay.rd_weak (fun b hb _ => (hS.at0 hs1).avoid (.inr hb.1)) hr
            exact ⟨_, rfl, ⟨zA, zn, zc, rfl⟩, TwoS.call hS NoRes.res (LRes.res _ _) (LRes.res _ _) hs1 hs2 (by decide) q8 (fun e => absurd e (by decide)) (fun e => absurd e (by decide)) (fun _ => ⟨senC y, _, rfl, ⟨zA, zn, zc, rfl, h1, h2, rd⟩, rfl⟩)⟩
          try simp only [Act.put, sA, sZ, sS]
          obtain ⟨vA, vn, vc, rfl⟩ := hVv3
          refine Ps.one (k := 4) (d := some 7) rfl rfl (by kernel_rfl) (TurnS.value (V := fun v => ∃ g, v = .pointer (some ⟨g, 0, none⟩)) [] (by kernel_rfl) (by rfl) (fun L9 m9 w9 hSh hAt hDn hS => ?cwg58_87)) (fun v4 hVv4 => ?rwg58_87)
          case cwg58_87 =>
            have hs1 := reach_no hSh (f := 12) (j := 6) (d := 4) (by kernel_rfl) hDn
            have hs2 := reach_no hSh (f := 12) (j := 7) (d := 4) (by kernel_rfl) hDn
            refine ⟨.pointer (some ⟨w9.heap.size, 0, none⟩), w9.alloc (.cells #[.int .u32 0, .int .u64 0, .slice none 0 0, .slice none 0 0, .int .i64 0, .bool false] 36), ?_, ⟨_, rfl⟩, TwoS.make1 hS NoRes.res (LRes.res _ _) (LRes.res _ _) hs1 hs2 (by decide)⟩
            clear hS
            go_simp
            try rfl
          try simp only [Act.put, sA, sZ, sS]
          obtain ⟨g7, rfl⟩ := hVv4
          refine Ps.st (i := 6) (d := none) (u := undef) rfl rfl ?ywg58_88 ?rwg58_88
          case ywg58_88 =>
            refine StepS.store [1, 3, 4, 5] (by kernel_rfl) (by rfl) (fun L9 m9 w9 hSh hAt hDn hS => ?_)
            have hs2 := reach_no hSh (f := 12) (j := 7) (d := 6) (by kernel_rfl) hDn
            obtain ⟨p1, p2, hB⟩ := TwoS.ready1 hS hDn (hAt 4 (by simp)).1 (hAt 5 (by simp)).1 (hAt 1 (by simp)).1 (hAt 3 (by simp)).1
            obtain rfl : g7 = p1 := pt_inj ((hAt 4 (by simp)).2.symm.trans hB.e1)
            refine (exec_store_blk (w := w9) 36 (.tmp 7) (.tmp 19) (by rfl) g7 36 #[.int .u32 0, .int .u64 0, .slice none 0 0, .slice none 0 0, .int .i64 0, .bool false] ((recC x).cells uA un uc uB um ud) (by rfl) (by rfl) hB.b1 rfl receiverI (by simp [RC.cells, Value.oneCell'])).imp fun w7 hx => ⟨hx.1, TwoS.set1 hs2 (by decide) (hAt 1 (by simp)).2 (hB.store1 (LRes.res _ _) (LRes.res _ _) hx.2.1 hx.2.2)⟩
          try simp only [Act.put]
          refine Ps.st (i := 7) (d := none) (u := undef) rfl rfl ?ywg58_89 ?rwg58_89
          case ywg58_89 =>
            refine StepS.store [1, 3, 4, 5, 6] (by kernel_rfl) (by rfl) (fun L9 m9 w9 hSh hAt hDn hS => ?_)
            obtain ⟨p1, p2, cc, hk, hB⟩ := TwoS.at1 hS (hAt 6 (by simp)).1 hDn
            obtain rfl : g8 = p2 := pt_inj ((hAt 5 (by simp)).2.symm.trans hB.e2)
            refine (exec_store_blk (w := w9) 29 (.tmp 8) (.tmp 21) (by rfl) g8 29 #[.int .u32 0, .int .u64 0, .slice none 0 0, .int .u64 0, .int .u64 0, .int .i64 0, .bool false] ((senC y).cells vA vn vc) (by rfl) (by rfl) hB.b2 rfl senderI (by simp [SC.cells, Value.oneCell'])).imp fun w7 hx => ⟨hx.1, TwoS.set2 (by decide) (hAt 6 (by simp)).1 hk (hAt 3 (by simp)).2 (hB.store2 (LRes.res _ _) (LRes.res _ _) hx.2.1 hx.2.2)⟩
          try simp only [Act.put]
          refine Ps.done (by kernel_rfl) (fun wg58 hS => ?_) _
          obtain ⟨p1, p2, d1, d2, hk1, hk2, hB⟩ := TwoS.fin hS (by rfl)
          clear hS
          obtain rfl : g7 = p1 := pt_inj hB.e1
          obtain rfl : g8 = p2 := pt_inj hB.e2
          have hk1 : Value.agg ((recC x).cells uA un uc uB um ud) = .agg d1 := hk1
          have hk2 : Value.agg ((senC y).cells vA vn vc) = .agg d2 := hk2
          injection hk1 with hk1
          injection hk2 with hk2
          subst hk1 hk2
          obtain ⟨a1, c1, e1, ⟨A9, n9, c9, B9, m9, d9, e1b, i1, i2, i3, i4, r1, r2⟩, rfl⟩ := hB.r1
          obtain ⟨a2, c2, e2, ⟨A8, n8, c8, e2b, j1, j2, r3⟩, rfl⟩ := hB.r2
          have e1 : Value.agg ((recC x).cells uA un uc uB um ud) = .agg c1 := e1
          have e2 : Value.agg ((senC y).cells vA vn vc) = .agg c2 := e2
          injection e1 with e1
          injection e2 with e2
          subst e1 e2
          simp only [List.cons.injEq, Value.slice.injEq, true_and, and_true] at e1b e2b
          obtain ⟨⟨rfl, rfl, rfl⟩, rfl, rfl, rfl⟩ := e1b
          obtain ⟨rfl, rfl, rfl⟩ := e2b
          refine ⟨g7, g8, uA, un, uc, uB, um, ud, vA, vn, vc, ⟨.agg (x.cells XA xn xc XB xm xd), .agg ((recC x).cells uA un uc uB um ud), .agg (y.cells YA yn yc), .agg ((senC y).cells vA vn vc), ?_⟩, hB.b1, hB.b2, hB.bel, hB.l1, hB.l2, Lay.rd_weak (fun _ _ _ => trivial) r1, i1, i2, Lay.rd_weak (fun _ _ _ => trivial) r2, i3, i4, Lay.rd_weak (fun _ _ _ => trivial) r3, j1, j2⟩
          rfl
        case bwg58_85_4 =>
          refine Turns.mk (i := 4) (d := some 7) rfl rfl (TurnS.value (V := fun v => ∃ g, v = .pointer (some ⟨g, 0, none⟩)) [] (by kernel_rfl) (by rfl) (fun L9 m9 w9 hSh hAt hDn hS => ?cwg58_90)) (fun v4 hVv4 => ?rwg58_90)
          case cwg58_90 =>
            have hs1 := reach_no hSh (f := 12) (j := 6) (d := 4) (by kernel_rfl) hDn
            have hs2 := reach_no hSh (f := 12) (j := 7) (d := 4) (by kernel_rfl) hDn
            refine ⟨.pointer (some ⟨w9.heap.size, 0, none⟩), w9.alloc (.cells #[.int .u32 0, .int .u64 0, .slice none 0 0, .slice none 0 0, .int .i64 0, .bool false] 36), ?_, ⟨_, rfl⟩, TwoS.make1 hS NoRes.res (LRes.res _ _) (LRes.res _ _) hs1 hs2 (by decide)⟩
            clear hS
            go_simp
            try rfl
          try simp only [Act.put, sA, sZ, sS]
          obtain ⟨g7, rfl⟩ := hVv4
          refine Ps.one (k := 3) (d := some 21) rfl rfl (by kernel_rfl) (TurnS.call (V := fun v => ∃ zA zn zc, v = .agg ((senC y).cells zA zn zc)) ?fwg58_91 ?awg58_91 [1] (by kernel_rfl) (by rfl) (fun w9 => ?hwg58_91) (fun L9 m9 w9 hSh hAt hDn hS => ?cwg58_91)) (fun v3 hVv3 => ?rwg58_91)
          case hwg58_91 => go_simp; refine ⟨?_, ?_⟩ <;> rfl
          case cwg58_91 =>
            have hs1 := reach_no hSh (f := 12) (j := 6) (d := 3) (by kernel_rfl) hDn
            have hs2 := reach_no hSh (f := 12) (j := 7) (d := 3) (by kernel_rfl) hDn
            have hT := TwoS.any hS
            have hsz := hT.size
            refine (senderC_any (fun b => b < w2.heap.size) y YA yn yc w9 (Lay.rd_below HRY2.out hT) hyc hym).mono ?_
            rintro e w8 ⟨zA, zn, zc, rfl, hr, h1, h2, q8⟩
            have rd : LB3.rd w8 (Av 4 5 m9) zA zn (senC y).q := Lay.rd_weak (fun b hb _ => (hS.at0 hs1).avoid (.inr hb.1)) hr
            exact ⟨_, rfl, ⟨zA, zn, zc, rfl⟩, TwoS.call hS NoRes.res (LRes.res _ _) (LRes.res _ _) hs1 hs2 (by decide) q8 (fun e => absurd e (by decide)) (fun e => absurd e (by decide)) (fun _ => ⟨senC y, _, rfl, ⟨zA, zn, zc, rfl, h1, h2, rd⟩, rfl⟩)⟩
          try simp only [Act.put, sA, sZ, sS]
          obtain ⟨vA, vn, vc, rfl⟩ := hVv3
          refine Ps.st (i := 6) (d := none) (u := undef) rfl rfl ?ywg58_92 ?rwg58_92
          case ywg58_92 =>
            refine StepS.store [1, 3, 4, 5] (by kernel_rfl) (by rfl) (fun L9 m9 w9 hSh hAt hDn hS => ?_)
            have hs2 := reach_no hSh (f := 12) (j := 7) (d := 6) (by kernel_rfl) hDn
            obtain ⟨p1, p2, hB⟩ := TwoS.ready1 hS hDn (hAt 4 (by simp)).1 (hAt 5 (by simp)).1 (hAt 1 (by simp)).1 (hAt 3 (by simp)).1
            obtain rfl : g7 = p1 := pt_inj ((hAt 4 (by simp)).2.symm.trans hB.e1)
            refine (exec_store_blk (w := w9) 36 (.tmp 7) (.tmp 19) (by rfl) g7 36 #[.int .u32 0, .int .u64 0, .slice none 0 0, .slice none 0 0, .int .i64 0, .bool false] ((recC x).cells uA un uc uB um ud) (by rfl) (by rfl) hB.b1 rfl receiverI (by simp [RC.cells, Value.oneCell'])).imp fun w7 hx => ⟨hx.1, TwoS.set1 hs2 (by decide) (hAt 1 (by simp)).2 (hB.store1 (LRes.res _ _) (LRes.res _ _) hx.2.1 hx.2.2)⟩
          try simp only [Act.put]
          refine Ps.st (i := 7) (d := none) (u := undef) rfl rfl ?ywg58_93 ?rwg58_93
          case ywg58_93 =>
            refine StepS.store [1, 3, 4, 5, 6] (by kernel_rfl) (by rfl) (fun L9 m9 w9 hSh hAt hDn hS => ?_)
            obtain ⟨p1, p2, cc, hk, hB⟩ := TwoS.at1 hS (hAt 6 (by simp)).1 hDn
            obtain rfl : g8 = p2 := pt_inj ((hAt 5 (by simp)).2.symm.trans hB.e2)
            refine (exec_store_blk (w := w9) 29 (.tmp 8) (.tmp 21) (by rfl) g8 29 #[.int .u32 0, .int .u64 0, .slice none 0 0, .int .u64 0, .int .u64 0, .int .i64 0, .bool false] ((senC y).cells vA vn vc) (by rfl) (by rfl) hB.b2 rfl senderI (by simp [SC.cells, Value.oneCell'])).imp fun w7 hx => ⟨hx.1, TwoS.set2 (by decide) (hAt 6 (by simp)).1 hk (hAt 3 (by simp)).2 (hB.store2 (LRes.res _ _) (LRes.res _ _) hx.2.1 hx.2.2)⟩
          try simp only [Act.put]
          refine Ps.done (by kernel_rfl) (fun wg58 hS => ?_) _
          obtain ⟨p1, p2, d1, d2, hk1, hk2, hB⟩ := TwoS.fin hS (by rfl)
          clear hS
          obtain rfl : g7 = p1 := pt_inj hB.e1
          obtain rfl : g8 = p2 := pt_inj hB.e2
          have hk1 : Value.agg ((recC x).cells uA un uc uB um ud) = .agg d1 := hk1
          have hk2 : Value.agg ((senC y).cells vA vn vc) = .agg d2 := hk2
          injection hk1 with hk1
          injection hk2 with hk2
          subst hk1 hk2
          obtain ⟨a1, c1, e1, ⟨A9, n9, c9, B9, m9, d9, e1b, i1, i2, i3, i4, r1, r2⟩, rfl⟩ := hB.r1
          obtain ⟨a2, c2, e2, ⟨A8, n8, c8, e2b, j1, j2, r3⟩, rfl⟩ := hB.r2
          have e1 : Value.agg ((recC x).cells uA un uc uB um ud) = .agg c1 := e1
          have e2 : Value.agg ((senC y).cells vA vn vc) = .agg c2 := e2
          injection e1 with e1
          injection e2 with e2
          subst e1 e2
          simp only [List.cons.injEq, Value.slice.injEq, true_and, and_true] at e1b e2b
          obtain ⟨⟨rfl, rfl, rfl⟩, rfl, rfl, rfl⟩ := e1b
          obtain ⟨rfl, rfl, rfl⟩ := e2b
          refine ⟨g7, g8, uA, un, uc, uB, um, ud, vA, vn, vc, ⟨.agg (x.cells XA xn xc XB xm xd), .agg ((recC x).cells uA un uc uB um ud), .agg (y.cells YA yn yc), .agg ((senC y).cells vA vn vc), ?_⟩, hB.b1, hB.b2, hB.bel, hB.l1, hB.l2, Lay.rd_weak (fun _ _ _ => trivial) r1, i1, i2, Lay.rd_weak (fun _ _ _ => trivial) r2, i3, i4, Lay.rd_weak (fun _ _ _ => trivial) r3, j1, j2⟩
          rfl
    case bwg58_61_4 =>
      refine Turns.mk (i := 4) (d := some 7) rfl rfl (TurnS.value (V := fun v => ∃ g, v = .pointer (some ⟨g, 0, none⟩)) [] (by kernel_rfl) (by rfl) (fun L9 m9 w9 hSh hAt hDn hS => ?cwg58_94)) (fun v4 hVv4 => ?rwg58_94)
      case cwg58_94 =>
        have hs1 := reach_no hSh (f := 12) (j := 6) (d := 4) (by kernel_rfl) hDn
        have hs2 := reach_no hSh (f := 12) (j := 7) (d := 4) (by kernel_rfl) hDn
        refine ⟨.pointer (some ⟨w9.heap.size, 0, none⟩), w9.alloc (.cells #[.int .u32 0, .int .u64 0, .slice none 0 0, .slice none 0 0, .int .i64 0, .bool false] 36), ?_, ⟨_, rfl⟩, TwoS.make1 hS NoRes.res (LRes.res _ _) (LRes.res _ _) hs1 hs2 (by decide)⟩
        clear hS
        go_simp
        try rfl
      try simp only [Act.put, sA, sZ, sS]
      obtain ⟨g7, rfl⟩ := hVv4
      refine Ps.some2 (i := 1) (j := 5) (by kernel_rfl) ?bwg58_95_1 ?bwg58_95_5
      case bwg58_95_1 =>
        refine Turns.mk (i := 1) (d := some 19) rfl rfl (TurnS.call (V := fun v => ∃ zA zn zc zB zm zd, v = .agg ((recC x).cells zA zn zc zB zm zd)) ?fwg58_96 ?awg58_96 [] (by kernel_rfl) (by rfl) (fun w9 => ?hwg58_96) (fun L9 m9 w9 hSh hAt hDn hS => ?cwg58_96)) (fun v1 hVv1 => ?rwg58_96)
        case hwg58_96 => go_simp; refine ⟨?_, ?_⟩ <;> rfl
        case cwg58_96 =>
          have hs1 := reach_no hSh (f := 12) (j := 6) (d := 1) (by kernel_rfl) hDn
          have hs2 := reach_no hSh (f := 12) (j := 7) (d := 1) (by kernel_rfl) hDn
          have hT := TwoS.any hS
          have hsz := hT.size
          refine (recvC_any (fun b => b < w2.heap.size) (fun b => b < w2.heap.size) x XA xn xc XB xm xd w9 (Lay.rd_below HRA2.out hT) (Lay.rd_below HRB2.out hT) hxc hxm hxd hxe).mono ?_
          rintro e w8 ⟨zA, zn, zc, zB, zm, zd, rfl, hr, hr2, h1, h2, h3, h4, q8⟩
          have rd : LH4.rd w8 (Av 4 5 m9) zA zn (recC x).ahead := Lay.rd_weak (fun b hb _ => (hS.at0 hs1).avoid (hb.elim (fun h => .inl h.1) (fun h => .inr (by omega)))) hr
          have rd2 : LB3.rd w8 (Av 4 5 m9) zB zm (recC x).buf := Lay.rd_weak (fun b hb _ => (hS.at0 hs1).avoid (hb.elim (fun h => .inl h.1) (fun h => .inr (by omega)))) hr2
          exact ⟨_, rfl, ⟨zA, zn, zc, zB, zm, zd, rfl⟩, TwoS.call hS NoRes.res (LRes.res _ _) (LRes.res _ _) hs1 hs2 (by decide) q8 (fun e => absurd e (by decide)) (fun _ => ⟨recC x, _, rfl, ⟨zA, zn, zc, zB, zm, zd, rfl, h1, h2, h3, h4, rd, rd2⟩, rfl⟩) (fun e => absurd e (by decide))⟩
        try simp only [Act.put, sA, sZ, sS]
        obtain ⟨uA, un, uc, uB, um, ud, rfl⟩ := hVv1
        refine Ps.some2 (i := 3) (j := 5) (by kernel_rfl) ?bwg58_97_3 ?bwg58_97_5
        case bwg58_97_3 =>
          refine Turns.mk (i := 3) (d := some 21) rfl rfl (TurnS.call (V := fun v => ∃ zA zn zc, v = .agg ((senC y).cells zA zn zc)) ?fwg58_98 ?awg58_98 [1] (by kernel_rfl) (by rfl) (fun w9 => ?hwg58_98) (fun L9 m9 w9 hSh hAt hDn hS => ?cwg58_98)) (fun v3 hVv3 => ?rwg58_98)
          case hwg58_98 => go_simp; refine ⟨?_, ?_⟩ <;> rfl
          case cwg58_98 =>
            have hs1 := reach_no hSh (f := 12) (j := 6) (d := 3) (by kernel_rfl) hDn
            have hs2 := reach_no hSh (f := 12) (j := 7) (d := 3) (by kernel_rfl) hDn
            have hT := TwoS.any hS
            have hsz := hT.size
            refine (senderC_any (fun b => b < w2.heap.size) y YA yn yc w9 (Lay.rd_below HRY2.out hT) hyc hym).mono ?_
            rintro e w8 ⟨zA, zn, zc, rfl, hr, h1, h2, q8⟩
            have rd : LB3.rd w8 (Av 4 5 m9) zA zn (senC y).q := Lay.rd_weak (fun b hb _ => (hS.at0 hs1).avoid (.inr hb.1)) hr
            exact ⟨_, rfl, ⟨zA, zn, zc, rfl⟩, TwoS.call hS NoRes.res (LRes.res _ _) (LRes.res _ _) hs1 hs2 (by decide) q8 (fun e => absurd e (by decide)) (fun e => absurd e (by decide)) (fun _ => ⟨senC y, _, rfl, ⟨zA, zn, zc, rfl, h1, h2, rd⟩, rfl⟩)⟩
          try simp only [Act.put, sA, sZ, sS]
          obtain ⟨vA, vn, vc, rfl⟩ := hVv3
          refine Ps.one (k := 5) (d := some 8) rfl rfl (by kernel_rfl) (TurnS.value (V := fun v => ∃ g, v = .pointer (some ⟨g, 0, none⟩)) [] (by kernel_rfl) (by rfl) (fun L9 m9 w9 hSh hAt hDn hS => ?cwg58_99)) (fun v5 hVv5 => ?rwg58_99)
          case cwg58_99 =>
            have hs1 := reach_no hSh (f := 12) (j := 6) (d := 5) (by kernel_rfl) hDn
            have hs2 := reach_no hSh (f := 12) (j := 7) (d := 5) (by kernel_rfl) hDn
            refine ⟨.pointer (some ⟨w9.heap.size, 0, none⟩), w9.alloc (.cells #[.int .u32 0, .int .u64 0, .slice none 0 0, .int .u64 0, .int .u64 0, .int .i64 0, .bool false] 29), ?_, ⟨_, rfl⟩, TwoS.make2 hS NoRes.res (LRes.res _ _) (LRes.res _ _) hs1 hs2 (by decide)⟩
            clear hS
            go_simp
            try rfl
          try simp only [Act.put, sA, sZ, sS]
          obtain ⟨g8, rfl⟩ := hVv5
          refine Ps.st (i := 6) (d := none) (u := undef) rfl rfl ?ywg58_100 ?rwg58_100
          case ywg58_100 =>
            refine StepS.store [1, 3, 4, 5] (by kernel_rfl) (by rfl) (fun L9 m9 w9 hSh hAt hDn hS => ?_)
            have hs2 := reach_no hSh (f := 12) (j := 7) (d := 6) (by kernel_rfl) hDn
            obtain ⟨p1, p2, hB⟩ := TwoS.ready1 hS hDn (hAt 4 (by simp)).1 (hAt 5 (by simp)).1 (hAt 1 (by simp)).1 (hAt 3 (by simp)).1
            obtain rfl : g7 = p1 := pt_inj ((hAt 4 (by simp)).2.symm.trans hB.e1)
            refine (exec_store_blk (w := w9) 36 (.tmp 7) (.tmp 19) (by rfl) g7 36 #[.int .u32 0, .int .u64 0, .slice none 0 0, .slice none 0 0, .int .i64 0, .bool false] ((recC x).cells uA un uc uB um ud) (by rfl) (by rfl) hB.b1 rfl receiverI (by simp [RC.cells, Value.oneCell'])).imp fun w7 hx => ⟨hx.1, TwoS.set1 hs2 (by decide) (hAt 1 (by simp)).2 (hB.store1 (LRes.res _ _) (LRes.res _ _) hx.2.1 hx.2.2)⟩
          try simp only [Act.put]
          refine Ps.st (i := 7) (d := none) (u := undef) rfl rfl ?ywg58_101 ?rwg58_101
          case ywg58_101 =>
            refine StepS.store [1, 3, 4, 5, 6] (by kernel_rfl) (by rfl) (fun L9 m9 w9 hSh hAt hDn hS => ?_)
            obtain ⟨p1, p2, cc, hk, hB⟩ := TwoS.at1 hS (hAt 6 (by simp)).1 hDn
            obtain rfl : g8 = p2 := pt_inj ((hAt 5 (by simp)).2.symm.trans hB.e2)
            refine (exec_store_blk (w := w9) 29 (.tmp 8) (.tmp 21) (by rfl) g8 29 #[.int .u32 0, .int .u64 0, .slice none 0 0, .int .u64 0, .int .u64 0, .int .i64 0, .bool false] ((senC y).cells vA vn vc) (by rfl) (by rfl) hB.b2 rfl senderI (by simp [SC.cells, Value.oneCell'])).imp fun w7 hx => ⟨hx.1, TwoS.set2 (by decide) (hAt 6 (by simp)).1 hk (hAt 3 (by simp)).2 (hB.store2 (LRes.res _ _) (LRes.res _ _) hx.2.1 hx.2.2)⟩
          try simp only [Act.put]
          refine Ps.done (by kernel_rfl) (fun wg58 hS => ?_) _
          obtain ⟨p1, p2, d1, d2, hk1, hk2, hB⟩ := TwoS.fin hS (by rfl)
          clear hS
          obtain rfl : g7 = p1 := pt_inj hB.e1
          obtain rfl : g8 = p2 := pt_inj hB.e2
          have hk1 : Value.agg ((recC x).cells uA un uc uB um ud) = .agg d1 := hk1
          have hk2 : Value.agg ((senC y).cells vA vn vc) = .agg d2 := hk2
          injection hk1 with hk1
          injection hk2 with hk2
          subst hk1 hk2
          obtain ⟨a1, c1, e1, ⟨A9, n9, c9, B9, m9, d9, e1b, i1, i2, i3, i4, r1, r2⟩, rfl⟩ := hB.r1
          obtain ⟨a2, c2, e2, ⟨A8, n8, c8, e2b, j1, j2, r3⟩, rfl⟩ := hB.r2
          have e1 : Value.agg ((recC x).cells uA un uc uB um ud) = .agg c1 := e1
          have e2 : Value.agg ((senC y).cells vA vn vc) = .agg c2 := e2
          injection e1 with e1
          injection e2 with e2
          subst e1 e2
          simp only [List.cons.injEq, Value.slice.injEq, true_and, and_true] at e1b e2b
          obtain ⟨⟨rfl, rfl, rfl⟩, rfl, rfl, rfl⟩ := e1b
          obtain ⟨rfl, rfl, rfl⟩ := e2b
          refine ⟨g7, g8, uA, un, uc, uB, um, ud, vA, vn, vc, ⟨.agg (x.cells XA xn xc XB xm xd), .agg ((recC x).cells uA un uc uB um ud), .agg (y.cells YA yn yc), .agg ((senC y).cells vA vn vc), ?_⟩, hB.b1, hB.b2, hB.bel, hB.l1, hB.l2, Lay.rd_weak (fun _ _ _ => trivial) r1, i1, i2, Lay.rd_weak (fun _ _ _ => trivial) r2, i3, i4, Lay.rd_weak (fun _ _ _ => trivial) r3, j1, j2⟩
          rfl
        case bwg58_97_5 =>
          refine Turns.mk (i := 5) (d := some 8) rfl rfl (TurnS.value (V := fun v => ∃ g, v = .pointer (some ⟨g, 0, none⟩)) [] (by kernel_rfl) (by rfl) (fun L9 m9 w9 hSh hAt hDn hS => ?cwg58_102)) (fun v5 hVv5 => ?rwg58_102)
          case cwg58_102 =>
            have hs1 := reach_no hSh (f := 12) (j := 6) (d := 5) (by kernel_rfl) hDn
            have hs2 := reach_no hSh (f := 12) (j := 7) (d := 5) (by kernel_rfl) hDn
            refine ⟨.pointer (some ⟨w9.heap.size, 0, none⟩), w9.alloc (.cells #[.int .u32 0, .int .u64 0, .slice none 0 0, .int .u64 0, .int .u64 0, .int .i64 0, .bool false] 29), ?_, ⟨_, rfl⟩, TwoS.make2 hS NoRes.res (LRes.res _ _) (LRes.res _ _) hs1 hs2 (by decide)⟩
            clear hS
            go_simp
            try rfl
          try simp only [Act.put, sA, sZ, sS]
          obtain ⟨g8, rfl⟩ := hVv5
          refine Ps.one (k := 3) (d := some 21) rfl rfl (by kernel_rfl) (TurnS.call (V := fun v => ∃ zA zn zc, v = .agg ((senC y).cells zA zn zc)) ?fwg58_103 ?awg58_103 [1] (by kernel_rfl) (by rfl) (fun w9 => ?hwg58_103) (fun L9 m9 w9 hSh hAt hDn hS => ?cwg58_103)) (fun v3 hVv3 => ?rwg58_103)
          case hwg58_103 => go_simp; refine ⟨?_, ?_⟩ <;> rfl
          case cwg58_103 =>
            have hs1 := reach_no hSh (f := 12) (j := 6) (d := 3) (by kernel_rfl) hDn
            have hs2 := reach_no hSh (f := 12) (j := 7) (d := 3) (by kernel_rfl) hDn
            have hT := TwoS.any hS
            have hsz := hT.size
            refine (senderC_any (fun b => b < w2.heap.size) y YA yn yc w9 (Lay.rd_below HRY2.out hT) hyc hym).mono ?_
            rintro e w8 ⟨zA, zn, zc, rfl, hr, h1, h2, q8⟩
            have rd : LB3.rd w8 (Av 4 5 m9) zA zn (senC y).q := Lay.rd_weak (fun b hb _ => (hS.at0 hs1).avoid (.inr hb.1)) hr
            exact ⟨_, rfl, ⟨zA, zn, zc, rfl⟩, TwoS.call hS NoRes.res (LRes.res _ _) (LRes.res _ _) hs1 hs2 (by decide) q8 (fun e => absurd e (by decide)) (fun e => absurd e (by decide)) (fun _ => ⟨senC y, _, rfl, ⟨zA, zn, zc, rfl, h1, h2, rd⟩, rfl⟩)⟩
          try simp only [Act.put, sA, sZ, sS]
          obtain ⟨vA, vn, vc, rfl⟩ := hVv3
          refine Ps.st (i := 6) (d := none) (u := undef) rfl rfl ?ywg58_104 ?rwg58_104
          case ywg58_104 =>
            refine StepS.store [1, 3, 4, 5] (by kernel_rfl) (by rfl) (fun L9 m9 w9 hSh hAt hDn hS => ?_)
            have hs2 := reach_no hSh (f := 12) (j := 7) (d := 6) (by kernel_rfl) hDn
            obtain ⟨p1, p2, hB⟩ := TwoS.ready1 hS hDn (hAt 4 (by simp)).1 (hAt 5 (by simp)).1 (hAt 1 (by simp)).1 (hAt 3 (by simp)).1
            obtain rfl : g7 = p1 := pt_inj ((hAt 4 (by simp)).2.symm.trans hB.e1)
            refine (exec_store_blk (w := w9) 36 (.tmp 7) (.tmp 19) (by rfl) g7 36 #[.int .u32 0, .int .u64 0, .slice none 0 0, .slice none 0 0, .int .i64 0, .bool false] ((recC x).cells uA un uc uB um ud) (by rfl) (by rfl) hB.b1 rfl receiverI (by simp [RC.cells, Value.oneCell'])).imp fun w7 hx => ⟨hx.1, TwoS.set1 hs2 (by decide) (hAt 1 (by simp)).2 (hB.store1 (LRes.res _ _) (LRes.res _ _) hx.2.1 hx.2.2)⟩
          try simp only [Act.put]
          refine Ps.st (i := 7) (d := none) (u := undef) rfl rfl ?ywg58_105 ?rwg58_105
          case ywg58_105 =>
            refine StepS.store [1, 3, 4, 5, 6] (by kernel_rfl) (by rfl) (fun L9 m9 w9 hSh hAt hDn hS => ?_)
            obtain ⟨p1, p2, cc, hk, hB⟩ := TwoS.at1 hS (hAt 6 (by simp)).1 hDn
            obtain rfl : g8 = p2 := pt_inj ((hAt 5 (by simp)).2.symm.trans hB.e2)
            refine (exec_store_blk (w := w9) 29 (.tmp 8) (.tmp 21) (by rfl) g8 29 #[.int .u32 0, .int .u64 0, .slice none 0 0, .int .u64 0, .int .u64 0, .int .i64 0, .bool false] ((senC y).cells vA vn vc) (by rfl) (by rfl) hB.b2 rfl senderI (by simp [SC.cells, Value.oneCell'])).imp fun w7 hx => ⟨hx.1, TwoS.set2 (by decide) (hAt 6 (by simp)).1 hk (hAt 3 (by simp)).2 (hB.store2 (LRes.res _ _) (LRes.res _ _) hx.2.1 hx.2.2)⟩
          try simp only [Act.put]
          refine Ps.done (by kernel_rfl) (fun wg58 hS => ?_) _
          obtain ⟨p1, p2, d1, d2, hk1, hk2, hB⟩ := TwoS.fin hS (by rfl)
          clear hS
          obtain rfl : g7 = p1 := pt_inj hB.e1
          obtain rfl : g8 = p2 := pt_inj hB.e2
          have hk1 : Value.agg ((recC x).cells uA un uc uB um ud) = .agg d1 := hk1
          have hk2 : Value.agg ((senC y).cells vA vn vc) = .agg d2 := hk2
          injection hk1 with hk1
          injection hk2 with hk2
          subst hk1 hk2
          obtain ⟨a1, c1, e1, ⟨A9, n9, c9, B9, m9, d9, e1b, i1, i2, i3, i4, r1, r2⟩, rfl⟩ := hB.r1
          obtain ⟨a2, c2, e2, ⟨A8, n8, c8, e2b, j1, j2, r3⟩, rfl⟩ := hB.r2
          have e1 : Value.agg ((recC x).cells uA un uc uB um ud) = .agg c1 := e1
          have e2 : Value.agg ((senC y).cells vA vn vc) = .agg c2 := e2
          injection e1 with e1
          injection e2 with e2
          subst e1 e2
          simp only [List.cons.injEq, Value.slice.injEq, true_and, and_true] at e1b e2b
          obtain ⟨⟨rfl, rfl, rfl⟩, rfl, rfl, rfl⟩ := e1b
          obtain ⟨rfl, rfl, rfl⟩ := e2b
          refine ⟨g7, g8, uA, un, uc, uB, um, ud, vA, vn, vc, ⟨.agg (x.cells XA xn xc XB xm xd), .agg ((recC x).cells uA un uc uB um ud), .agg (y.cells YA yn yc), .agg ((senC y).cells vA vn vc), ?_⟩, hB.b1, hB.b2, hB.bel, hB.l1, hB.l2, Lay.rd_weak (fun _ _ _ => trivial) r1, i1, i2, Lay.rd_weak (fun _ _ _ => trivial) r2, i3, i4, Lay.rd_weak (fun _ _ _ => trivial) r3, j1, j2⟩
          rfl
      case bwg58_95_5 =>
        refine Turns.mk (i := 5) (d := some 8) rfl rfl (TurnS.value (V := fun v => ∃ g, v = .pointer (some ⟨g, 0, none⟩)) [] (by kernel_rfl) (by rfl) (fun L9 m9 w9 hSh hAt hDn hS => ?cwg58_106)) (fun v5 hVv5 => ?rwg58_106)
        case cwg58_106 =>
          have hs1 := reach_no hSh (f := 12) (j := 6) (d := 5) (by kernel_rfl) hDn
          have hs2 := reach_no hSh (f := 12) (j := 7) (d := 5) (by kernel_rfl) hDn
          refine ⟨.pointer (some ⟨w9.heap.size, 0, none⟩), w9.alloc (.cells #[.int .u32 0, .int .u64 0, .slice none 0 0, .int .u64 0, .int .u64 0, .int .i64 0, .bool false] 29), ?_, ⟨_, rfl⟩, TwoS.make2 hS NoRes.res (LRes.res _ _) (LRes.res _ _) hs1 hs2 (by decide)⟩
          clear hS
          go_simp
          try rfl
        try simp only [Act.put, sA, sZ, sS]
        obtain ⟨g8, rfl⟩ := hVv5
        refine Ps.one (k := 1) (d := some 19) rfl rfl (by kernel_rfl) (TurnS.call (V := fun v => ∃ zA zn zc zB zm zd, v = .agg ((recC x).cells zA zn zc zB zm zd)) ?fwg58_107 ?awg58_107 [] (by kernel_rfl) (by rfl) (fun w9 => ?hwg58_107) (fun L9 m9 w9 hSh hAt hDn hS => ?cwg58_107)) (fun v1 hVv1 => ?rwg58_107)
        case hwg58_107 => go_simp; refine ⟨?_, ?_⟩ <;> rfl
        case cwg58_107 =>
          have hs1 := reach_no hSh (f := 12) (j := 6) (d := 1) (by kernel_rfl) hDn
          have hs2 := reach_no hSh (f := 12) (j := 7) (d := 1) (by kernel_rfl) hDn
          have hT := TwoS.any hS
          have hsz := hT.size
          refine (recvC_any (fun b => b < w2.heap.size) (fun b => b < w2.heap.size) x XA xn xc XB xm xd w9 (Lay.rd_below HRA2.out hT) (Lay.rd_below HRB2.out hT) hxc hxm hxd hxe).mono ?_
          rintro e w8 ⟨zA, zn, zc, zB, zm, zd, rfl, hr, hr2, h1, h2, h3, h4, q8⟩
          have rd : LH4.rd w8 (Av 4 5 m9) zA zn (recC x).ahead := Lay.rd_weak (fun b hb _ => (hS.at0 hs1).avoid (hb.elim (fun h => .inl h.1) (fun h => .inr (by omega)))) hr
          have rd2 : LB3.rd w8 (Av 4 5 m9) zB zm (recC x).buf := Lay.rd_weak (fun b hb _ => (hS.at0 hs1).avoid (hb.elim (fun h => .inl h.1) (fun h => .inr (by omega)))) hr2
          exact ⟨_, rfl, ⟨zA, zn, zc, zB, zm, zd, rfl⟩, TwoS.call hS NoRes.res (LRes.res _ _) (LRes.res _ _) hs1 hs2 (by decide) q8 (fun e => absurd e (by decide)) (fun _ => ⟨recC x, _, rfl, ⟨zA, zn, zc, zB, zm, zd, rfl, h1, h2, h3, h4, rd, rd2⟩, rfl⟩) (fun e => absurd e (by decide))⟩
        try simp only [Act.put, sA, sZ, sS]
        obtain ⟨uA, un, uc, uB, um, ud, rfl⟩ := hVv1
        refine Ps.one (k := 3) (d := some 21) rfl rfl (by kernel_rfl) (TurnS.call (V := fun v => ∃ zA zn zc, v = .agg ((senC y).cells zA zn zc)) ?fwg58_108 ?awg58_108 [1] (by kernel_rfl) (by rfl) (fun w9 => ?hwg58_108) (fun L9 m9 w9 hSh hAt hDn hS => ?cwg58_108)) (fun v3 hVv3 => ?rwg58_108)
        case hwg58_108 => go_simp; refine ⟨?_, ?_⟩ <;> rfl
        case cwg58_108 =>
          have hs1 := reach_no hSh (f := 12) (j := 6) (d := 3) (by kernel_rfl) hDn
          have hs2 := reach_no hSh (f := 12) (j := 7) (d := 3) (by kernel_rfl) hDn
          have hT := TwoS.any hS
          have hsz := hT.size
          refine (senderC_any (fun b => b < w2.heap.size) y YA yn yc w9 (Lay.rd_below HRY2.out hT) hyc hym).mono ?_
          rintro e w8 ⟨zA, zn, zc, rfl, hr, h1, h2, q8⟩
          have rd : LB3.rd w8 (Av 4 5 m9) zA zn (senC y).q := Lay.rd_weak (fun b hb _ => (hS.at0 hs1).avoid (.inr hb.1)) hr
          exact ⟨_, rfl, ⟨zA, zn, zc, rfl⟩, TwoS.call hS NoRes.res (LRes.res _ _) (LRes.res _ _) hs1 hs2 (by decide) q8 (fun e => absurd e (by decide)) (fun e => absurd e (by decide)) (fun _ => ⟨senC y, _, rfl, ⟨zA, zn, zc, rfl, h1, h2, rd⟩, rfl⟩)⟩
        try simp only [Act.put, sA, sZ, sS]
        obtain ⟨vA, vn, vc, rfl⟩ := hVv3
        refine Ps.st (i := 6) (d := none) (u := undef) rfl rfl ?ywg58_109 ?rwg58_109
        case ywg58_109 =>
          refine StepS.store [1, 3, 4, 5] (by kernel_rfl) (by rfl) (fun L9 m9 w9 hSh hAt hDn hS => ?_)
          have hs2 := reach_no hSh (f := 12) (j := 7) (d := 6) (by kernel_rfl) hDn
          obtain ⟨p1, p2, hB⟩ := TwoS.ready1 hS hDn (hAt 4 (by simp)).1 (hAt 5 (by simp)).1 (hAt 1 (by simp)).1 (hAt 3 (by simp)).1
          obtain rfl : g7 = p1 := pt_inj ((hAt 4 (by simp)).2.symm.trans hB.e1)
          refine (exec_store_blk (w := w9) 36 (.tmp 7) (.tmp 19) (by rfl) g7 36 #[.int .u32 0, .int .u64 0, .slice none 0 0, .slice none 0 0, .int .i64 0, .bool false] ((recC x).cells uA un uc uB um ud) (by rfl) (by rfl) hB.b1 rfl receiverI (by simp [RC.cells, Value.oneCell'])).imp fun w7 hx => ⟨hx.1, TwoS.set1 hs2 (by decide) (hAt 1 (by simp)).2 (hB.store1 (LRes.res _ _) (LRes.res _ _) hx.2.1 hx.2.2)⟩
        try simp only [Act.put]
        refine Ps.st (i := 7) (d := none) (u := undef) rfl rfl ?ywg58_110 ?rwg58_110
        case ywg58_110 =>
          refine StepS.store [1, 3, 4, 5, 6] (by kernel_rfl) (by rfl) (fun L9 m9 w9 hSh hAt hDn hS => ?_)
          obtain ⟨p1, p2, cc, hk, hB⟩ := TwoS.at1 hS (hAt 6 (by simp)).1 hDn
          obtain rfl : g8 = p2 := pt_inj ((hAt 5 (by simp)).2.symm.trans hB.e2)
          refine (exec_store_blk (w := w9) 29 (.tmp 8) (.tmp 21) (by rfl) g8 29 #[.int .u32 0, .int .u64 0, .slice none 0 0, .int .u64 0, .int .u64 0, .int .i64 0, .bool false] ((senC y).cells vA vn vc) (by rfl) (by rfl) hB.b2 rfl senderI (by simp [SC.cells, Value.oneCell'])).imp fun w7 hx => ⟨hx.1, TwoS.set2 (by decide) (hAt 6 (by simp)).1 hk (hAt 3 (by simp)).2 (hB.store2 (LRes.res _ _) (LRes.res _ _) hx.2.1 hx.2.2)⟩
        try simp only [Act.put]
        refine Ps.done (by kernel_rfl) (fun wg58 hS => ?_) _
        obtain ⟨p1, p2, d1, d2, hk1, hk2, hB⟩ := TwoS.fin hS (by rfl)
        clear hS
        obtain rfl : g7 = p1 := pt_inj hB.e1
        obtain rfl : g8 = p2 := pt_inj hB.e2
        have hk1 : Value.agg ((recC x).cells uA un uc uB um ud) = .agg d1 := hk1
        have hk2 : Value.agg ((senC y).cells vA vn vc) = .agg d2 := hk2
        injection hk1 with hk1
        injection hk2 with hk2
        subst hk1 hk2
        obtain ⟨a1, c1, e1, ⟨A9, n9, c9, B9, m9, d9, e1b, i1, i2, i3, i4, r1, r2⟩, rfl⟩ := hB.r1
        obtain ⟨a2, c2, e2, ⟨A8, n8, c8, e2b, j1, j2, r3⟩, rfl⟩ := hB.r2
        have e1 : Value.agg ((recC x).cells uA un uc uB um ud) = .agg c1 := e1
        have e2 : Value.agg ((senC y).cells vA vn vc) = .agg c2 := e2
        injection e1 with e1
        injection e2 with e2
        subst e1 e2
        simp only [List.cons.injEq, Value.slice.injEq, true_and, and_true] at e1b e2b
        obtain ⟨⟨rfl, rfl, rfl⟩, rfl, rfl, rfl⟩ := e1b
        obtain ⟨rfl, rfl, rfl⟩ := e2b
        refine ⟨g7, g8, uA, un, uc, uB, um, ud, vA, vn, vc, ⟨.agg (x.cells XA xn xc XB xm xd), .agg ((recC x).cells uA un uc uB um ud), .agg (y.cells YA yn yc), .agg ((senC y).cells vA vn vc), ?_⟩, hB.b1, hB.b2, hB.bel, hB.l1, hB.l2, Lay.rd_weak (fun _ _ _ => trivial) r1, i1, i2, Lay.rd_weak (fun _ _ _ => trivial) r2, i3, i4, Lay.rd_weak (fun _ _ _ => trivial) r3, j1, j2⟩
        rfl
    case bwg58_61_5 =>
      refine Turns.mk (i := 5) (d := some 8) rfl rfl (TurnS.value (V := fun v => ∃ g, v = .pointer (some ⟨g, 0, none⟩)) [] (by kernel_rfl) (by rfl) (fun L9 m9 w9 hSh hAt hDn hS => ?cwg58_111)) (fun v5 hVv5 => ?rwg58_111)
      case cwg58_111 =>
        have hs1 := reach_no hSh (f := 12) (j := 6) (d := 5) (by kernel_rfl) hDn
        have hs2 := reach_no hSh (f := 12) (j := 7) (d := 5) (by kernel_rfl) hDn
        refine ⟨.pointer (some ⟨w9.heap.size, 0, none⟩), w9.alloc (.cells #[.int .u32 0, .int .u64 0, .slice none 0 0, .int .u64 0, .int .u64 0, .int .i64 0, .bool false] 29), ?_, ⟨_, rfl⟩, TwoS.make2 hS NoRes.res (LRes.res _ _) (LRes.res _ _) hs1 hs2 (by decide)⟩
        clear hS
        go_simp
        try rfl
      try simp only [Act.put, sA, sZ, sS]
      obtain ⟨g8, rfl⟩ := hVv5
      refine Ps.some2 (i := 1) (j := 4) (by kernel_rfl) ?bwg58_112_1 ?bwg58_112_4
      case bwg58_112_1 =>
        refine Turns.mk (i := 1) (d := some 19) rfl rfl (TurnS.call (V := fun v => ∃ zA zn zc zB zm zd, v = .agg ((recC x).cells zA zn zc zB zm zd)) ?fwg58_113 ?awg58_113 [] (by kernel_rfl) (by rfl) (fun w9 => ?hwg58_113) (fun L9 m9 w9 hSh hAt hDn hS => ?cwg58_113)) (fun v1 hVv1 => ?rwg58_113)
        case hwg58_113 => go_simp; refine ⟨?_, ?_⟩ <;> rfl
        case cwg58_113 =>
          have hs1 := reach_no hSh (f := 12) (j := 6) (d := 1) (by kernel_rfl) hDn
          have hs2 := reach_no hSh (f := 12) (j := 7) (d := 1) (by kernel_rfl) hDn
          have hT := TwoS.any hS
          have hsz := hT.size
          refine (recvC_any (fun b => b < w2.heap.size) (fun b => b < w2.heap.size) x XA xn xc XB xm xd w9 (Lay.rd_below HRA2.out hT) (Lay.rd_below HRB2.out hT) hxc hxm hxd hxe).mono ?_
          rintro e w8 ⟨zA, zn, zc, zB, zm, zd, rfl, hr, hr2, h1, h2, h3, h4, q8⟩
          have rd : LH4.rd w8 (Av 4 5 m9) zA zn (recC x).ahead := Lay.rd_weak (fun b hb _ => (hS.at0 hs1).avoid (hb.elim (fun h => .inl h.1) (fun h => .inr (by omega)))) hr
          have rd2 : LB3.rd w8 (Av 4 5 m9) zB zm (recC x).buf := Lay.rd_weak (fun b hb _ => (hS.at0 hs1).avoid (hb.elim (fun h => .inl h.1) (fun h => .inr (by omega)))) hr2
          exact ⟨_, rfl, ⟨zA, zn, zc, zB, zm, zd, rfl⟩, TwoS.call hS NoRes.res (LRes.res _ _) (LRes.res _ _) hs1 hs2 (by decide) q8 (fun e => absurd e (by decide)) (fun _ => ⟨recC x, _, rfl, ⟨zA, zn, zc, zB, zm, zd, rfl, h1, h2, h3, h4, rd, rd2⟩, rfl⟩) (fun e => absurd e (by decide))⟩
        try simp only [Act.put, sA, sZ, sS]
        obtain ⟨uA, un, uc, uB, um, ud, rfl⟩ := hVv1
        refine Ps.some2 (i := 3) (j := 4) (by kernel_rfl) ?bwg58_114_3 ?bwg58_114_4
        case bwg58_114_3 =>
          refine Turns.mk (i := 3) (d := some 21) rfl rfl (TurnS.call (V := fun v => ∃ zA zn zc, v = .agg ((senC y).cells zA zn zc)) ?fwg58_115 ?awg58_115 [1] (by kernel_rfl) (by rfl) (fun w9 => ?hwg58_115) (fun L9 m9 w9 hSh hAt hDn hS => ?cwg58_115)) (fun v3 hVv3 => ?rwg58_115)
          case hwg58_115 => go_simp; refine ⟨?_, ?_⟩ <;> rfl
          case cwg58_115 =>
            have hs1 := reach_no hSh (f := 12) (j := 6) (d := 3) (by kernel_rfl) hDn
            have hs2 := reach_no hSh (f := 12) (j := 7) (d := 3) (by kernel_rfl) hDn
            have hT := TwoS.any hS
            have hsz := hT.size
            refine (senderC_any (fun b => b < w2.heap.size) y YA yn yc w9 (Lay.rd_below HRY2.out hT) hyc hym).mono ?_
            rintro e w8 ⟨zA, zn, zc, rfl, hr, h1, h2, q8⟩
            have rd : LB3.rd w8 (Av 4 5 m9) zA zn (senC y).q := Lay.rd_weak (fun b hb _ => (hS.at0 hs1).avoid (.inr hb.1)) hr
            exact ⟨_, rfl, ⟨zA, zn, zc, rfl⟩, TwoS.call hS NoRes.res (LRes.res _ _) (LRes.res _ _) hs1 hs2 (by decide) q8 (fun e => absurd e (by decide)) (fun e => absurd e (by decide)) (fun _ => ⟨senC y, _, rfl, ⟨zA, zn, zc, rfl, h1, h2, rd⟩, rfl⟩)⟩
          try simp only [Act.put, sA, sZ, sS]
          obtain ⟨vA, vn, vc, rfl⟩ := hVv3
          refine Ps.one (k := 4) (d := some 7) rfl rfl (by kernel_rfl) (TurnS.value (V := fun v => ∃ g, v = .pointer (some ⟨g, 0, none⟩)) [] (by kernel_rfl) (by rfl) (fun L9 m9 w9 hSh hAt hDn hS => ?cwg58_116)) (fun v4 hVv4 => ?rwg58_116)
          case cwg58_116 =>
            have hs1 := reach_no hSh (f := 12) (j := 6) (d := 4) (by kernel_rfl) hDn
            have hs2 := reach_no hSh (f := 12) (j := 7) (d := 4) (by kernel_rfl) hDn
            refine ⟨.pointer (some ⟨w9.heap.size, 0, none⟩), w9.alloc (.cells #[.int .u32 0, .int .u64 0, .slice none 0 0, .slice none 0 0, .int .i64 0, .bool false] 36), ?_, ⟨_, rfl⟩, TwoS.make1 hS NoRes.res (LRes.res _ _) (LRes.res _ _) hs1 hs2 (by decide)⟩
            clear hS
            go_simp
            try rfl
          try simp only [Act.put, sA, sZ, sS]
          obtain ⟨g7, rfl⟩ := hVv4
          refine Ps.st (i := 6) (d := none) (u := undef) rfl rfl ?ywg58_117 ?rwg58_117
          case ywg58_117 =>
            refine StepS.store [1, 3, 4, 5] (by kernel_rfl) (by rfl) (fun L9 m9 w9 hSh hAt hDn hS => ?_)
            have hs2 := reach_no hSh (f := 12) (j := 7) (d := 6) (by kernel_rfl) hDn
            obtain ⟨p1, p2, hB⟩ := TwoS.ready1 hS hDn (hAt 4 (by simp)).1 (hAt 5 (by simp)).1 (hAt 1 (by simp)).1 (hAt 3 (by simp)).1
            obtain rfl : g7 = p1 := pt_inj ((hAt 4 (by simp)).2.symm.trans hB.e1)
            refine (exec_store_blk (w := w9) 36 (.tmp 7) (.tmp 19) (by rfl) g7 36 #[.int .u32 0, .int .u64 0, .slice none 0 0, .slice none 0 0, .int .i64 0, .bool false] ((recC x).cells uA un uc uB um ud) (by rfl) (by rfl) hB.b1 rfl receiverI (by simp [RC.cells, Value.oneCell'])).imp fun w7 hx => ⟨hx.1, TwoS.set1 hs2 (by decide) (hAt 1 (by simp)).2 (hB.store1 (LRes.res _ _) (LRes.res _ _) hx.2.1 hx.2.2)⟩
          try simp only [Act.put]
          refine Ps.st (i := 7) (d := none) (u := undef) rfl rfl ?ywg58_118 ?rwg58_118
          case ywg58_118 =>
            refine StepS.store [1, 3, 4, 5, 6] (by kernel_rfl) (by rfl) (fun L9 m9 w9 hSh hAt hDn hS => ?_)
            obtain ⟨p1, p2, cc, hk, hB⟩ := TwoS.at1 hS (hAt 6 (by simp)).1 hDn
            obtain rfl : g8 = p2 := pt_inj ((hAt 5 (by simp)).2.symm.trans hB.e2)
            refine (exec_store_blk (w := w9) 29 (.tmp 8) (.tmp 21) (by rfl) g8 29 #[.int .u32 0, .int .u64 0, .slice none 0 0, .int .u64 0, .int .u64 0, .int .i64 0, .bool false] ((senC y).cells vA vn vc) (by rfl) (by rfl) hB.b2 rfl senderI (by simp [SC.cells, Value.oneCell'])).imp fun w7 hx => ⟨hx.1, TwoS.set2 (by decide) (hAt 6 (by simp)).1 hk (hAt 3 (by simp)).2 (hB.store2 (LRes.res _ _) (LRes.res _ _) hx.2.1 hx.2.2)⟩
          try simp only [Act.put]
          refine Ps.done (by kernel_rfl) (fun wg58 hS => ?_) _
          obtain ⟨p1, p2, d1, d2, hk1, hk2, hB⟩ := TwoS.fin hS (by rfl)
          clear hS
          obtain rfl : g7 = p1 := pt_inj hB.e1
          obtain rfl : g8 = p2 := pt_inj hB.e2
          have hk1 : Value.agg ((recC x).cells uA un uc uB um ud) = .agg d1 := hk1
          have hk2 : Value.agg ((senC y).cells vA vn vc) = .agg d2 := hk2
          injection hk1 with hk1
          injection hk2 with hk2
          subst hk1 hk2
          obtain ⟨a1, c1, e1, ⟨A9, n9, c9, B9, m9, d9, e1b, i1, i2, i3, i4, r1, r2⟩, rfl⟩ := hB.r1
          obtain ⟨a2, c2, e2, ⟨A8, n8, c8, e2b, j1, j2, r3⟩, rfl⟩ := hB.r2
          have e1 : Value.agg ((recC x).cells uA un uc uB um ud) = .agg c1 := e1
          have e2 : Value.agg ((senC y).cells vA vn vc) = .agg c2 := e2
          injection e1 with e1
          injection e2 with e2
          subst e1 e2
          simp only [List.cons.injEq, Value.slice.injEq, true_and, and_true] at e1b e2b
          obtain ⟨⟨rfl, rfl, rfl⟩, rfl, rfl, rfl⟩ := e1b
          obtain ⟨rfl, rfl, rfl⟩ := e2b
          refine ⟨g7, g8, uA, un, uc, uB, um, ud, vA, vn, vc, ⟨.agg (x.cells XA xn xc XB xm xd), .agg ((recC x).cells uA un uc uB um ud), .agg (y.cells YA yn yc), .agg ((senC y).cells vA vn vc), ?_⟩, hB.b1, hB.b2, hB.bel, hB.l1, hB.l2, Lay.rd_weak (fun _ _ _ => trivial) r1, i1, i2, Lay.rd_weak (fun _ _ _ => trivial) r2, i3, i4, Lay.rd_weak (fun _ _ _ => trivial) r3, j1, j2⟩
          rfl
        case bwg58_114_4 =>
          refine Turns.mk (i := 4) (d := some 7) rfl rfl (TurnS.value (V := fun v => ∃ g, v = .pointer (some ⟨g, 0, none⟩)) [] (by kernel_rfl) (by rfl) (fun L9 m9 w9 hSh hAt hDn hS => ?cwg58_119)) (fun v4 hVv4 => ?rwg58_119)
          case cwg58_119 =>
            have hs1 := reach_no hSh (f := 12) (j := 6) (d := 4) (by kernel_rfl) hDn
            have hs2 := reach_no hSh (f := 12) (j := 7) (d := 4) (by kernel_rfl) hDn
            refine ⟨.pointer (some ⟨w9.heap.size, 0, none⟩), w9.alloc (.cells #[.int .u32 0, .int .u64 0, .slice none 0 0, .slice none 0 0, .int .i64 0, .bool false] 36), ?_, ⟨_, rfl⟩, TwoS.make1 hS NoRes.res (LRes.res _ _) (LRes.res _ _) hs1 hs2 (by decide)⟩
            clear hS
            go_simp
            try rfl
          try simp only [Act.put, sA, sZ, sS]
          obtain ⟨g7, rfl⟩ := hVv4
          refine Ps.one (k := 3) (d := some 21) rfl rfl (by kernel_rfl) (TurnS.call (V := fun v => ∃ zA zn zc, v = .agg ((senC y).cells zA zn zc)) ?fwg58_120 ?awg58_120 [1] (by kernel_rfl) (by rfl) (fun w9 => ?hwg58_120) (fun L9 m9 w9 hSh hAt hDn hS => ?cwg58_120)) (fun v3 hVv3 => ?rwg58_120)
          case hwg58_120 => go_simp; refine ⟨?_, ?_⟩ <;> rfl
          case cwg58_120 =>
            have hs1 := reach_no hSh (f := 12) (j := 6) (d := 3) (by kernel_rfl) hDn
            have hs2 := reach_no hSh (f := 12) (j := 7) (d := 3) (by kernel_rfl) hDn
            have hT := TwoS.any hS
            have hsz := hT.size
            refine (senderC_any (fun b => b < w2.heap.size) y YA yn yc w9 (Lay.rd_below HRY2.out hT) hyc hym).mono ?_
            rintro e w8 ⟨zA, zn, zc, rfl, hr, h1, h2, q8⟩
            have rd : LB3.rd w8 (Av 4 5 m9) zA zn (senC y).q := Lay.rd_weak (fun b hb _ => (hS.at0 hs1).avoid (.inr hb.1)) hr
            exact ⟨_, rfl, ⟨zA, zn, zc, rfl⟩, TwoS.call hS NoRes.res (LRes.res _ _) (LRes.res _ _) hs1 hs2 (by decide) q8 (fun e => absurd e (by decide)) (fun e => absurd e (by decide)) (fun _ => ⟨senC y, _, rfl, ⟨zA, zn, zc, rfl, h1, h2, rd⟩, rfl⟩)⟩
          try simp only [Act.put, sA, sZ, sS]
          obtain ⟨vA, vn, vc, rfl⟩ := hVv3
          refine Ps.st (i := 6) (d := none) (u := undef) rfl rfl ?ywg58_121 ?rwg58_121
          case ywg58_121 =>
            refine StepS.store [1, 3, 4, 5] (by kernel_rfl) (by rfl) (fun L9 m9 w9 hSh hAt hDn hS => ?_)
            have hs2 := reach_no hSh (f := 12) (j := 7) (d := 6) (by kernel_rfl) hDn
            obtain ⟨p1, p2, hB⟩ := TwoS.ready1 hS hDn (hAt 4 (by simp)).1 (hAt 5 (by simp)).1 (hAt 1 (by simp)).1 (hAt 3 (by simp)).1
            obtain rfl : g7 = p1 := pt_inj ((hAt 4 (by simp)).2.symm.trans hB.e1)
            refine (exec_store_blk (w := w9) 36 (.tmp 7) (.tmp 19) (by rfl) g7 36 #[.int .u32 0, .int .u64 0, .slice none 0 0, .slice none 0 0, .int .i64 0, .bool false] ((recC x).cells uA un uc uB um ud) (by rfl) (by rfl) hB.b1 rfl receiverI (by simp [RC.cells, Value.oneCell'])).imp fun w7 hx => ⟨hx.1, TwoS.set1 hs2 (by decide) (hAt 1 (by simp)).2 (hB.store1 (LRes.res _ _) (LRes.res _ _) hx.2.1 hx.2.2)⟩
          try simp only [Act.put]
          refine Ps.st (i := 7) (d := none) (u := undef) rfl rfl ?ywg58_122 ?rwg58_122
          case ywg58_122 =>
            refine StepS.store [1, 3, 4, 5, 6] (by kernel_rfl) (by rfl) (fun L9 m9 w9 hSh hAt hDn hS => ?_)
            obtain ⟨p1, p2, cc, hk, hB⟩ := TwoS.at1 hS (hAt 6 (by simp)).1 hDn
            obtain rfl : g8 = p2 := pt_inj ((hAt 5 (by simp)).2.symm.trans hB.e2)
            refine (exec_store_blk (w := w9) 29 (.tmp 8) (.tmp 21) (by rfl) g8 29 #[.int .u32 0, .int .u64 0, .slice none 0 0, .int .u64 0, .int .u64 0, .int .i64 0, .bool false] ((senC y).cells vA vn vc) (by rfl) (by rfl) hB.b2 rfl senderI (by simp [SC.cells, Value.oneCell'])).imp fun w7 hx => ⟨hx.1, TwoS.set2 (by decide) (hAt 6 (by simp)).1 hk (hAt 3 (by simp)).2 (hB.store2 (LRes.res _ _) (LRes.res _ _) hx.2.1 hx.2.2)⟩
          try simp only [Act.put]
          refine Ps.done (by kernel_rfl) (fun wg58 hS => ?_) _
          obtain ⟨p1, p2, d1, d2, hk1, hk2, hB⟩ := TwoS.fin hS (by rfl)
          clear hS
          obtain rfl : g7 = p1 := pt_inj hB.e1
          obtain rfl : g8 = p2 := pt_inj hB.e2
          have hk1 : Value.agg ((recC x).cells uA un uc uB um ud) = .agg d1 := hk1
          have hk2 : Value.agg ((senC y).cells vA vn vc) = .agg d2 := hk2
          injection hk1 with hk1
          injection hk2 with hk2
          subst hk1 hk2
          obtain ⟨a1, c1, e1, ⟨A9, n9, c9, B9, m9, d9, e1b, i1, i2, i3, i4, r1, r2⟩, rfl⟩ := hB.r1
          obtain ⟨a2, c2, e2, ⟨A8, n8, c8, e2b, j1, j2, r3⟩, rfl⟩ := hB.r2
          have e1 : Value.agg ((recC x).cells uA un uc uB um ud) = .agg c1 := e1
          have e2 : Value.agg ((senC y).cells vA vn vc) = .agg c2 := e2
          injection e1 with e1
          injection e2 with e2
          subst e1 e2
          simp only [List.cons.injEq, Value.slice.injEq, true_and, and_true] at e1b e2b
          obtain ⟨⟨rfl, rfl, rfl⟩, rfl, rfl, rfl⟩ := e1b
          obtain ⟨rfl, rfl, rfl⟩ := e2b
          refine ⟨g7, g8, uA, un, uc, uB, um, ud, vA, vn, vc, ⟨.agg (x.cells XA xn xc XB xm xd), .agg ((recC x).cells uA un uc uB um ud), .agg (y.cells YA yn yc), .agg ((senC y).cells vA vn vc), ?_⟩, hB.b1, hB.b2, hB.bel, hB.l1, hB.l2, Lay.rd_weak (fun _ _ _ => trivial) r1, i1, i2, Lay.rd_weak (fun _ _ _ => trivial) r2, i3, i4, Lay.rd_weak (fun _ _ _ => trivial) r3, j1, j2⟩
          rfl
      case bwg58_112_4 =>
        refine Turns.mk (i := 4) (d := some 7) rfl rfl (TurnS.value (V := fun v => ∃ g, v = .pointer (some ⟨g, 0, none⟩)) [] (by kernel_rfl) (by rfl) (fun L9 m9 w9 hSh hAt hDn hS => ?cwg58_123)) (fun v4 hVv4 => ?rwg58_123)
        case cwg58_123 =>
          have hs1 := reach_no hSh (f := 12) (j := 6) (d := 4) (by kernel_rfl) hDn
          have hs2 := reach_no hSh (f := 12) (j := 7) (d := 4) (by kernel_rfl) hDn
          refine ⟨.pointer (some ⟨w9.heap.size, 0, none⟩), w9.alloc (.cells #[.int .u32 0, .int .u64 0, .slice none 0 0, .slice none 0 0, .int .i64 0, .bool false] 36), ?_, ⟨_, rfl⟩, TwoS.make1 hS NoRes.res (LRes.res _ _) (LRes.res _ _) hs1 hs2 (by decide)⟩
          clear hS
          go_simp
          try rfl
        try simp only [Act.put, sA, sZ, sS]
        obtain ⟨g7, rfl⟩ := hVv4
        refine Ps.one (k := 1) (d := some 19) rfl rfl (by kernel_rfl) (TurnS.call (V := fun v => ∃ zA zn zc zB zm zd, v = .agg ((recC x).cells zA zn zc zB zm zd)) ?fwg58_124 ?awg58_124 [] (by kernel_rfl) (by rfl) (fun w9 => ?hwg58_124) (fun L9 m9 w9 hSh hAt hDn hS => ?cwg58_124)) (fun v1 hVv1 => ?rwg58_124)
        case hwg58_124 => go_simp; refine ⟨?_, ?_⟩ <;> rfl
        case cwg58_124 =>
          have hs1 := reach_no hSh (f := 12) (j := 6) (d := 1) (by kernel_rfl) hDn
          have hs2 := reach_no hSh (f := 12) (j := 7) (d := 1) (by kernel_rfl) hDn
          have hT := TwoS.any hS
          have hsz := hT.size
          refine (recvC_any (fun b => b < w2.heap.size) (fun b => b < w2.heap.size) x XA xn xc XB xm xd w9 (Lay.rd_below HRA2.out hT) (Lay.rd_below HRB2.out hT) hxc hxm hxd hxe).mono ?_
          rintro e w8 ⟨zA, zn, zc, zB, zm, zd, rfl, hr, hr2, h1, h2, h3, h4, q8⟩
          have rd : LH4.rd w8 (Av 4 5 m9) zA zn (recC x).ahead := Lay.rd_weak (fun b hb _ => (hS.at0 hs1).avoid (hb.elim (fun h => .inl h.1) (fun h => .inr (by omega)))) hr
          have rd2 : LB3.rd w8 (Av 4 5 m9) zB zm (recC x).buf := Lay.rd_weak (fun b hb _ => (hS.at0 hs1).avoid (hb.elim (fun h => .inl h.1) (fun h => .inr (by omega)))) hr2
          exact ⟨_, rfl, ⟨zA, zn, zc, zB, zm, zd, rfl⟩, TwoS.call hS NoRes.res (LRes.res _ _) (LRes.res _ _) hs1 hs2 (by decide) q8 (fun e => absurd e (by decide)) (fun _ => ⟨recC x, _, rfl, ⟨zA, zn, zc, zB, zm, zd, rfl, h1, h2, h3, h4, rd, rd2⟩, rfl⟩) (fun e => absurd e (by decide))⟩
        try simp only [Act.put, sA, sZ, sS]
        obtain ⟨uA, un, uc, uB, um, ud, rfl⟩ := hVv1
        refine Ps.one (k := 3) (d := some 21) rfl rfl (by kernel_rfl) (TurnS.call (V := fun v => ∃ zA zn zc, v = .agg ((senC y).cells zA zn zc)) ?fwg58_125 ?awg58_125 [1] (by kernel_rfl) (by rfl) (fun w9 => ?hwg58_125) (fun L9 m9 w9 hSh hAt hDn hS => ?cwg58_125)) (fun v3 hVv3 => ?rwg58_125)
        case hwg58_125 => go_simp; refine ⟨?_, ?_⟩ <;> rfl
        case cwg58_125 =>
          have hs1 := reach_no hSh (f := 12) (j := 6) (d := 3) (by kernel_rfl) hDn
          have hs2 := reach_no hSh (f := 12) (j := 7) (d := 3) (by kernel_rfl) hDn
          have hT := TwoS.any hS
          have hsz := hT.size
          refine (senderC_any (fun b => b < w2.heap.size) y YA yn yc w9 (Lay.rd_below HRY2.out hT) hyc hym).mono ?_
          rintro e w8 ⟨zA, zn, zc, rfl, hr, h1, h2, q8⟩
          have rd : LB3.rd w8 (Av 4 5 m9) zA zn (senC y).q := Lay.rd_weak (fun b hb _ => (hS.at0 hs1).avoid (.inr hb.1)) hr
          exact ⟨_, rfl, ⟨zA, zn, zc, rfl⟩, TwoS.call hS NoRes.res (LRes.res _ _) (LRes.res _ _) hs1 hs2 (by decide) q8 (fun e => absurd e (by decide)) (fun e => absurd e (by decide)) (fun _ => ⟨senC y, _, rfl, ⟨zA, zn, zc, rfl, h1, h2, rd⟩, rfl⟩)⟩
        try simp only [Act.put, sA, sZ, sS]
        obtain ⟨vA, vn, vc, rfl⟩ := hVv3
        refine Ps.st (i := 6) (d := none) (u := undef) rfl rfl ?ywg58_126 ?rwg58_126
        case ywg58_126 =>
          refine StepS.store [1, 3, 4, 5] (by kernel_rfl) (by rfl) (fun L9 m9 w9 hSh hAt hDn hS => ?_)
          have hs2 := reach_no hSh (f := 12) (j := 7) (d := 6) (by kernel_rfl) hDn
          obtain ⟨p1, p2, hB⟩ := TwoS.ready1 hS hDn (hAt 4 (by simp)).1 (hAt 5 (by simp)).1 (hAt 1 (by simp)).1 (hAt 3 (by simp)).1
          obtain rfl : g7 = p1 := pt_inj ((hAt 4 (by simp)).2.symm.trans hB.e1)
          refine (exec_store_blk (w := w9) 36 (.tmp 7) (.tmp 19) (by rfl) g7 36 #[.int .u32 0, .int .u64 0, .slice none 0 0, .slice none 0 0, .int .i64 0, .bool false] ((recC x).cells uA un uc uB um ud) (by rfl) (by rfl) hB.b1 rfl receiverI (by simp [RC.cells, Value.oneCell'])).imp fun w7 hx => ⟨hx.1, TwoS.set1 hs2 (by decide) (hAt 1 (by simp)).2 (hB.store1 (LRes.res _ _) (LRes.res _ _) hx.2.1 hx.2.2)⟩
        try simp only [Act.put]
        refine Ps.st (i := 7) (d := none) (u := undef) rfl rfl ?ywg58_127 ?rwg58_127
        case ywg58_127 =>
          refine StepS.store [1, 3, 4, 5, 6] (by kernel_rfl) (by rfl) (fun L9 m9 w9 hSh hAt hDn hS => ?_)
          obtain ⟨p1, p2, cc, hk, hB⟩ := TwoS.at1 hS (hAt 6 (by simp)).1 hDn
          obtain rfl : g8 = p2 := pt_inj ((hAt 5 (by simp)).2.symm.trans hB.e2)
          refine (exec_store_blk (w := w9) 29 (.tmp 8) (.tmp 21) (by rfl) g8 29 #[.int .u32 0, .int .u64 0, .slice none 0 0, .int .u64 0, .int .u64 0, .int .i64 0, .bool false] ((senC y).cells vA vn vc) (by rfl) (by rfl) hB.b2 rfl senderI (by simp [SC.cells, Value.oneCell'])).imp fun w7 hx => ⟨hx.1, TwoS.set2 (by decide) (hAt 6 (by simp)).1 hk (hAt 3 (by simp)).2 (hB.store2 (LRes.res _ _) (LRes.res _ _) hx.2.1 hx.2.2)⟩
        try simp only [Act.put]
        refine Ps.done (by kernel_rfl) (fun wg58 hS => ?_) _
        obtain ⟨p1, p2, d1, d2, hk1, hk2, hB⟩ := TwoS.fin hS (by rfl)
        clear hS
        obtain rfl : g7 = p1 := pt_inj hB.e1
        obtain rfl : g8 = p2 := pt_inj hB.e2
        have hk1 : Value.agg ((recC x).cells uA un uc uB um ud) = .agg d1 := hk1
        have hk2 : Value.agg ((senC y).cells vA vn vc) = .agg d2 := hk2
        injection hk1 with hk1
        injection hk2 with hk2
        subst hk1 hk2
        obtain ⟨a1, c1, e1, ⟨A9, n9, c9, B9, m9, d9, e1b, i1, i2, i3, i4, r1, r2⟩, rfl⟩ := hB.r1
        obtain ⟨a2, c2, e2, ⟨A8, n8, c8, e2b, j1, j2, r3⟩, rfl⟩ := hB.r2
        have e1 : Value.agg ((recC x).cells uA un uc uB um ud) = .agg c1 := e1
        have e2 : Value.agg ((senC y).cells vA vn vc) = .agg c2 := e2
        injection e1 with e1
        injection e2 with e2
        subst e1 e2
        simp only [List.cons.injEq, Value.slice.injEq, true_and, and_true] at e1b e2b
        obtain ⟨⟨rfl, rfl, rfl⟩, rfl, rfl, rfl⟩ := e1b
        obtain ⟨rfl, rfl, rfl⟩ := e2b
        refine ⟨g7, g8, uA, un, uc, uB, um, ud, vA, vn, vc, ⟨.agg (x.cells XA xn xc XB xm xd), .agg ((recC x).cells uA un uc uB um ud), .agg (y.cells YA yn yc), .agg ((senC y).cells vA vn vc), ?_⟩, hB.b1, hB.b2, hB.bel, hB.l1, hB.l2, Lay.rd_weak (fun _ _ _ => trivial) r1, i1, i2, Lay.rd_weak (fun _ _ _ => trivial) r2, i3, i4, Lay.rd_weak (fun _ _ _ => trivial) r3, j1, j2⟩
        rfl
  case kpswg58 =>
    intro a' w5 hF
    obtain ⟨g7, g8, uA, un, uc, uB, um, ud, vA, vn, vc, ⟨v18, v19, v20, v21, rfl⟩, h7, h8, hT, hg7, hg8, hra, ha1, ha2, hrb, hb1, hb2, hrs, hs1, hs2⟩ := hF
    have HR5 := Lib.hid h7
    have HS5 := Lib.hid h8
    have HB5 := Lib.hid (bl_ca HB2.out hT)
    have HRA5 := Lib.hid hra
    have HRB5 := Lib.hid hrb
    have HRS5 := Lib.hid hrs
    have HLP5 := Lib.hid (Lay.rd_below HLP2.out hT)
    have hun := Nat.le_trans ha1 ha2
    have hum := Nat.le_trans hb1 hb2
    have hvn := Nat.le_trans hs1 hs2
    clear h7 h8 hT hra hrb hrs HX2 HY2 HRA2 HRB2 HRY2 HLP2 HB2 ha1 ha2 hb1 hb2 hs1 hs2 hg7 hg8
    obtain ⟨rr, hrr⟩ : ∃ rr, rr = recC x := ⟨_, rfl⟩
    obtain ⟨ss, hss⟩ : ∃ ss, ss = senC y := ⟨_, rfl⟩
    rw [← hrr] at HR5 HRA5 HRB5
    rw [← hss] at HS5 HRS5
    have hsb : 0 ≤ ss.base := by rw [hss]; exact hb0
    clear hrr hss hb0
    simp only [Act.put, List.setIfInBounds_toArray, List.set_cons_zero, List.set_cons_succ]
    go_wp2_with fail
    go_loopg [24] m (fun g a wr => ∃ i : Nat, i + g = m ∧ i ≤ 20 ∧ a = .int .i64 i ∧ Below w5.heap.size w5 wr)
    case atStart => exact ⟨0, by omega, by omega, rfl, Below.refl _ _⟩
    case round =>
      obtain ⟨i, hig, hi20, rfl, hbw⟩ := hrel
      have HBW := Lib.hid hbw
      by_cases hlt : i < m
      · have hi1 : (i : Int) < (m : Int) := by omega
        obtain ⟨ad, z, B, k, kc, rfl, hax, hab, sp⟩ := LP7_at (Lay.rd_below HLP5.out hbw) hlt
        have e0 := sp.c0
        have e1 := sp.c1
        have e2 := sp.c2
        have e3 := sp.c3
        have e4 := sp.c4
        have e5 := sp.c5
        have e6 := sp.c6
        have HSP := Lib.hid sp
        have HN6 := Lib.hid (Blk.new wr 47 #[.int .i64 0, .int .u32 0, .int .u64 0, .int .u64 0, .slice none 0 0, .bool false, .int .u64 0])
        clear hax sp hbw
        by_cases hie : i = 20
        · have hi2 : ((i : Int) == 20) = true := by simp; omega
          clear hie
          go_wp2_with (first | (refine wpList_store_blk rfl 47 (.tmp 10) (.tmp 28) rfl wr.heap.size 47 #[.int .i64 0, .int .u32 0, .int .u64 0, .int .u64 0, .slice none 0 0, .bool false, .int .u64 0] (z.cells B k kc) rfl rfl HN6.out rfl packetI (by simp [PK.cells, Value.oneCell']) ?_; intro w7 h7 g7x; have HF7 := Lib.hid h7; have HG7 := Lib.hid g7x; clear h7 g7x))
          go_ret
          exact ⟨rfl, bl_ca HB5.out (bl_gr (bl_al HBW.out (.cells #[.int .i64 0, .int .u32 0, .int .u64 0, .int .u64 0, .slice none 0 0, .bool false, .int .u64 0] 47)) HG7.out (by have := HBW.out.size; omega))⟩
        · have hi2 : ((i : Int) == 20) = false := by simp; omega
          have hi3 : i < 20 := by omega
          clear hie hi20
          go_upto_region 8 with (first | (refine wpList_store_blk rfl 47 (.tmp 10) (.tmp 28) rfl wr.heap.size 47 #[.int .i64 0, .int .u32 0, .int .u64 0, .int .u64 0, .slice none 0 0, .bool false, .int .u64 0] (z.cells B k kc) rfl rfl HN6.out rfl packetI (by simp [PK.cells, Value.oneCell']) ?_; intro w7 h7 g7x; have HF7 := Lib.hid h7; have HG7 := Lib.hid g7x; clear h7 g7x))
          have HBR := Lib.hid (bl_gr (bl_al (Below.refl wr.heap.size wr) (.cells #[.int .i64 0, .int .u32 0, .int .u64 0, .int .u64 0, .slice none 0 0, .bool false, .int .u64 0] 47)) HG7.out (Nat.le_refl _))
          have HB7 := Lib.hid (bl_ca HBW.out HBR.out)
          have HPC := Lib.hid (packetC_any AllB z B k kc w7 (Lay.rd_below HSP.out.rd HBR.out) HSP.out.nc HSP.out.cm)
          have y0 : w7.cell? ⟨wr.heap.size, 0, none⟩ = some (.int .i64 (z.kind)) := HF7.out.cell 0
          have y1 : w7.cell? ⟨wr.heap.size, 1, none⟩ = some (.int .u32 (z.ses)) := HF7.out.cell 1
          have y2 : w7.cell? ⟨wr.heap.size, 2, none⟩ = some (.int .u64 (z.seq)) := HF7.out.cell 2
          have y3 : w7.cell? ⟨wr.heap.size, 3, none⟩ = some (.int .u64 (z.lim)) := HF7.out.cell 3
          have y4 : w7.cell? ⟨wr.heap.size, 4, none⟩ = some (.slice B k kc) := HF7.out.cell 4
          have y5 : w7.cell? ⟨wr.heap.size, 5, none⟩ = some (.bool (z.b.fin)) := HF7.out.cell 5
          have y6 : w7.cell? ⟨wr.heap.size, 6, none⟩ = some (.int .u64 (z.b.cnt)) := HF7.out.cell 6
          clear HSP HN6 HG7 HBR e0 e1 e2 e3 e4 e5 e6
          go_wp2_with fail
          clear y0 y1 y2 y3 y4 y5 y6
          refine HPC.out.mono ?_
          clear HPC HF7
          rintro e w8 ⟨PA, pn, pc, rfl, hr8, hp1, hp2, q8⟩
          have HN8 := Lib.hid (Blk.new w8 47 #[.int .i64 0, .int .u32 0, .int .u64 0, .int .u64 0, .slice none 0 0, .bool false, .int .u64 0])
          have HB8 := Lib.hid (bl_ca HB7.out q8)
          have HR8 := Lib.hid hr8
          have hpn := Nat.le_trans hp1 hp2
          clear hr8 q8 hp1 hp2 HB7
          obtain ⟨pk, hpk⟩ : ∃ pk, pk = pakC z := ⟨_, rfl⟩
          rw [← hpk]
          replace HR8 := Lib.hid (show LR.rd w8 (Since w7 w8) PA pn pk.b.rows from by rw [hpk]; exact HR8.out)
          clear hpk
          go_upto_region 9 with (first | (refine wpList_store_blk rfl 47 (.tmp 11) (.tmp 32) rfl w8.heap.size 47 #[.int .i64 0, .int .u32 0, .int .u64 0, .int .u64 0, .slice none 0 0, .bool false, .int .u64 0] (pk.cells PA pn pc) rfl rfl HN8.out rfl packetI (by simp [PK.cells, Value.oneCell']) ?_; intro w10 h10 g10; have HF10 := Lib.hid h10; have HG10 := Lib.hid g10; clear h10 g10))
          have HQ10 := Lib.hid (bl_gr (bl_al (Below.refl w8.heap.size w8) (.cells #[.int .i64 0, .int .u32 0, .int .u64 0, .int .u64 0, .slice none 0 0, .bool false, .int .u64 0] 47)) HG10.out (Nat.le_refl _))
          have HB10 := Lib.hid (bl_ca HB8.out HQ10.out)
          have HP10 := Lib.hid (Lay.rd_weak (G := AllB) (fun _ _ _ => trivial) (Lay.rd_below HR8.out HQ10.out))
          have HR10 := Lib.hid (HR5.out.ca HB10.out)
          have HS10 := Lib.hid (HS5.out.ca HB10.out)
          clear HN8 HB8 HR8 HG10 HQ10
          obtain ⟨EP, hEP⟩ : ∃ EP : Int, EP = (if checkP pk then 0 else 321) := ⟨_, rfl⟩
          have HEP := Lib.hid hEP
          clear hEP
          refine wp_region_ps0 .text (S := fun _ _ w' => Below w10.heap.size w10 w') (by kernel_rfl) ?spswg1 ?ppswg1
          case spswg1 =>
            exact (Below.refl w10.heap.size w10)
          refine Ps.st (i := 0) (d := some 33) (u := (.agg #[.int .i64 (pk.kind), .int .u32 (pk.ses), .int .u64 (pk.seq), .int .u64 (pk.lim), .slice PA pn pc, .bool (pk.b.fin), .int .u64 (pk.b.cnt)])) rfl rfl ?ywg1_2 ?rwg1_2
          case ywg1_2 =>
            refine StepS.read [] (by kernel_rfl) nP (by rfl) (fun L9 m9 w9 hSh hAt hDn hS => ?_)
            have hT : Below _ _ w9 := hS
            have x0 : w9.cell? ⟨w8.heap.size, 0, none⟩ = some (.int .i64 (pk.kind)) := (HF10.out.ca hT).cell 0
            have x1 : w9.cell? ⟨w8.heap.size, 1, none⟩ = some (.int .u32 (pk.ses)) := (HF10.out.ca hT).cell 1
            have x2 : w9.cell? ⟨w8.heap.size, 2, none⟩ = some (.int .u64 (pk.seq)) := (HF10.out.ca hT).cell 2
            have x3 : w9.cell? ⟨w8.heap.size, 3, none⟩ = some (.int .u64 (pk.lim)) := (HF10.out.ca hT).cell 3
            have x4 : w9.cell? ⟨w8.heap.size, 4, none⟩ = some (.slice PA pn pc) := (HF10.out.ca hT).cell 4
            have x5 : w9.cell? ⟨w8.heap.size, 5, none⟩ = some (.bool (pk.b.fin)) := (HF10.out.ca hT).cell 5
            have x6 : w9.cell? ⟨w8.heap.size, 6, none⟩ = some (.int .u64 (pk.b.cnt)) := (HF10.out.ca hT).cell 6
            clear hT hS
            go_simp
            try rfl
          try simp only [Act.put, sA, sZ, sS]
          refine Ps.st (i := 1) (d := some 34) (u := (.int .i64 (EP))) rfl rfl ?ywg1_3 ?rwg1_3
          case ywg1_3 =>
            refine StepS.call ?fwg1_3 ?awg1_3 [] (by kernel_rfl) (by rfl) (fun w9 => ?hwg1_3) (fun L9 m9 w9 hSh hAt hDn hS => ?cwg1_3)
            case hwg1_3 => go_simp; refine ⟨?_, ?_⟩ <;> rfl
            case cwg1_3 =>
              have hT : Below _ _ w9 := hS
              refine (checkp_any _ pk PA pn pc w9 (Lay.rd_below HP10.out hT) hpn).mono ?_
              rintro e w8 ⟨rfl, q8⟩
              exact ⟨by rw [HEP.out], bl_ca hT q8⟩
          try simp only [Act.put, sA, sZ, sS]
          refine Ps.st (i := 2) (d := some 35) (u := (.bool (decide (EP = 0)))) rfl rfl (by exact StepS.pure nP rfl fun _ => rfl) ?_
          try simp only [Act.put, sA, sZ, sS]
          obtain ⟨bP, hb9⟩ : ∃ zb : Bool, zb = (decide (EP = 0)) := ⟨_, rfl⟩
          have HEbP := Lib.hid hb9
          clear hb9
          refine Ps.st (i := 3) (d := some 36) (u := (.bool (bP))) rfl rfl ?ywg1_5 ?rwg1_5
          case ywg1_5 =>
            refine StepS.pure nP (by rfl) (fun w9 => ?_)
            have e9 : (decide (EP = 0)) = bP := by rw [HEbP.out]
            rw [← e9]
            clear e9
            first | rfl | (go_simp; done) | (go_simp; rfl)
          try simp only [Act.put, sA, sZ, sS]
          refine Ps.st (i := 4) (d := some 37) (u := (cond bP (.pointer (some ⟨w8.heap.size, 1, none⟩)) (undef))) rfl rfl (by cases bP; exact StepS.skip nP rfl; exact StepS.pure nP rfl fun _ => rfl) ?_
          try simp only [Act.put, sA, sZ, sS]
          refine Ps.st (i := 5) (d := some 38) (u := (cond bP (.int .u32 (pk.ses)) (undef))) rfl rfl ?ywg1_7 ?rwg1_7
          case ywg1_7 =>
            cases bP
            · exact StepS.skip nP (by rfl)
            · skip
              refine StepS.read [] (by kernel_rfl) nP (by rfl) (fun L9 m9 w9 hSh hAt hDn hS => ?_)
              have hT : Below _ _ w9 := hS
              have x0 : w9.cell? ⟨w8.heap.size, 1, none⟩ = some (.int .u32 (pk.ses)) := (HF10.out.ca hT).cell 1
              clear hT hS
              go_simp
              try rfl
          try simp only [Act.put, sA, sZ, sS]
          refine Ps.st (i := 6) (d := some 39) (u := (cond bP (.pointer (some ⟨g7, 0, none⟩)) (undef))) rfl rfl (by cases bP; exact StepS.skip nP rfl; exact StepS.pure nP rfl fun _ => rfl) ?_
          try simp only [Act.put, sA, sZ, sS]
          refine Ps.st (i := 7) (d := some 40) (u := (cond bP (.int .u32 (rr.ses)) (undef))) rfl rfl ?ywg1_9 ?rwg1_9
          case ywg1_9 =>
            cases bP
            · exact StepS.skip nP (by rfl)
            · skip
              refine StepS.read [] (by kernel_rfl) nP (by rfl) (fun L9 m9 w9 hSh hAt hDn hS => ?_)
              have hT : Below _ _ w9 := hS
              have x0 : w9.cell? ⟨g7, 0, none⟩ = some (.int .u32 (rr.ses)) := (HR10.out.ca hT).cell 0
              clear hT hS
              go_simp
              try rfl
          try simp only [Act.put, sA, sZ, sS]
          refine Ps.st (i := 8) (d := some 41) (u := (cond bP (.bool (decide (pk.ses = rr.ses))) (undef))) rfl rfl (by cases bP; exact StepS.skip nP rfl; exact StepS.pure nP rfl fun _ => rfl) ?_
          try simp only [Act.put, sA, sZ, sS]
          obtain ⟨bR, hb9⟩ : ∃ zb : Bool, zb = (decide (pk.ses = rr.ses)) := ⟨_, rfl⟩
          have HEbR := Lib.hid hb9
          clear hb9
          refine Ps.st (i := 9) (d := some 42) (u := (cond bP (.bool (bR)) (undef))) rfl rfl ?ywg1_11 ?rwg1_11
          case ywg1_11 =>
            cases bP
            · exact StepS.skip nP (by rfl)
            · skip
              refine StepS.pure nP (by rfl) (fun w9 => ?_)
              have e9 : (decide (pk.ses = rr.ses)) = bR := by rw [HEbR.out]
              rw [← e9]
              clear e9
              first | rfl | (go_simp; done) | (go_simp; rfl)
          try simp only [Act.put, sA, sZ, sS]
          refine Ps.st (i := 10) (d := some 43) (u := (cond bP (cond bR (undef) (.pointer (some ⟨w8.heap.size, 1, none⟩))) (undef))) rfl rfl (by cases bP; exact StepS.skip nP rfl; cases bR; (exact StepS.pure nP rfl fun _ => rfl); exact StepS.skip nP rfl) ?_
          try simp only [Act.put, sA, sZ, sS]
          refine Ps.st (i := 11) (d := some 44) (u := (cond bP (cond bR (undef) (.int .u32 (pk.ses))) (undef))) rfl rfl ?ywg1_13 ?rwg1_13
          case ywg1_13 =>
            cases bP
            · exact StepS.skip nP (by rfl)
            · skip
              cases bR
              · skip
                refine StepS.read [] (by kernel_rfl) nP (by rfl) (fun L9 m9 w9 hSh hAt hDn hS => ?_)
                have hT : Below _ _ w9 := hS
                have x0 : w9.cell? ⟨w8.heap.size, 1, none⟩ = some (.int .u32 (pk.ses)) := (HF10.out.ca hT).cell 1
                clear hT hS
                go_simp
                try rfl
              · exact StepS.skip nP (by rfl)
          try simp only [Act.put, sA, sZ, sS]
          refine Ps.st (i := 12) (d := some 45) (u := (cond bP (cond bR (undef) (.pointer (some ⟨g8, 0, none⟩))) (undef))) rfl rfl (by cases bP; exact StepS.skip nP rfl; cases bR; (exact StepS.pure nP rfl fun _ => rfl); exact StepS.skip nP rfl) ?_
          try simp only [Act.put, sA, sZ, sS]
          refine Ps.st (i := 13) (d := some 46) (u := (cond bP (cond bR (undef) (.int .u32 (ss.ses))) (undef))) rfl rfl ?ywg1_15 ?rwg1_15
          case ywg1_15 =>
            cases bP
            · exact StepS.skip nP (by rfl)
            · skip
              cases bR
              · skip
                refine StepS.read [] (by kernel_rfl) nP (by rfl) (fun L9 m9 w9 hSh hAt hDn hS => ?_)
                have hT : Below _ _ w9 := hS
                have x0 : w9.cell? ⟨g8, 0, none⟩ = some (.int .u32 (ss.ses)) := (HS10.out.ca hT).cell 0
                clear hT hS
                go_simp
                try rfl
              · exact StepS.skip nP (by rfl)
          try simp only [Act.put, sA, sZ, sS]
          refine Ps.st (i := 14) (d := some 47) (u := (cond bP (cond bR (undef) (.bool (decide (pk.ses = ss.ses)))) (undef))) rfl rfl (by cases bP; exact StepS.skip nP rfl; cases bR; (exact StepS.pure nP rfl fun _ => rfl); exact StepS.skip nP rfl) ?_
          try simp only [Act.put, sA, sZ, sS]
          refine Ps.st (i := 15) (d := some 48) (u := (cond bP (.bool (bR || (decide (pk.ses = ss.ses)))) (undef))) rfl rfl ?ywg1_17 ?rwg1_17
          case ywg1_17 =>
            cases bP
            · exact StepS.skip nP (by rfl)
            · skip
              refine StepS.pure nP (by rfl) (fun w9 => ?_)
              cases bR <;> (first | rfl | (go_simp; done) | (go_simp; rfl))
          try simp only [Act.put, sA, sZ, sS]
          obtain ⟨bK, hb9⟩ : ∃ zb : Bool, zb = ((decide (EP = 0)) && ((decide (pk.ses = rr.ses)) || (decide (pk.ses = ss.ses)))) := ⟨_, rfl⟩
          have HEbK := Lib.hid hb9
          clear hb9
          refine Ps.st (i := 16) (d := some 49) (u := (.bool (bK))) rfl rfl ?ywg1_18 ?rwg1_18
          case ywg1_18 =>
            refine StepS.pure nP (by rfl) (fun w9 => ?_)
            have e9 : (bP && (bR || (decide (pk.ses = ss.ses)))) = bK := by rw [HEbK.out, HEbP.out, HEbR.out]
            rw [← e9]
            clear e9
            cases bP <;> (first | rfl | (go_simp; done) | (go_simp; rfl))
          try simp only [Act.put, sA, sZ, sS]
          refine Ps.done (by kernel_rfl) (fun wg1 hS => ?_) _
          try generalize (cond bP (cond bR (undef) (.pointer (some ⟨w8.heap.size, 1, none⟩))) (undef) : Value) = zz19
          try generalize (cond bP (cond bR (undef) (.bool (decide (pk.ses = ss.ses)))) (undef) : Value) = zz20
          try generalize (cond bP (cond bR (undef) (.pointer (some ⟨g8, 0, none⟩))) (undef) : Value) = zz21
          try generalize (cond bP (.bool (bR || (decide (pk.ses = ss.ses)))) (undef) : Value) = zz22
          try generalize (cond bP (.pointer (some ⟨w8.heap.size, 1, none⟩)) (undef) : Value) = zz23
          try generalize (cond bP (cond bR (undef) (.int .u32 (ss.ses))) (undef) : Value) = zz24
          try generalize (cond bP (cond bR (undef) (.int .u32 (pk.ses))) (undef) : Value) = zz25
          try generalize (cond bP (.bool (decide (pk.ses = rr.ses))) (undef) : Value) = zz26
          try generalize (cond bP (.pointer (some ⟨g7, 0, none⟩)) (undef) : Value) = zz27
          try generalize (cond bP (.int .u32 (rr.ses)) (undef) : Value) = zz28
          try generalize (cond bP (.int .u32 (pk.ses)) (undef) : Value) = zz29
          try generalize (cond bP (.bool (bR)) (undef) : Value) = zz30
          have HT11 := Lib.hid (show Below w10.heap.size w10 wg1 from hS)
          clear hS
          obtain ⟨w11, rfl⟩ : ∃ x, x = wg1 := ⟨_, rfl⟩
          have HB11 := Lib.hid (bl_ca HB10.out HT11.out)
          cases bK
          · have HNN := Lib.hid (others_no HEP.out HEbK.out)
            have HF11 := Lib.hid (HF10.out.ca HT11.out)
            have HP11 := Lib.hid (Lay.rd_below HP10.out HT11.out)
            have HR11 := Lib.hid (HR10.out.ca HT11.out)
            have HS11 := Lib.hid (HS10.out.ca HT11.out)
            clear HF10 HP10 HR10 HS10 HT11 HB10 HEP HEbK HEbP HEbR
            have ya0 := HR11.out.cell 0
            have ya1 := HR11.out.cell 1
            have ya2 := HR11.out.cell 2
            have ya3 := HR11.out.cell 3
            have ya4 := HR11.out.cell 4
            have ya5 := HR11.out.cell 5
            have yb0 := HF11.out.cell 0
            have yb1 := HF11.out.cell 1
            have yb2 := HF11.out.cell 2
            have yb3 := HF11.out.cell 3
            have yb4 := HF11.out.cell 4
            have yb5 := HF11.out.cell 5
            have yb6 := HF11.out.cell 6
            go_wp2_with fail
            clear ya0 ya1 ya2 ya3 ya4 ya5 yb0 yb1 yb2 yb3 yb4 yb5 yb6
            refine (hear_no_any rr uA un uc uB um ud pk PA pn pc w11 (Lay.rd_below HRA5.out HB11.out) (Lay.rd_below HRB5.out HB11.out) HP11.out hun hum hpn HNN.out.1).mono ?_
            rintro e w12 ⟨t, tA, tn, tc, tB, tm, td, N, rfl, q12, htr, ht1, htn, ht2, htm⟩
            have HN12 := Lib.hid (Blk.new w12 36 #[.int .u32 0, .int .u64 0, .slice none 0 0, .slice none 0 0, .int .i64 0, .bool false])
            have HTR := Lib.hid htr
            have HT1 := Lib.hid ht1
            have HT2 := Lib.hid ht2
            have HQ12 := Lib.hid q12
            clear htr ht1 ht2 q12
            go_upto_region 11 with (first | (refine wpList_store_blk rfl 36 (.tmp 12) (.tmp 54) rfl w12.heap.size 36 #[.int .u32 0, .int .u64 0, .slice none 0 0, .slice none 0 0, .int .i64 0, .bool false] (t.cells tA tn tc tB tm td) rfl rfl HN12.out rfl receiverI (by simp [RC.cells, Value.oneCell']) ?_; intro w13 h13 g13; have HT13 := Lib.hid h13; have HG13 := Lib.hid g13; clear h13 g13))
            have HQ13 := Lib.hid (bl_gr (bl_al (Below.refl w12.heap.size w12) (.cells #[.int .u32 0, .int .u64 0, .slice none 0 0, .slice none 0 0, .int .i64 0, .bool false] 36)) HG13.out (Nat.le_refl _))
            have HQ1113 := Lib.hid (bl_ca HQ12.out HQ13.out)
            have HB13 := Lib.hid (bl_ca HB11.out HQ1113.out)
            have HF13 := Lib.hid (HF11.out.ca HQ1113.out)
            have HS13 := Lib.hid (HS11.out.ca HQ1113.out)
            have HR13 := Lib.hid (HR11.out.ca HQ1113.out)
            have HP13 := Lib.hid (Lay.rd_below HP11.out HQ1113.out)
            have HT113 := Lib.hid (Lay.rd_below HT1.out HQ13.out)
            have HT213 := Lib.hid (Lay.rd_below HT2.out HQ13.out)
            clear HN12 HG13 HQ12 HQ13 HQ1113 HB11 HF11 HS11 HR11 HP11 HT1 HT2
            have ya0 := HS13.out.cell 0
            have ya1 := HS13.out.cell 1
            have ya2 := HS13.out.cell 2
            have ya3 := HS13.out.cell 3
            have ya4 := HS13.out.cell 4
            have ya5 := HS13.out.cell 5
            have ya6 := HS13.out.cell 6
            have yb0 := HF13.out.cell 0
            have yb1 := HF13.out.cell 1
            have yb2 := HF13.out.cell 2
            have yb3 := HF13.out.cell 3
            have yb4 := HF13.out.cell 4
            have yb5 := HF13.out.cell 5
            have yb6 := HF13.out.cell 6
            go_wp2_with fail
            clear ya0 ya1 ya2 ya3 ya4 ya5 ya6 yb0 yb1 yb2 yb3 yb4 yb5 yb6
            refine (acked_no_any ss vA vn vc pk PA pn pc w13 (Lay.rd_below HRS5.out HB13.out) HP13.out hvn hpn hsb HNN.out.2).mono ?_
            rintro e w14 ⟨t2, zA, zn, zc, N2, rfl, q14, hts, hz1, hzn⟩
            have HN14 := Lib.hid (Blk.new w14 29 #[.int .u32 0, .int .u64 0, .slice none 0 0, .int .u64 0, .int .u64 0, .int .i64 0, .bool false])
            have HTS := Lib.hid hts
            have HZ1 := Lib.hid hz1
            have HQ14 := Lib.hid q14
            clear hts hz1 q14
            go_upto_region 12 with (first | (refine wpList_store_blk rfl 29 (.tmp 14) (.tmp 60) rfl w14.heap.size 29 #[.int .u32 0, .int .u64 0, .slice none 0 0, .int .u64 0, .int .u64 0, .int .i64 0, .bool false] (t2.cells zA zn zc) rfl rfl HN14.out rfl senderI (by simp [SC.cells, Value.oneCell']) ?_; intro w15 h15 g15; have HU15 := Lib.hid h15; have HG15 := Lib.hid g15; clear h15 g15))
            have HQ15 := Lib.hid (bl_gr (bl_al (Below.refl w14.heap.size w14) (.cells #[.int .u32 0, .int .u64 0, .slice none 0 0, .int .u64 0, .int .u64 0, .int .i64 0, .bool false] 29)) HG15.out (Nat.le_refl _))
            have HQ1315 := Lib.hid (bl_ca HQ14.out HQ15.out)
            have HB15 := Lib.hid (bl_ca HB13.out HQ1315.out)
            have HS15 := Lib.hid (HS13.out.ca HQ1315.out)
            have HR15 := Lib.hid (HR13.out.ca HQ1315.out)
            have HT15 := Lib.hid (HT13.out.ca HQ1315.out)
            have HT115 := Lib.hid (Lay.rd_below HT113.out HQ1315.out)
            have HT215 := Lib.hid (Lay.rd_below HT213.out HQ1315.out)
            have HZ15 := Lib.hid (Lay.rd_below HZ1.out HQ15.out)
            have HRA15 := Lib.hid (Lay.rd_below HRA5.out HB15.out)
            have HRB15 := Lib.hid (Lay.rd_below HRB5.out HB15.out)
            have HRS15 := Lib.hid (Lay.rd_below HRS5.out HB15.out)
            clear HN14 HG15 HQ14 HQ15 HQ1315 HB13 HF13 HS13 HR13 HP13 HT13 HT113 HT213 HZ1 HNN
            obtain ⟨eR, heR⟩ : ∃ b, b = eqRC t rr := ⟨_, rfl⟩
            obtain ⟨eS, heS⟩ : ∃ b, b = eqSC t2 ss := ⟨_, rfl⟩
            have HeR := Lib.hid heR
            have HeS := Lib.hid heS
            have HYR := Lib.hid (show N = 0 → eR = true from fun h => by rw [heR]; exact (eqRC_iff _ _).2 (HTR.out h))
            have HYS := Lib.hid (show N2 = 0 → eS = true from fun h => by rw [heS]; exact (eqSC_iff _ _).2 (HTS.out h))
            clear heR heS HTR HTS
            refine wp_region_ps0 .text (S := fun _ _ w' => Below w15.heap.size w15 w') (by kernel_rfl) ?spswg31 ?ppswg31
            case spswg31 =>
              exact (Below.refl w15.heap.size w15)
            refine Ps.st (i := 0) (d := some 62) (u := (.int .i64 (N))) rfl rfl (by exact StepS.pure nP rfl fun _ => rfl) ?_
            try simp only [Act.put, sA, sZ, sS]
            refine Ps.st (i := 1) (d := some 63) (u := (.bool (decide (N = 0)))) rfl rfl (by exact StepS.pure nP rfl fun _ => rfl) ?_
            try simp only [Act.put, sA, sZ, sS]
            obtain ⟨bN, hb9⟩ : ∃ zb : Bool, zb = (decide (N = 0)) := ⟨_, rfl⟩
            have HEbN := Lib.hid hb9
            clear hb9
            refine Ps.st (i := 2) (d := some 64) (u := (.bool (bN))) rfl rfl ?ywg31_34 ?rwg31_34
            case ywg31_34 =>
              refine StepS.pure nP (by rfl) (fun w9 => ?_)
              have e9 : (decide (N = 0)) = bN := by rw [HEbN.out]
              rw [← e9]
              clear e9
              first | rfl | (go_simp; done) | (go_simp; rfl)
            try simp only [Act.put, sA, sZ, sS]
            refine Ps.st (i := 3) (d := some 65) (u := (cond bN (.agg #[.int .u32 (t.ses), .int .u64 (t.next), .slice tA tn tc, .slice tB tm td, .int .i64 (t.room), .bool (t.over)]) (undef))) rfl rfl ?ywg31_35 ?rwg31_35
            case ywg31_35 =>
              cases bN
              · exact StepS.skip nP (by rfl)
              · skip
                refine StepS.read [] (by kernel_rfl) nP (by rfl) (fun L9 m9 w9 hSh hAt hDn hS => ?_)
                have hT : Below _ _ w9 := hS
                have x0 : w9.cell? ⟨w12.heap.size, 0, none⟩ = some (.int .u32 (t.ses)) := (HT15.out.ca hT).cell 0
                have x1 : w9.cell? ⟨w12.heap.size, 1, none⟩ = some (.int .u64 (t.next)) := (HT15.out.ca hT).cell 1
                have x2 : w9.cell? ⟨w12.heap.size, 2, none⟩ = some (.slice tA tn tc) := (HT15.out.ca hT).cell 2
                have x3 : w9.cell? ⟨w12.heap.size, 3, none⟩ = some (.slice tB tm td) := (HT15.out.ca hT).cell 3
                have x4 : w9.cell? ⟨w12.heap.size, 4, none⟩ = some (.int .i64 (t.room)) := (HT15.out.ca hT).cell 4
                have x5 : w9.cell? ⟨w12.heap.size, 5, none⟩ = some (.bool (t.over)) := (HT15.out.ca hT).cell 5
                clear hT hS
                go_simp
                try rfl
            try simp only [Act.put, sA, sZ, sS]
            refine Ps.st (i := 4) (d := some 66) (u := (cond bN (.agg #[.int .u32 (rr.ses), .int .u64 (rr.next), .slice uA un uc, .slice uB um ud, .int .i64 (rr.room), .bool (rr.over)]) (undef))) rfl rfl ?ywg31_36 ?rwg31_36
            case ywg31_36 =>
              cases bN
              · exact StepS.skip nP (by rfl)
              · skip
                refine StepS.read [] (by kernel_rfl) nP (by rfl) (fun L9 m9 w9 hSh hAt hDn hS => ?_)
                have hT : Below _ _ w9 := hS
                have x0 : w9.cell? ⟨g7, 0, none⟩ = some (.int .u32 (rr.ses)) := (HR15.out.ca hT).cell 0
                have x1 : w9.cell? ⟨g7, 1, none⟩ = some (.int .u64 (rr.next)) := (HR15.out.ca hT).cell 1
                have x2 : w9.cell? ⟨g7, 2, none⟩ = some (.slice uA un uc) := (HR15.out.ca hT).cell 2
                have x3 : w9.cell? ⟨g7, 3, none⟩ = some (.slice uB um ud) := (HR15.out.ca hT).cell 3
                have x4 : w9.cell? ⟨g7, 4, none⟩ = some (.int .i64 (rr.room)) := (HR15.out.ca hT).cell 4
                have x5 : w9.cell? ⟨g7, 5, none⟩ = some (.bool (rr.over)) := (HR15.out.ca hT).cell 5
                clear hT hS
                go_simp
                try rfl
            try simp only [Act.put, sA, sZ, sS]
            refine Ps.st (i := 5) (d := some 67) (u := (cond bN (.bool (eR)) (undef))) rfl rfl ?ywg31_37 ?rwg31_37
            case ywg31_37 =>
              cases bN
              · exact StepS.skip nP (by rfl)
              · skip
                refine StepS.call ?fwg31_37 ?awg31_37 [] (by kernel_rfl) (by rfl) (fun w9 => ?hwg31_37) (fun L9 m9 w9 hSh hAt hDn hS => ?cwg31_37)
                case hwg31_37 => go_simp; refine ⟨?_, ?_⟩ <;> rfl
                case cwg31_37 =>
                  have hT : Below _ _ w9 := hS
                  refine (sameR_any AllB AllB t rr tA tn tc tB tm td uA un uc uB um ud w9 (Lay.rd_below HT115.out hT) (Lay.rd_below HT215.out hT) (Lay.rd_below HRA15.out hT) (Lay.rd_below HRB15.out hT) htn htm).mono ?_
                  rintro e w8 ⟨rfl, q8⟩
                  exact ⟨congrArg (fun b => Ending.returned (Value.bool b)) HeR.out.symm, bl_ca hT q8⟩
            try simp only [Act.put, sA, sZ, sS]
            refine Ps.st (i := 6) (d := some 68) (u := (cond bN (.bool (!eR)) (undef))) rfl rfl (by cases bN; exact StepS.skip nP rfl; exact StepS.pure nP rfl fun _ => rfl) ?_
            try simp only [Act.put, sA, sZ, sS]
            refine Ps.st (i := 7) (d := some 69) (u := (.bool (false))) rfl rfl ?ywg31_39 ?rwg31_39
            case ywg31_39 =>
              refine StepS.pure nP (by rfl) (fun w9 => ?_)
              cases bN
              · rfl
              · obtain rfl : eR = true := HYR.out (by simpa using HEbN.out.symm)
                rfl
            try simp only [Act.put, sA, sZ, sS]
            refine Ps.st (i := 8) (d := some 70) (u := (.bool (false))) rfl rfl (by exact StepS.pure nP rfl fun _ => rfl) ?_
            try simp only [Act.put, sA, sZ, sS]
            refine Ps.st (i := 9) (d := some 71) (u := (.int .i64 (N2))) rfl rfl (by exact StepS.pure nP rfl fun _ => rfl) ?_
            try simp only [Act.put, sA, sZ, sS]
            refine Ps.st (i := 10) (d := some 72) (u := (.bool (decide (N2 = 0)))) rfl rfl (by exact StepS.pure nP rfl fun _ => rfl) ?_
            try simp only [Act.put, sA, sZ, sS]
            obtain ⟨bM, hb9⟩ : ∃ zb : Bool, zb = (decide (N2 = 0)) := ⟨_, rfl⟩
            have HEbM := Lib.hid hb9
            clear hb9
            refine Ps.st (i := 11) (d := some 73) (u := (.bool (bM))) rfl rfl ?ywg31_43 ?rwg31_43
            case ywg31_43 =>
              refine StepS.pure nP (by rfl) (fun w9 => ?_)
              have e9 : (decide (N2 = 0)) = bM := by rw [HEbM.out]
              rw [← e9]
              clear e9
              first | rfl | (go_simp; done) | (go_simp; rfl)
            try simp only [Act.put, sA, sZ, sS]
            refine Ps.st (i := 12) (d := some 74) (u := (cond bM (.agg #[.int .u32 (t2.ses), .int .u64 (t2.base), .slice zA zn zc, .int .u64 (t2.sent), .int .u64 (t2.lim), .int .i64 (t2.timer), .bool (t2.ended)]) (undef))) rfl rfl ?ywg31_44 ?rwg31_44
            case ywg31_44 =>
              cases bM
              · exact StepS.skip nP (by rfl)
              · skip
                refine StepS.read [] (by kernel_rfl) nP (by rfl) (fun L9 m9 w9 hSh hAt hDn hS => ?_)
                have hT : Below _ _ w9 := hS
                have x0 : w9.cell? ⟨w14.heap.size, 0, none⟩ = some (.int .u32 (t2.ses)) := (HU15.out.ca hT).cell 0
                have x1 : w9.cell? ⟨w14.heap.size, 1, none⟩ = some (.int .u64 (t2.base)) := (HU15.out.ca hT).cell 1
                have x2 : w9.cell? ⟨w14.heap.size, 2, none⟩ = some (.slice zA zn zc) := (HU15.out.ca hT).cell 2
                have x3 : w9.cell? ⟨w14.heap.size, 3, none⟩ = some (.int .u64 (t2.sent)) := (HU15.out.ca hT).cell 3
                have x4 : w9.cell? ⟨w14.heap.size, 4, none⟩ = some (.int .u64 (t2.lim)) := (HU15.out.ca hT).cell 4
                have x5 : w9.cell? ⟨w14.heap.size, 5, none⟩ = some (.int .i64 (t2.timer)) := (HU15.out.ca hT).cell 5
                have x6 : w9.cell? ⟨w14.heap.size, 6, none⟩ = some (.bool (t2.ended)) := (HU15.out.ca hT).cell 6
                clear hT hS
                go_simp
                try rfl
            try simp only [Act.put, sA, sZ, sS]
            refine Ps.st (i := 13) (d := some 75) (u := (cond bM (.agg #[.int .u32 (ss.ses), .int .u64 (ss.base), .slice vA vn vc, .int .u64 (ss.sent), .int .u64 (ss.lim), .int .i64 (ss.timer), .bool (ss.ended)]) (undef))) rfl rfl ?ywg31_45 ?rwg31_45
            case ywg31_45 =>
              cases bM
              · exact StepS.skip nP (by rfl)
              · skip
                refine StepS.read [] (by kernel_rfl) nP (by rfl) (fun L9 m9 w9 hSh hAt hDn hS => ?_)
                have hT : Below _ _ w9 := hS
                have x0 : w9.cell? ⟨g8, 0, none⟩ = some (.int .u32 (ss.ses)) := (HS15.out.ca hT).cell 0
                have x1 : w9.cell? ⟨g8, 1, none⟩ = some (.int .u64 (ss.base)) := (HS15.out.ca hT).cell 1
                have x2 : w9.cell? ⟨g8, 2, none⟩ = some (.slice vA vn vc) := (HS15.out.ca hT).cell 2
                have x3 : w9.cell? ⟨g8, 3, none⟩ = some (.int .u64 (ss.sent)) := (HS15.out.ca hT).cell 3
                have x4 : w9.cell? ⟨g8, 4, none⟩ = some (.int .u64 (ss.lim)) := (HS15.out.ca hT).cell 4
                have x5 : w9.cell? ⟨g8, 5, none⟩ = some (.int .i64 (ss.timer)) := (HS15.out.ca hT).cell 5
                have x6 : w9.cell? ⟨g8, 6, none⟩ = some (.bool (ss.ended)) := (HS15.out.ca hT).cell 6
                clear hT hS
                go_simp
                try rfl
            try simp only [Act.put, sA, sZ, sS]
            refine Ps.st (i := 14) (d := some 76) (u := (cond bM (.bool (eS)) (undef))) rfl rfl ?ywg31_46 ?rwg31_46
            case ywg31_46 =>
              cases bM
              · exact StepS.skip nP (by rfl)
              · skip
                refine StepS.call ?fwg31_46 ?awg31_46 [] (by kernel_rfl) (by rfl) (fun w9 => ?hwg31_46) (fun L9 m9 w9 hSh hAt hDn hS => ?cwg31_46)
                case hwg31_46 => go_simp; refine ⟨?_, ?_⟩ <;> rfl
                case cwg31_46 =>
                  have hT : Below _ _ w9 := hS
                  refine (sameS_any AllB AllB t2 ss zA vA zn zc vn vc w9 (Lay.rd_below HZ15.out hT) (Lay.rd_below HRS15.out hT) hzn).mono ?_
                  rintro e w8 ⟨rfl, q8⟩
                  exact ⟨congrArg (fun b => Ending.returned (Value.bool b)) HeS.out.symm, bl_ca hT q8⟩
            try simp only [Act.put, sA, sZ, sS]
            refine Ps.st (i := 15) (d := some 77) (u := (cond bM (.bool (!eS)) (undef))) rfl rfl (by cases bM; exact StepS.skip nP rfl; exact StepS.pure nP rfl fun _ => rfl) ?_
            try simp only [Act.put, sA, sZ, sS]
            refine Ps.st (i := 16) (d := some 78) (u := (.bool (false))) rfl rfl ?ywg31_48 ?rwg31_48
            case ywg31_48 =>
              refine StepS.pure nP (by rfl) (fun w9 => ?_)
              cases bM
              · rfl
              · obtain rfl : eS = true := HYS.out (by simpa using HEbM.out.symm)
                rfl
            try simp only [Act.put, sA, sZ, sS]
            refine Ps.st (i := 17) (d := some 79) (u := (.bool (false))) rfl rfl (by exact StepS.pure nP rfl fun _ => rfl) ?_
            try simp only [Act.put, sA, sZ, sS]
            refine Ps.done (by kernel_rfl) (fun wg31 hS => ?_) _
            try generalize (cond bM (.agg #[.int .u32 (ss.ses), .int .u64 (ss.base), .slice vA vn vc, .int .u64 (ss.sent), .int .u64 (ss.lim), .int .i64 (ss.timer), .bool (ss.ended)]) (undef) : Value) = zz50
            try generalize (cond bM (.agg #[.int .u32 (t2.ses), .int .u64 (t2.base), .slice zA zn zc, .int .u64 (t2.sent), .int .u64 (t2.lim), .int .i64 (t2.timer), .bool (t2.ended)]) (undef) : Value) = zz51
            try generalize (cond bN (.agg #[.int .u32 (rr.ses), .int .u64 (rr.next), .slice uA un uc, .slice uB um ud, .int .i64 (rr.room), .bool (rr.over)]) (undef) : Value) = zz52
            try generalize (cond bN (.agg #[.int .u32 (t.ses), .int .u64 (t.next), .slice tA tn tc, .slice tB tm td, .int .i64 (t.room), .bool (t.over)]) (undef) : Value) = zz53
            try generalize (cond bM (.bool (!eS)) (undef) : Value) = zz54
            try generalize (cond bN (.bool (!eR)) (undef) : Value) = zz55
            try generalize (cond bM (.bool (eS)) (undef) : Value) = zz56
            try generalize (cond bN (.bool (eR)) (undef) : Value) = zz57
            have HT16 := Lib.hid (show Below w15.heap.size w15 wg31 from hS)
            clear hS
            have HB16 := Lib.hid (bl_ca HB15.out HT16.out)
            obtain ⟨w16, rfl⟩ : ∃ x, x = wg31 := ⟨_, rfl⟩
            go_wp2
            go_roundg (gk - 1)
            · exact ⟨i + 1, by omega, by omega, by go_num, HB16.out⟩
            · omega
          · go_wp2
            go_roundg (gk - 1)
            · exact ⟨i + 1, by omega, by omega, by go_num, HB11.out⟩
            · omega
      · obtain rfl : i = m := by omega
        have hi1 : (i : Int) ≤ (i : Int) := by omega
        go_wp2
        go_ret
        exact ⟨rfl, bl_ca HB5.out HBW.out⟩
end Go.Proofs.Ytojghgbaiiajfaa
