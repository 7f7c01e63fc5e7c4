/- AstMakes: trees of tags and parts. Conditions: the nodes read so; what the tables hold. -/
import Derived.Test.YtoaggmldekejoaaDoorPkM18
namespace Go.Proofs.YtoaggmldekejoaaDoor
open Go.RowKit
set_option maxRecDepth 100000 in
set_option maxHeartbeats 16000000 in
theorem makes_walk (T : Option Addr) (nt ct : Nat) (tags : List Int) (lf : Nd) (x1 : List Nd) (A1 : Option Addr) (n1 c1 : Nat) (x2 : List Nd) (A2 : Option Addr) (n2 c2 : Nat) (w : World) (ht : LZ.rd w AllB T nt tags) (hnt : nt ≤ 9223372036854775807) (hl : SmP lf.p) (h1 : LN.rd w AllB A1 n1 x1) (hn1 : n1 ≤ 9223372036854775807) (hS1 : ∀ x ∈ x1, SmP x.p) (h2 : LN.rd w AllB A2 n2 x2) (hn2 : n2 ≤ 9223372036854775807) (hS2 : ∀ x ∈ x2, SmP x.p) (hT : Tab w) :
    Calls Tryd.prog 3 #[.slice T nt ct, .agg (Nd.cells lf), .agg #[.slice A1 n1 c1, .slice A2 n2 c2]] w fun e w' => e = .returned (.bool true) ∧ Below w.heap.size w w' := by
  have HQ1 := Lib.hid (bl_al (bl_al (Below.refl w.heap.size w) (.cells (Nd.cells lf) 27)) (.cells #[.slice A1 n1 c1, .slice A2 n2 c2] 31))
  have HB4 := Lib.hid ((Blk.new w 27 (Nd.cells lf)).alloc (.cells #[.slice A1 n1 c1, .slice A2 n2 c2] 31))
  have HB5 := Lib.hid (show Blk ((w.alloc (.cells (Nd.cells lf) 27)).alloc (.cells #[.slice A1 n1 c1, .slice A2 n2 c2] 31)) (w.heap.size + 1) 31 #[.slice A1 n1 c1, .slice A2 n2 c2] from by
    have := Blk.new (w.alloc (.cells (Nd.cells lf) 27)) 31 #[.slice A1 n1 c1, .slice A2 n2 c2]
    rwa [World.size_alloc] at this)
  have HTG := Lib.hid (Lay.rd_below ht HQ1.out)
  have HX1 := Lib.hid (Lay.rd_below h1 HQ1.out)
  have HX2 := Lib.hid (Lay.rd_below h2 HQ1.out)
  have HT := Lib.hid (hT.below HQ1.out)
  have HS1 := Lib.hid hS1
  have HS2 := Lib.hid hS2
  have HSL := Lib.hid hl
  have HNT := Lib.hid hnt
  have HNN := Lib.hid (And.intro hn1 hn2)
  have HX0 := Lib.hid (And.intro h1 h2)
  have HTG0 := Lib.hid (And.intro ht hT)
  clear ht h1 h2 hT hS1 hS2 hl hn1 hn2
  go_enter Tryd.func3, Tryd.ntmps3
  go_wp2_with fail
  obtain ⟨w1, hw1⟩ : ∃ W, W = (w.alloc (.cells (Nd.cells lf) 27)).alloc (.cells #[.slice A1 n1 c1, .slice A2 n2 c2] 31) := ⟨_, rfl⟩
  rw [← hw1] at HQ1 HB4 HB5 HTG HX1 HX2 HT
  rw [show (w.alloc (.cells #[.int .i64 lf.p.tag, .int .i64 lf.l, .int .i64 lf.r, .int .i64 lf.p.k, .int .i64 lf.p.n, .int .u64 lf.p.u, .string lf.p.s, .string lf.p.tb, .string lf.p.nm] 27)).alloc (.cells #[.slice A1 n1 c1, .slice A2 n2 c2] 31) = w1 from hw1.symm]
  clear hw1
  generalize hg5 : w.heap.size + 1 = g5 at *
  obtain ⟨g4, hg4⟩ : ∃ g, g = w.heap.size := ⟨_, rfl⟩
  have l0 : w.heap.size ≤ g4 := by omega
  have l1 : g4 < g5 := by omega
  have l2 : g5 < w1.heap.size := HB5.out.lt
  have HB4 : Hid (Blk w1 g4 27 (Nd.cells lf)) := by rw [hg4]; exact HB4
  rw [← hg4]
  clear hg5 hg4
  refine (wakes_any w1 HT.out).mono ?_
  rintro e w2 ⟨rfl, q2⟩
  have HQ2 := Lib.hid (bl_ca HQ1.out q2)
  have HC4 := Lib.hid (HB4.out.ca q2)
  have HC5 := Lib.hid (HB5.out.ca q2)
  have HX1b := Lib.hid (Lay.rd_below HX1.out q2)
  have HX2b := Lib.hid (Lay.rd_below HX2.out q2)
  have HT2 := Lib.hid (HT.out.below q2)
  have l3 : g5 < w2.heap.size := HC5.out.lt
  clear q2 HB4 HB5
  go_upto_region 3 with fail
  refine wp_region_psF (F := fun a1 a' w' => ∃ g8a h8a A5a n5a c5a A6a n6a c6a, (∃ v25 v26 v27 v28 v29 v30, a' = ((((((((a1.put (some 25) v25).put (some 26) v26).put (some 27) v27).put (some 28) v28).put (some 29) v29).put (some 30) v30).put (some 7) (.pointer (some ⟨g8a, 0, none⟩))).put (some 8) (.pointer (some ⟨h8a, 0, none⟩)))) ∧ Below w2.heap.size w2 w' ∧ (w2.heap.size ≤ g8a ∧ w2.heap.size ≤ h8a ∧ g8a ≠ h8a) ∧ Blk w' g8a 30 #[.slice A5a n5a c5a] ∧ Blk w' h8a 30 #[.slice A6a n6a c6a] ∧ LN.rd w' (fun x => w2.heap.size ≤ x ∧ x ≠ g8a ∧ x ≠ h8a) A5a n5a (shortN x1) ∧ LN.rd w' (fun x => w2.heap.size ≤ x ∧ x ≠ g8a ∧ x ≠ h8a) A6a n6a (shortN x2) ∧ (n5a ≤ c5a ∧ c5a ≤ 9223372036854775807) ∧ n6a ≤ c6a ∧ c6a ≤ 9223372036854775807) (S := W2C (W2KC (shortN x1) (shortN x2) 30 w2)) (by kernel_rfl) ?spswg24 ?ppswg24 ?kpswg24
  case spswg24 =>
    exact W2C.start (by decide) ⟨(Below.refl w2.heap.size w2).drew, (fun g e => by cases e), (fun g e => by cases e)⟩
  case ppswg24 =>
    refine Ps.st (i := 0) (d := some 25) (u := (.pointer (some ⟨g5, 0, none⟩))) rfl rfl (by exact StepS.pure (W2C.pass (by decide) (by decide) (by decide)) rfl fun _ => by first | rfl | (go_simp; done) | (go_simp; rfl)) ?_
    try simp only [Act.put, sA, sZ, sS]
    refine Ps.st (i := 1) (d := some 26) (u := (.agg #[.slice A1 n1 c1])) rfl rfl ?ywg24_26 ?rwg24_26
    case ywg24_26 =>
      refine StepS.read [] (by kernel_rfl) (W2C.pass (by decide) (by decide) (by decide)) (by rfl) (fun L9 m9 w9 hSh hAt hDn hS => ?_)
      have hT : Below w2.heap.size w2 w9 := W2C.any (T := fun w9 => Below w2.heap.size w2 w9) (fun _ _ _ _ _ h => h.1) hS
      have x0 : w9.cell? ⟨g5, 0, none⟩ = some (.slice A1 n1 c1) := (HC5.out.ca hT).cell 0
      clear hT hS
      go_simp
      try rfl
    try simp only [Act.put, sA, sZ, sS]
    refine Ps.st (i := 3) (d := some 28) (u := (.pointer (some ⟨g5, 1, none⟩))) rfl rfl (by exact StepS.pure (W2C.pass (by decide) (by decide) (by decide)) rfl fun _ => by first | rfl | (go_simp; done) | (go_simp; rfl)) ?_
    try simp only [Act.put, sA, sZ, sS]
    refine Ps.st (i := 4) (d := some 29) (u := (.agg #[.slice A2 n2 c2])) rfl rfl ?ywg24_28 ?rwg24_28
    case ywg24_28 =>
      refine StepS.read [] (by kernel_rfl) (W2C.pass (by decide) (by decide) (by decide)) (by rfl) (fun L9 m9 w9 hSh hAt hDn hS => ?_)
      have hT : Below w2.heap.size w2 w9 := W2C.any (T := fun w9 => Below w2.heap.size w2 w9) (fun _ _ _ _ _ h => h.1) hS
      have x0 : w9.cell? ⟨g5, 1, none⟩ = some (.slice A2 n2 c2) := (HC5.out.ca hT).cell 1
      clear hT hS
      go_simp
      try rfl
    try simp only [Act.put, sA, sZ, sS]
    refine Ps.some3 (i := 2) (j := 6) (k := 7) (by kernel_rfl) ?bwg24_29_2 ?bwg24_29_6 ?bwg24_29_7
    case bwg24_29_2 =>
      refine Turns.mk (i := 2) (d := some 27) rfl rfl (TurnS.call (V := fun v => ∃ A n c, v = .agg #[.slice A n c]) ?fwg24_30 ?awg24_30 [] (by kernel_rfl) (by rfl) (fun w9 => ?hwg24_30) (fun L9 m9 w9 hSh hAt hDn hS => ?cwg24_30)) (fun v5a hVv5a => ?rwg24_30)
      case hwg24_30 => go_simp; refine ⟨?_, ?_⟩ <;> rfl
      case cwg24_30 =>
        obtain ⟨al, bl, hB, hset⟩ := W2C.on1 hDn (post_no (post := [5]) hSh hDn (by kernel_rfl) 5 (by simp)) (post_no (post := [8]) hSh hDn (by kernel_rfl) 8 (by simp)) (post_no (post := [9]) hSh hDn (by kernel_rfl) 9 (by simp)) hS
        have hT := hB.1
        refine (short_any AllB x1 A1 n1 c1 w9 (Lay.rd_below HX1b.out hT) HNN.out.1 HS1.out).mono ?_
        rintro e w6 ⟨A, n, c, rfl, hr6, h6a, h6b, q6⟩
        exact ⟨_, rfl, ⟨A, n, c, rfl⟩, hset _ _ (W2KC.c1 hB q6 hr6 h6a h6b)⟩
      try simp only [Act.put, sA, sZ, sS]
      obtain ⟨A5a, n5a, c5a, rfl⟩ := hVv5a
      refine Ps.some3 (i := 5) (j := 6) (k := 7) (by kernel_rfl) ?bwg24_31_5 ?bwg24_31_6 ?bwg24_31_7
      case bwg24_31_5 =>
        refine Turns.mk (i := 5) (d := some 30) rfl rfl (TurnS.call (V := fun v => ∃ A n c, v = .agg #[.slice A n c]) ?fwg24_32 ?awg24_32 [2] (by kernel_rfl) (by rfl) (fun w9 => ?hwg24_32) (fun L9 m9 w9 hSh hAt hDn hS => ?cwg24_32)) (fun v6a hVv6a => ?rwg24_32)
        case hwg24_32 => go_simp; refine ⟨?_, ?_⟩ <;> rfl
        case cwg24_32 =>
          obtain ⟨al, bl, hB, hset⟩ := W2C.on3 (hAt 2 (by simp)).1 hDn (post_no (post := [8]) hSh hDn (by kernel_rfl) 8 (by simp)) (post_no (post := [9]) hSh hDn (by kernel_rfl) 9 (by simp)) hS
          have hT := hB.1
          refine (short_any AllB x2 A2 n2 c2 w9 (Lay.rd_below HX2b.out hT) HNN.out.2 HS2.out).mono ?_
          rintro e w6 ⟨A, n, c, rfl, hr6, h6a, h6b, q6⟩
          exact ⟨_, rfl, ⟨A, n, c, rfl⟩, hset _ _ (W2KC.c3 hB q6 hr6 h6a h6b)⟩
        try simp only [Act.put, sA, sZ, sS]
        obtain ⟨A6a, n6a, c6a, rfl⟩ := hVv6a
        refine Ps.some2 (i := 6) (j := 7) (by kernel_rfl) ?bwg24_33_6 ?bwg24_33_7
        case bwg24_33_6 =>
          refine Turns.mk (i := 6) (d := some 7) rfl rfl (TurnS.value (V := fun v => ∃ g, v = .pointer (some ⟨g, 0, none⟩)) [] (by kernel_rfl) (by rfl) (fun L9 m9 w9 hSh hAt hDn hS => ?cwg24_34)) (fun v6a hVv6a => ?rwg24_34)
          case cwg24_34 =>
            exact ⟨.pointer (some ⟨w9.heap.size, 0, none⟩), w9.alloc (.cells #[.slice none 0 0] 30), (by clear hS; go_simp), ⟨_, rfl⟩, W2C.made4 hDn (post_no (post := [8]) hSh hDn (by kernel_rfl) 8 (by simp)) (post_no (post := [9]) hSh hDn (by kernel_rfl) 9 (by simp)) rfl (W2KC.m4) hS⟩
          try simp only [Act.put, sA, sZ, sS]
          obtain ⟨g8a, rfl⟩ := hVv6a
          refine Ps.one (k := 7) (d := some 8) rfl rfl (by kernel_rfl) (TurnS.value (V := fun v => ∃ g, v = .pointer (some ⟨g, 0, none⟩)) [] (by kernel_rfl) (by rfl) (fun L9 m9 w9 hSh hAt hDn hS => ?cwg24_35)) (fun v7a hVv7a => ?rwg24_35)
          case cwg24_35 =>
            exact ⟨.pointer (some ⟨w9.heap.size, 0, none⟩), w9.alloc (.cells #[.slice none 0 0] 30), (by clear hS; go_simp), ⟨_, rfl⟩, W2C.made5 hDn (post_no (post := [8]) hSh hDn (by kernel_rfl) 8 (by simp)) (post_no (post := [9]) hSh hDn (by kernel_rfl) 9 (by simp)) rfl (W2KC.m5) hS⟩
          try simp only [Act.put, sA, sZ, sS]
          obtain ⟨h8a, rfl⟩ := hVv7a
          refine Ps.st (i := 8) (d := none) (u := undef) rfl rfl ?ywg24_36 ?rwg24_36
          case ywg24_36 =>
            refine StepS.store [2, 5, 6, 7] (by kernel_rfl) (by rfl) (fun L9 m9 w9 hSh hAt hDn hS => ?_)
            obtain ⟨g, k, hm, hk, hB, hset⟩ := W2C.on6 (hAt 2 (by simp)).1 (hAt 5 (by simp)).1 (hAt 6 (by simp)).1 (hAt 7 (by simp)).1 hDn (post_no (post := [9]) hSh hDn (by kernel_rfl) 9 (by simp)) hS
            obtain rfl : g8a = g := by have h9 : Value.pointer (some ⟨g8a, 0, none⟩) = .pointer (some ⟨g, 0, none⟩) := (hAt 6 (by simp)).2.symm.trans hm; simpa using h9
            obtain rfl : h8a = k := by have h9 : Value.pointer (some ⟨h8a, 0, none⟩) = .pointer (some ⟨k, 0, none⟩) := (hAt 7 (by simp)).2.symm.trans hk; simpa using h9
            obtain ⟨_, ⟨hA, hb2⟩, _⟩ := id hB
            have hBk := (hA g8a rfl).2.2
            refine (exec_store_blk (w := w9) 30 (.tmp 7) (.tmp 27) (by rfl) g8a 30 #[.slice none 0 0] #[.slice A5a n5a c5a] (by rfl) (by rfl) hBk rfl treeI (by simp [Value.oneCell'])).imp fun w7 hx => ⟨hx.1, hset _ (W2KC.st6 hB (hAt 2 (by simp)).2 hx.2.1 hx.2.2)⟩
          try simp only [Act.put]
          refine Ps.st (i := 9) (d := none) (u := undef) rfl rfl ?ywg24_37 ?rwg24_37
          case ywg24_37 =>
            refine StepS.store [2, 5, 6, 7, 8] (by kernel_rfl) (by rfl) (fun L9 m9 w9 hSh hAt hDn hS => ?_)
            obtain ⟨g, k, hm, hk, hB, hset⟩ := W2C.on7 (hAt 2 (by simp)).1 (hAt 5 (by simp)).1 (hAt 6 (by simp)).1 (hAt 7 (by simp)).1 (hAt 8 (by simp)).1 hDn  hS
            obtain rfl : g8a = g := by have h9 : Value.pointer (some ⟨g8a, 0, none⟩) = .pointer (some ⟨g, 0, none⟩) := (hAt 6 (by simp)).2.symm.trans hm; simpa using h9
            obtain rfl : h8a = k := by have h9 : Value.pointer (some ⟨h8a, 0, none⟩) = .pointer (some ⟨k, 0, none⟩) := (hAt 7 (by simp)).2.symm.trans hk; simpa using h9
            obtain ⟨_, A1, n1, c1, hA, hb2, _⟩ := id hB
            have hBk := (hb2 h8a rfl).2
            refine (exec_store_blk (w := w9) 30 (.tmp 8) (.tmp 30) (by rfl) h8a 30 #[.slice none 0 0] #[.slice A6a n6a c6a] (by rfl) (by rfl) hBk rfl treeI (by simp [Value.oneCell'])).imp fun w7 hx => ⟨hx.1, hset _ (W2KC.st7 hB (hAt 5 (by simp)).2 hx.2.1 hx.2.2)⟩
          try simp only [Act.put]
          refine Ps.done (by kernel_rfl) (fun wg24 hS => ?_) _
          obtain ⟨g, k, hm, hk, hB⟩ := W2C.fin (by rfl) (by rfl) (by rfl) hS
          clear hS
          obtain rfl : g8a = g := by have h9 : Value.pointer (some ⟨g8a, 0, none⟩) = .pointer (some ⟨g, 0, none⟩) := hm; simpa using h9
          obtain rfl : h8a = k := by have h9 : Value.pointer (some ⟨h8a, 0, none⟩) = .pointer (some ⟨k, 0, none⟩) := hk; simpa using h9
          have hB := W2KC.pair (A := A5a) (n := n5a) (c := c5a) (A' := A6a) (n' := n6a) (c' := c6a) hB rfl rfl
          refine ⟨g8a, h8a, A5a, n5a, c5a, A6a, n6a, c6a, ⟨.pointer (some ⟨g5, 0, none⟩), .agg #[.slice A1 n1 c1], .agg #[.slice A5a n5a c5a], .pointer (some ⟨g5, 1, none⟩), .agg #[.slice A2 n2 c2], .agg #[.slice A6a n6a c6a], ?_⟩, hB⟩
          clear hB hm hk
          rfl
        case bwg24_33_7 =>
          refine Turns.mk (i := 7) (d := some 8) rfl rfl (TurnS.value (V := fun v => ∃ g, v = .pointer (some ⟨g, 0, none⟩)) [] (by kernel_rfl) (by rfl) (fun L9 m9 w9 hSh hAt hDn hS => ?cwg24_38)) (fun v7a hVv7a => ?rwg24_38)
          case cwg24_38 =>
            exact ⟨.pointer (some ⟨w9.heap.size, 0, none⟩), w9.alloc (.cells #[.slice none 0 0] 30), (by clear hS; go_simp), ⟨_, rfl⟩, W2C.made5 hDn (post_no (post := [8]) hSh hDn (by kernel_rfl) 8 (by simp)) (post_no (post := [9]) hSh hDn (by kernel_rfl) 9 (by simp)) rfl (W2KC.m5) hS⟩
          try simp only [Act.put, sA, sZ, sS]
          obtain ⟨h8a, rfl⟩ := hVv7a
          refine Ps.one (k := 6) (d := some 7) rfl rfl (by kernel_rfl) (TurnS.value (V := fun v => ∃ g, v = .pointer (some ⟨g, 0, none⟩)) [] (by kernel_rfl) (by rfl) (fun L9 m9 w9 hSh hAt hDn hS => ?cwg24_39)) (fun v6a hVv6a => ?rwg24_39)
          case cwg24_39 =>
            exact ⟨.pointer (some ⟨w9.heap.size, 0, none⟩), w9.alloc (.cells #[.slice none 0 0] 30), (by clear hS; go_simp), ⟨_, rfl⟩, W2C.made4 hDn (post_no (post := [8]) hSh hDn (by kernel_rfl) 8 (by simp)) (post_no (post := [9]) hSh hDn (by kernel_rfl) 9 (by simp)) rfl (W2KC.m4) hS⟩
          try simp only [Act.put, sA, sZ, sS]
          obtain ⟨g8a, rfl⟩ := hVv6a
          refine Ps.st (i := 8) (d := none) (u := undef) rfl rfl ?ywg24_40 ?rwg24_40
          case ywg24_40 =>
            refine StepS.store [2, 5, 6, 7] (by kernel_rfl) (by rfl) (fun L9 m9 w9 hSh hAt hDn hS => ?_)
            obtain ⟨g, k, hm, hk, hB, hset⟩ := W2C.on6 (hAt 2 (by simp)).1 (hAt 5 (by simp)).1 (hAt 6 (by simp)).1 (hAt 7 (by simp)).1 hDn (post_no (post := [9]) hSh hDn (by kernel_rfl) 9 (by simp)) hS
            obtain rfl : g8a = g := by have h9 : Value.pointer (some ⟨g8a, 0, none⟩) = .pointer (some ⟨g, 0, none⟩) := (hAt 6 (by simp)).2.symm.trans hm; simpa using h9
            obtain rfl : h8a = k := by have h9 : Value.pointer (some ⟨h8a, 0, none⟩) = .pointer (some ⟨k, 0, none⟩) := (hAt 7 (by simp)).2.symm.trans hk; simpa using h9
            obtain ⟨_, ⟨hA, hb2⟩, _⟩ := id hB
            have hBk := (hA g8a rfl).2.2
            refine (exec_store_blk (w := w9) 30 (.tmp 7) (.tmp 27) (by rfl) g8a 30 #[.slice none 0 0] #[.slice A5a n5a c5a] (by rfl) (by rfl) hBk rfl treeI (by simp [Value.oneCell'])).imp fun w7 hx => ⟨hx.1, hset _ (W2KC.st6 hB (hAt 2 (by simp)).2 hx.2.1 hx.2.2)⟩
          try simp only [Act.put]
          refine Ps.st (i := 9) (d := none) (u := undef) rfl rfl ?ywg24_41 ?rwg24_41
          case ywg24_41 =>
            refine StepS.store [2, 5, 6, 7, 8] (by kernel_rfl) (by rfl) (fun L9 m9 w9 hSh hAt hDn hS => ?_)
            obtain ⟨g, k, hm, hk, hB, hset⟩ := W2C.on7 (hAt 2 (by simp)).1 (hAt 5 (by simp)).1 (hAt 6 (by simp)).1 (hAt 7 (by simp)).1 (hAt 8 (by simp)).1 hDn  hS
            obtain rfl : g8a = g := by have h9 : Value.pointer (some ⟨g8a, 0, none⟩) = .pointer (some ⟨g, 0, none⟩) := (hAt 6 (by simp)).2.symm.trans hm; simpa using h9
            obtain rfl : h8a = k := by have h9 : Value.pointer (some ⟨h8a, 0, none⟩) = .pointer (some ⟨k, 0, none⟩) := (hAt 7 (by simp)).2.symm.trans hk; simpa using h9
            obtain ⟨_, A1, n1, c1, hA, hb2, _⟩ := id hB
            have hBk := (hb2 h8a rfl).2
            refine (exec_store_blk (w := w9) 30 (.tmp 8) (.tmp 30) (by rfl) h8a 30 #[.slice none 0 0] #[.slice A6a n6a c6a] (by rfl) (by rfl) hBk rfl treeI (by simp [Value.oneCell'])).imp fun w7 hx => ⟨hx.1, hset _ (W2KC.st7 hB (hAt 5 (by simp)).2 hx.2.1 hx.2.2)⟩
          try simp only [Act.put]
          refine Ps.done (by kernel_rfl) (fun wg24 hS => ?_) _
          obtain ⟨g, k, hm, hk, hB⟩ := W2C.fin (by rfl) (by rfl) (by rfl) hS
          clear hS
          obtain rfl : g8a = g := by have h9 : Value.pointer (some ⟨g8a, 0, none⟩) = .pointer (some ⟨g, 0, none⟩) := hm; simpa using h9
          obtain rfl : h8a = k := by have h9 : Value.pointer (some ⟨h8a, 0, none⟩) = .pointer (some ⟨k, 0, none⟩) := hk; simpa using h9
          have hB := W2KC.pair (A := A5a) (n := n5a) (c := c5a) (A' := A6a) (n' := n6a) (c' := c6a) hB rfl rfl
          refine ⟨g8a, h8a, A5a, n5a, c5a, A6a, n6a, c6a, ⟨.pointer (some ⟨g5, 0, none⟩), .agg #[.slice A1 n1 c1], .agg #[.slice A5a n5a c5a], .pointer (some ⟨g5, 1, none⟩), .agg #[.slice A2 n2 c2], .agg #[.slice A6a n6a c6a], ?_⟩, hB⟩
          clear hB hm hk
          rfl
      case bwg24_31_6 =>
        refine Turns.mk (i := 6) (d := some 7) rfl rfl (TurnS.value (V := fun v => ∃ g, v = .pointer (some ⟨g, 0, none⟩)) [] (by kernel_rfl) (by rfl) (fun L9 m9 w9 hSh hAt hDn hS => ?cwg24_42)) (fun v6a hVv6a => ?rwg24_42)
        case cwg24_42 =>
          exact ⟨.pointer (some ⟨w9.heap.size, 0, none⟩), w9.alloc (.cells #[.slice none 0 0] 30), (by clear hS; go_simp), ⟨_, rfl⟩, W2C.made4 hDn (post_no (post := [8]) hSh hDn (by kernel_rfl) 8 (by simp)) (post_no (post := [9]) hSh hDn (by kernel_rfl) 9 (by simp)) rfl (W2KC.m4) hS⟩
        try simp only [Act.put, sA, sZ, sS]
        obtain ⟨g8a, rfl⟩ := hVv6a
        refine Ps.some2 (i := 5) (j := 7) (by kernel_rfl) ?bwg24_43_5 ?bwg24_43_7
        case bwg24_43_5 =>
          refine Turns.mk (i := 5) (d := some 30) rfl rfl (TurnS.call (V := fun v => ∃ A n c, v = .agg #[.slice A n c]) ?fwg24_44 ?awg24_44 [2] (by kernel_rfl) (by rfl) (fun w9 => ?hwg24_44) (fun L9 m9 w9 hSh hAt hDn hS => ?cwg24_44)) (fun v6a hVv6a => ?rwg24_44)
          case hwg24_44 => go_simp; refine ⟨?_, ?_⟩ <;> rfl
          case cwg24_44 =>
            obtain ⟨al, bl, hB, hset⟩ := W2C.on3 (hAt 2 (by simp)).1 hDn (post_no (post := [8]) hSh hDn (by kernel_rfl) 8 (by simp)) (post_no (post := [9]) hSh hDn (by kernel_rfl) 9 (by simp)) hS
            have hT := hB.1
            refine (short_any AllB x2 A2 n2 c2 w9 (Lay.rd_below HX2b.out hT) HNN.out.2 HS2.out).mono ?_
            rintro e w6 ⟨A, n, c, rfl, hr6, h6a, h6b, q6⟩
            exact ⟨_, rfl, ⟨A, n, c, rfl⟩, hset _ _ (W2KC.c3 hB q6 hr6 h6a h6b)⟩
          try simp only [Act.put, sA, sZ, sS]
          obtain ⟨A6a, n6a, c6a, rfl⟩ := hVv6a
          refine Ps.one (k := 7) (d := some 8) rfl rfl (by kernel_rfl) (TurnS.value (V := fun v => ∃ g, v = .pointer (some ⟨g, 0, none⟩)) [] (by kernel_rfl) (by rfl) (fun L9 m9 w9 hSh hAt hDn hS => ?cwg24_45)) (fun v7a hVv7a => ?rwg24_45)
          case cwg24_45 =>
            exact ⟨.pointer (some ⟨w9.heap.size, 0, none⟩), w9.alloc (.cells #[.slice none 0 0] 30), (by clear hS; go_simp), ⟨_, rfl⟩, W2C.made5 hDn (post_no (post := [8]) hSh hDn (by kernel_rfl) 8 (by simp)) (post_no (post := [9]) hSh hDn (by kernel_rfl) 9 (by simp)) rfl (W2KC.m5) hS⟩
          try simp only [Act.put, sA, sZ, sS]
          obtain ⟨h8a, rfl⟩ := hVv7a
          refine Ps.st (i := 8) (d := none) (u := undef) rfl rfl ?ywg24_46 ?rwg24_46
          case ywg24_46 =>
            refine StepS.store [2, 5, 6, 7] (by kernel_rfl) (by rfl) (fun L9 m9 w9 hSh hAt hDn hS => ?_)
            obtain ⟨g, k, hm, hk, hB, hset⟩ := W2C.on6 (hAt 2 (by simp)).1 (hAt 5 (by simp)).1 (hAt 6 (by simp)).1 (hAt 7 (by simp)).1 hDn (post_no (post := [9]) hSh hDn (by kernel_rfl) 9 (by simp)) hS
            obtain rfl : g8a = g := by have h9 : Value.pointer (some ⟨g8a, 0, none⟩) = .pointer (some ⟨g, 0, none⟩) := (hAt 6 (by simp)).2.symm.trans hm; simpa using h9
            obtain rfl : h8a = k := by have h9 : Value.pointer (some ⟨h8a, 0, none⟩) = .pointer (some ⟨k, 0, none⟩) := (hAt 7 (by simp)).2.symm.trans hk; simpa using h9
            obtain ⟨_, ⟨hA, hb2⟩, _⟩ := id hB
            have hBk := (hA g8a rfl).2.2
            refine (exec_store_blk (w := w9) 30 (.tmp 7) (.tmp 27) (by rfl) g8a 30 #[.slice none 0 0] #[.slice A5a n5a c5a] (by rfl) (by rfl) hBk rfl treeI (by simp [Value.oneCell'])).imp fun w7 hx => ⟨hx.1, hset _ (W2KC.st6 hB (hAt 2 (by simp)).2 hx.2.1 hx.2.2)⟩
          try simp only [Act.put]
          refine Ps.st (i := 9) (d := none) (u := undef) rfl rfl ?ywg24_47 ?rwg24_47
          case ywg24_47 =>
            refine StepS.store [2, 5, 6, 7, 8] (by kernel_rfl) (by rfl) (fun L9 m9 w9 hSh hAt hDn hS => ?_)
            obtain ⟨g, k, hm, hk, hB, hset⟩ := W2C.on7 (hAt 2 (by simp)).1 (hAt 5 (by simp)).1 (hAt 6 (by simp)).1 (hAt 7 (by simp)).1 (hAt 8 (by simp)).1 hDn  hS
            obtain rfl : g8a = g := by have h9 : Value.pointer (some ⟨g8a, 0, none⟩) = .pointer (some ⟨g, 0, none⟩) := (hAt 6 (by simp)).2.symm.trans hm; simpa using h9
            obtain rfl : h8a = k := by have h9 : Value.pointer (some ⟨h8a, 0, none⟩) = .pointer (some ⟨k, 0, none⟩) := (hAt 7 (by simp)).2.symm.trans hk; simpa using h9
            obtain ⟨_, A1, n1, c1, hA, hb2, _⟩ := id hB
            have hBk := (hb2 h8a rfl).2
            refine (exec_store_blk (w := w9) 30 (.tmp 8) (.tmp 30) (by rfl) h8a 30 #[.slice none 0 0] #[.slice A6a n6a c6a] (by rfl) (by rfl) hBk rfl treeI (by simp [Value.oneCell'])).imp fun w7 hx => ⟨hx.1, hset _ (W2KC.st7 hB (hAt 5 (by simp)).2 hx.2.1 hx.2.2)⟩
          try simp only [Act.put]
          refine Ps.done (by kernel_rfl) (fun wg24 hS => ?_) _
          obtain ⟨g, k, hm, hk, hB⟩ := W2C.fin (by rfl) (by rfl) (by rfl) hS
          clear hS
          obtain rfl : g8a = g := by have h9 : Value.pointer (some ⟨g8a, 0, none⟩) = .pointer (some ⟨g, 0, none⟩) := hm; simpa using h9
          obtain rfl : h8a = k := by have h9 : Value.pointer (some ⟨h8a, 0, none⟩) = .pointer (some ⟨k, 0, none⟩) := hk; simpa using h9
          have hB := W2KC.pair (A := A5a) (n := n5a) (c := c5a) (A' := A6a) (n' := n6a) (c' := c6a) hB rfl rfl
          refine ⟨g8a, h8a, A5a, n5a, c5a, A6a, n6a, c6a, ⟨.pointer (some ⟨g5, 0, none⟩), .agg #[.slice A1 n1 c1], .agg #[.slice A5a n5a c5a], .pointer (some ⟨g5, 1, none⟩), .agg #[.slice A2 n2 c2], .agg #[.slice A6a n6a c6a], ?_⟩, hB⟩
          clear hB hm hk
          rfl
        case bwg24_43_7 =>
          refine Turns.mk (i := 7) (d := some 8) rfl rfl (TurnS.value (V := fun v => ∃ g, v = .pointer (some ⟨g, 0, none⟩)) [] (by kernel_rfl) (by rfl) (fun L9 m9 w9 hSh hAt hDn hS => ?cwg24_48)) (fun v7a hVv7a => ?rwg24_48)
          case cwg24_48 =>
            exact ⟨.pointer (some ⟨w9.heap.size, 0, none⟩), w9.alloc (.cells #[.slice none 0 0] 30), (by clear hS; go_simp), ⟨_, rfl⟩, W2C.made5 hDn (post_no (post := [8]) hSh hDn (by kernel_rfl) 8 (by simp)) (post_no (post := [9]) hSh hDn (by kernel_rfl) 9 (by simp)) rfl (W2KC.m5) hS⟩
          try simp only [Act.put, sA, sZ, sS]
          obtain ⟨h8a, rfl⟩ := hVv7a
          refine Ps.one (k := 5) (d := some 30) rfl rfl (by kernel_rfl) (TurnS.call (V := fun v => ∃ A n c, v = .agg #[.slice A n c]) ?fwg24_49 ?awg24_49 [2] (by kernel_rfl) (by rfl) (fun w9 => ?hwg24_49) (fun L9 m9 w9 hSh hAt hDn hS => ?cwg24_49)) (fun v6a hVv6a => ?rwg24_49)
          case hwg24_49 => go_simp; refine ⟨?_, ?_⟩ <;> rfl
          case cwg24_49 =>
            obtain ⟨al, bl, hB, hset⟩ := W2C.on3 (hAt 2 (by simp)).1 hDn (post_no (post := [8]) hSh hDn (by kernel_rfl) 8 (by simp)) (post_no (post := [9]) hSh hDn (by kernel_rfl) 9 (by simp)) hS
            have hT := hB.1
            refine (short_any AllB x2 A2 n2 c2 w9 (Lay.rd_below HX2b.out hT) HNN.out.2 HS2.out).mono ?_
            rintro e w6 ⟨A, n, c, rfl, hr6, h6a, h6b, q6⟩
            exact ⟨_, rfl, ⟨A, n, c, rfl⟩, hset _ _ (W2KC.c3 hB q6 hr6 h6a h6b)⟩
          try simp only [Act.put, sA, sZ, sS]
          obtain ⟨A6a, n6a, c6a, rfl⟩ := hVv6a
          refine Ps.st (i := 8) (d := none) (u := undef) rfl rfl ?ywg24_50 ?rwg24_50
          case ywg24_50 =>
            refine StepS.store [2, 5, 6, 7] (by kernel_rfl) (by rfl) (fun L9 m9 w9 hSh hAt hDn hS => ?_)
            obtain ⟨g, k, hm, hk, hB, hset⟩ := W2C.on6 (hAt 2 (by simp)).1 (hAt 5 (by simp)).1 (hAt 6 (by simp)).1 (hAt 7 (by simp)).1 hDn (post_no (post := [9]) hSh hDn (by kernel_rfl) 9 (by simp)) hS
            obtain rfl : g8a = g := by have h9 : Value.pointer (some ⟨g8a, 0, none⟩) = .pointer (some ⟨g, 0, none⟩) := (hAt 6 (by simp)).2.symm.trans hm; simpa using h9
            obtain rfl : h8a = k := by have h9 : Value.pointer (some ⟨h8a, 0, none⟩) = .pointer (some ⟨k, 0, none⟩) := (hAt 7 (by simp)).2.symm.trans hk; simpa using h9
            obtain ⟨_, ⟨hA, hb2⟩, _⟩ := id hB
            have hBk := (hA g8a rfl).2.2
            refine (exec_store_blk (w := w9) 30 (.tmp 7) (.tmp 27) (by rfl) g8a 30 #[.slice none 0 0] #[.slice A5a n5a c5a] (by rfl) (by rfl) hBk rfl treeI (by simp [Value.oneCell'])).imp fun w7 hx => ⟨hx.1, hset _ (W2KC.st6 hB (hAt 2 (by simp)).2 hx.2.1 hx.2.2)⟩
          try simp only [Act.put]
          refine Ps.st (i := 9) (d := none) (u := undef) rfl rfl ?ywg24_51 ?rwg24_51
          case ywg24_51 =>
            refine StepS.store [2, 5, 6, 7, 8] (by kernel_rfl) (by rfl) (fun L9 m9 w9 hSh hAt hDn hS => ?_)
            obtain ⟨g, k, hm, hk, hB, hset⟩ := W2C.on7 (hAt 2 (by simp)).1 (hAt 5 (by simp)).1 (hAt 6 (by simp)).1 (hAt 7 (by simp)).1 (hAt 8 (by simp)).1 hDn  hS
            obtain rfl : g8a = g := by have h9 : Value.pointer (some ⟨g8a, 0, none⟩) = .pointer (some ⟨g, 0, none⟩) := (hAt 6 (by simp)).2.symm.trans hm; simpa using h9
            obtain rfl : h8a = k := by have h9 : Value.pointer (some ⟨h8a, 0, none⟩) = .pointer (some ⟨k, 0, none⟩) := (hAt 7 (by simp)).2.symm.trans hk; simpa using h9
            obtain ⟨_, A1, n1, c1, hA, hb2, _⟩ := id hB
            have hBk := (hb2 h8a rfl).2
            refine (exec_store_blk (w := w9) 30 (.tmp 8) (.tmp 30) (by rfl) h8a 30 #[.slice none 0 0] #[.slice A6a n6a c6a] (by rfl) (by rfl) hBk rfl treeI (by simp [Value.oneCell'])).imp fun w7 hx => ⟨hx.1, hset _ (W2KC.st7 hB (hAt 5 (by simp)).2 hx.2.1 hx.2.2)⟩
          try simp only [Act.put]
          refine Ps.done (by kernel_rfl) (fun wg24 hS => ?_) _
          obtain ⟨g, k, hm, hk, hB⟩ := W2C.fin (by rfl) (by rfl) (by rfl) hS
          clear hS
          obtain rfl : g8a = g := by have h9 : Value.pointer (some ⟨g8a, 0, none⟩) = .pointer (some ⟨g, 0, none⟩) := hm; simpa using h9
          obtain rfl : h8a = k := by have h9 : Value.pointer (some ⟨h8a, 0, none⟩) = .pointer (some ⟨k, 0, none⟩) := hk; simpa using h9
          have hB := W2KC.pair (A := A5a) (n := n5a) (c := c5a) (A' := A6a) (n' := n6a) (c' := c6a) hB rfl rfl
          refine ⟨g8a, h8a, A5a, n5a, c5a, A6a, n6a, c6a, ⟨.pointer (some ⟨g5, 0, none⟩), .agg #[.slice A1 n1 c1], .agg #[.slice A5a n5a c5a], .pointer (some ⟨g5, 1, none⟩), .agg #[.slice A2 n2 c2], .agg #[.slice A6a n6a c6a], ?_⟩, hB⟩
          clear hB hm hk
          rfl
      case bwg24_31_7 =>
        refine Turns.mk (i := 7) (d := some 8) rfl rfl (TurnS.value (V := fun v => ∃ g, v = .pointer (some ⟨g, 0, none⟩)) [] (by kernel_rfl) (by rfl) (fun L9 m9 w9 hSh hAt hDn hS => ?cwg24_52)) (fun v7a hVv7a => ?rwg24_52)
        case cwg24_52 =>
          exact ⟨.pointer (some ⟨w9.heap.size, 0, none⟩), w9.alloc (.cells #[.slice none 0 0] 30), (by clear hS; go_simp), ⟨_, rfl⟩, W2C.made5 hDn (post_no (post := [8]) hSh hDn (by kernel_rfl) 8 (by simp)) (post_no (post := [9]) hSh hDn (by kernel_rfl) 9 (by simp)) rfl (W2KC.m5) hS⟩
        try simp only [Act.put, sA, sZ, sS]
        obtain ⟨h8a, rfl⟩ := hVv7a
        refine Ps.some2 (i := 5) (j := 6) (by kernel_rfl) ?bwg24_53_5 ?bwg24_53_6
        case bwg24_53_5 =>
          refine Turns.mk (i := 5) (d := some 30) rfl rfl (TurnS.call (V := fun v => ∃ A n c, v = .agg #[.slice A n c]) ?fwg24_54 ?awg24_54 [2] (by kernel_rfl) (by rfl) (fun w9 => ?hwg24_54) (fun L9 m9 w9 hSh hAt hDn hS => ?cwg24_54)) (fun v6a hVv6a => ?rwg24_54)
          case hwg24_54 => go_simp; refine ⟨?_, ?_⟩ <;> rfl
          case cwg24_54 =>
            obtain ⟨al, bl, hB, hset⟩ := W2C.on3 (hAt 2 (by simp)).1 hDn (post_no (post := [8]) hSh hDn (by kernel_rfl) 8 (by simp)) (post_no (post := [9]) hSh hDn (by kernel_rfl) 9 (by simp)) hS
            have hT := hB.1
            refine (short_any AllB x2 A2 n2 c2 w9 (Lay.rd_below HX2b.out hT) HNN.out.2 HS2.out).mono ?_
            rintro e w6 ⟨A, n, c, rfl, hr6, h6a, h6b, q6⟩
            exact ⟨_, rfl, ⟨A, n, c, rfl⟩, hset _ _ (W2KC.c3 hB q6 hr6 h6a h6b)⟩
          try simp only [Act.put, sA, sZ, sS]
          obtain ⟨A6a, n6a, c6a, rfl⟩ := hVv6a
          refine Ps.one (k := 6) (d := some 7) rfl rfl (by kernel_rfl) (TurnS.value (V := fun v => ∃ g, v = .pointer (some ⟨g, 0, none⟩)) [] (by kernel_rfl) (by rfl) (fun L9 m9 w9 hSh hAt hDn hS => ?cwg24_55)) (fun v6a hVv6a => ?rwg24_55)
          case cwg24_55 =>
            exact ⟨.pointer (some ⟨w9.heap.size, 0, none⟩), w9.alloc (.cells #[.slice none 0 0] 30), (by clear hS; go_simp), ⟨_, rfl⟩, W2C.made4 hDn (post_no (post := [8]) hSh hDn (by kernel_rfl) 8 (by simp)) (post_no (post := [9]) hSh hDn (by kernel_rfl) 9 (by simp)) rfl (W2KC.m4) hS⟩
          try simp only [Act.put, sA, sZ, sS]
          obtain ⟨g8a, rfl⟩ := hVv6a
          refine Ps.st (i := 8) (d := none) (u := undef) rfl rfl ?ywg24_56 ?rwg24_56
          case ywg24_56 =>
            refine StepS.store [2, 5, 6, 7] (by kernel_rfl) (by rfl) (fun L9 m9 w9 hSh hAt hDn hS => ?_)
            obtain ⟨g, k, hm, hk, hB, hset⟩ := W2C.on6 (hAt 2 (by simp)).1 (hAt 5 (by simp)).1 (hAt 6 (by simp)).1 (hAt 7 (by simp)).1 hDn (post_no (post := [9]) hSh hDn (by kernel_rfl) 9 (by simp)) hS
            obtain rfl : g8a = g := by have h9 : Value.pointer (some ⟨g8a, 0, none⟩) = .pointer (some ⟨g, 0, none⟩) := (hAt 6 (by simp)).2.symm.trans hm; simpa using h9
            obtain rfl : h8a = k := by have h9 : Value.pointer (some ⟨h8a, 0, none⟩) = .pointer (some ⟨k, 0, none⟩) := (hAt 7 (by simp)).2.symm.trans hk; simpa using h9
            obtain ⟨_, ⟨hA, hb2⟩, _⟩ := id hB
            have hBk := (hA g8a rfl).2.2
            refine (exec_store_blk (w := w9) 30 (.tmp 7) (.tmp 27) (by rfl) g8a 30 #[.slice none 0 0] #[.slice A5a n5a c5a] (by rfl) (by rfl) hBk rfl treeI (by simp [Value.oneCell'])).imp fun w7 hx => ⟨hx.1, hset _ (W2KC.st6 hB (hAt 2 (by simp)).2 hx.2.1 hx.2.2)⟩
          try simp only [Act.put]
          refine Ps.st (i := 9) (d := none) (u := undef) rfl rfl ?ywg24_57 ?rwg24_57
          case ywg24_57 =>
            refine StepS.store [2, 5, 6, 7, 8] (by kernel_rfl) (by rfl) (fun L9 m9 w9 hSh hAt hDn hS => ?_)
            obtain ⟨g, k, hm, hk, hB, hset⟩ := W2C.on7 (hAt 2 (by simp)).1 (hAt 5 (by simp)).1 (hAt 6 (by simp)).1 (hAt 7 (by simp)).1 (hAt 8 (by simp)).1 hDn  hS
            obtain rfl : g8a = g := by have h9 : Value.pointer (some ⟨g8a, 0, none⟩) = .pointer (some ⟨g, 0, none⟩) := (hAt 6 (by simp)).2.symm.trans hm; simpa using h9
            obtain rfl : h8a = k := by have h9 : Value.pointer (some ⟨h8a, 0, none⟩) = .pointer (some ⟨k, 0, none⟩) := (hAt 7 (by simp)).2.symm.trans hk; simpa using h9
            obtain ⟨_, A1, n1, c1, hA, hb2, _⟩ := id hB
            have hBk := (hb2 h8a rfl).2
            refine (exec_store_blk (w := w9) 30 (.tmp 8) (.tmp 30) (by rfl) h8a 30 #[.slice none 0 0] #[.slice A6a n6a c6a] (by rfl) (by rfl) hBk rfl treeI (by simp [Value.oneCell'])).imp fun w7 hx => ⟨hx.1, hset _ (W2KC.st7 hB (hAt 5 (by simp)).2 hx.2.1 hx.2.2)⟩
          try simp only [Act.put]
          refine Ps.done (by kernel_rfl) (fun wg24 hS => ?_) _
          obtain ⟨g, k, hm, hk, hB⟩ := W2C.fin (by rfl) (by rfl) (by rfl) hS
          clear hS
          obtain rfl : g8a = g := by have h9 : Value.pointer (some ⟨g8a, 0, none⟩) = .pointer (some ⟨g, 0, none⟩) := hm; simpa using h9
          obtain rfl : h8a = k := by have h9 : Value.pointer (some ⟨h8a, 0, none⟩) = .pointer (some ⟨k, 0, none⟩) := hk; simpa using h9
          have hB := W2KC.pair (A := A5a) (n := n5a) (c := c5a) (A' := A6a) (n' := n6a) (c' := c6a) hB rfl rfl
          refine ⟨g8a, h8a, A5a, n5a, c5a, A6a, n6a, c6a, ⟨.pointer (some ⟨g5, 0, none⟩), .agg #[.slice A1 n1 c1], .agg #[.slice A5a n5a c5a], .pointer (some ⟨g5, 1, none⟩), .agg #[.slice A2 n2 c2], .agg #[.slice A6a n6a c6a], ?_⟩, hB⟩
          clear hB hm hk
          rfl
        case bwg24_53_6 =>
          refine Turns.mk (i := 6) (d := some 7) rfl rfl (TurnS.value (V := fun v => ∃ g, v = .pointer (some ⟨g, 0, none⟩)) [] (by kernel_rfl) (by rfl) (fun L9 m9 w9 hSh hAt hDn hS => ?cwg24_58)) (fun v6a hVv6a => ?rwg24_58)
          case cwg24_58 =>
            exact ⟨.pointer (some ⟨w9.heap.size, 0, none⟩), w9.alloc (.cells #[.slice none 0 0] 30), (by clear hS; go_simp), ⟨_, rfl⟩, W2C.made4 hDn (post_no (post := [8]) hSh hDn (by kernel_rfl) 8 (by simp)) (post_no (post := [9]) hSh hDn (by kernel_rfl) 9 (by simp)) rfl (W2KC.m4) hS⟩
          try simp only [Act.put, sA, sZ, sS]
          obtain ⟨g8a, rfl⟩ := hVv6a
          refine Ps.one (k := 5) (d := some 30) rfl rfl (by kernel_rfl) (TurnS.call (V := fun v => ∃ A n c, v = .agg #[.slice A n c]) ?fwg24_59 ?awg24_59 [2] (by kernel_rfl) (by rfl) (fun w9 => ?hwg24_59) (fun L9 m9 w9 hSh hAt hDn hS => ?cwg24_59)) (fun v6a hVv6a => ?rwg24_59)
          case hwg24_59 => go_simp; refine ⟨?_, ?_⟩ <;> rfl
          case cwg24_59 =>
            obtain ⟨al, bl, hB, hset⟩ := W2C.on3 (hAt 2 (by simp)).1 hDn (post_no (post := [8]) hSh hDn (by kernel_rfl) 8 (by simp)) (post_no (post := [9]) hSh hDn (by kernel_rfl) 9 (by simp)) hS
            have hT := hB.1
            refine (short_any AllB x2 A2 n2 c2 w9 (Lay.rd_below HX2b.out hT) HNN.out.2 HS2.out).mono ?_
            rintro e w6 ⟨A, n, c, rfl, hr6, h6a, h6b, q6⟩
            exact ⟨_, rfl, ⟨A, n, c, rfl⟩, hset _ _ (W2KC.c3 hB q6 hr6 h6a h6b)⟩
          try simp only [Act.put, sA, sZ, sS]
          obtain ⟨A6a, n6a, c6a, rfl⟩ := hVv6a
          refine Ps.st (i := 8) (d := none) (u := undef) rfl rfl ?ywg24_60 ?rwg24_60
          case ywg24_60 =>
            refine StepS.store [2, 5, 6, 7] (by kernel_rfl) (by rfl) (fun L9 m9 w9 hSh hAt hDn hS => ?_)
            obtain ⟨g, k, hm, hk, hB, hset⟩ := W2C.on6 (hAt 2 (by simp)).1 (hAt 5 (by simp)).1 (hAt 6 (by simp)).1 (hAt 7 (by simp)).1 hDn (post_no (post := [9]) hSh hDn (by kernel_rfl) 9 (by simp)) hS
            obtain rfl : g8a = g := by have h9 : Value.pointer (some ⟨g8a, 0, none⟩) = .pointer (some ⟨g, 0, none⟩) := (hAt 6 (by simp)).2.symm.trans hm; simpa using h9
            obtain rfl : h8a = k := by have h9 : Value.pointer (some ⟨h8a, 0, none⟩) = .pointer (some ⟨k, 0, none⟩) := (hAt 7 (by simp)).2.symm.trans hk; simpa using h9
            obtain ⟨_, ⟨hA, hb2⟩, _⟩ := id hB
            have hBk := (hA g8a rfl).2.2
            refine (exec_store_blk (w := w9) 30 (.tmp 7) (.tmp 27) (by rfl) g8a 30 #[.slice none 0 0] #[.slice A5a n5a c5a] (by rfl) (by rfl) hBk rfl treeI (by simp [Value.oneCell'])).imp fun w7 hx => ⟨hx.1, hset _ (W2KC.st6 hB (hAt 2 (by simp)).2 hx.2.1 hx.2.2)⟩
          try simp only [Act.put]
          refine Ps.st (i := 9) (d := none) (u := undef) rfl rfl ?ywg24_61 ?rwg24_61
          case ywg24_61 =>
            refine StepS.store [2, 5, 6, 7, 8] (by kernel_rfl) (by rfl) (fun L9 m9 w9 hSh hAt hDn hS => ?_)
            obtain ⟨g, k, hm, hk, hB, hset⟩ := W2C.on7 (hAt 2 (by simp)).1 (hAt 5 (by simp)).1 (hAt 6 (by simp)).1 (hAt 7 (by simp)).1 (hAt 8 (by simp)).1 hDn  hS
            obtain rfl : g8a = g := by have h9 : Value.pointer (some ⟨g8a, 0, none⟩) = .pointer (some ⟨g, 0, none⟩) := (hAt 6 (by simp)).2.symm.trans hm; simpa using h9
            obtain rfl : h8a = k := by have h9 : Value.pointer (some ⟨h8a, 0, none⟩) = .pointer (some ⟨k, 0, none⟩) := (hAt 7 (by simp)).2.symm.trans hk; simpa using h9
            obtain ⟨_, A1, n1, c1, hA, hb2, _⟩ := id hB
            have hBk := (hb2 h8a rfl).2
            refine (exec_store_blk (w := w9) 30 (.tmp 8) (.tmp 30) (by rfl) h8a 30 #[.slice none 0 0] #[.slice A6a n6a c6a] (by rfl) (by rfl) hBk rfl treeI (by simp [Value.oneCell'])).imp fun w7 hx => ⟨hx.1, hset _ (W2KC.st7 hB (hAt 5 (by simp)).2 hx.2.1 hx.2.2)⟩
          try simp only [Act.put]
          refine Ps.done (by kernel_rfl) (fun wg24 hS => ?_) _
          obtain ⟨g, k, hm, hk, hB⟩ := W2C.fin (by rfl) (by rfl) (by rfl) hS
          clear hS
          obtain rfl : g8a = g := by have h9 : Value.pointer (some ⟨g8a, 0, none⟩) = .pointer (some ⟨g, 0, none⟩) := hm; simpa using h9
          obtain rfl : h8a = k := by have h9 : Value.pointer (some ⟨h8a, 0, none⟩) = .pointer (some ⟨k, 0, none⟩) := hk; simpa using h9
          have hB := W2KC.pair (A := A5a) (n := n5a) (c := c5a) (A' := A6a) (n' := n6a) (c' := c6a) hB rfl rfl
          refine ⟨g8a, h8a, A5a, n5a, c5a, A6a, n6a, c6a, ⟨.pointer (some ⟨g5, 0, none⟩), .agg #[.slice A1 n1 c1], .agg #[.slice A5a n5a c5a], .pointer (some ⟨g5, 1, none⟩), .agg #[.slice A2 n2 c2], .agg #[.slice A6a n6a c6a], ?_⟩, hB⟩
          clear hB hm hk
          rfl
    case bwg24_29_6 =>
      refine Turns.mk (i := 6) (d := some 7) rfl rfl (TurnS.value (V := fun v => ∃ g, v = .pointer (some ⟨g, 0, none⟩)) [] (by kernel_rfl) (by rfl) (fun L9 m9 w9 hSh hAt hDn hS => ?cwg24_62)) (fun v6a hVv6a => ?rwg24_62)
      case cwg24_62 =>
        exact ⟨.pointer (some ⟨w9.heap.size, 0, none⟩), w9.alloc (.cells #[.slice none 0 0] 30), (by clear hS; go_simp), ⟨_, rfl⟩, W2C.made4 hDn (post_no (post := [8]) hSh hDn (by kernel_rfl) 8 (by simp)) (post_no (post := [9]) hSh hDn (by kernel_rfl) 9 (by simp)) rfl (W2KC.m4) hS⟩
      try simp only [Act.put, sA, sZ, sS]
      obtain ⟨g8a, rfl⟩ := hVv6a
      refine Ps.some2 (i := 2) (j := 7) (by kernel_rfl) ?bwg24_63_2 ?bwg24_63_7
      case bwg24_63_2 =>
        refine Turns.mk (i := 2) (d := some 27) rfl rfl (TurnS.call (V := fun v => ∃ A n c, v = .agg #[.slice A n c]) ?fwg24_64 ?awg24_64 [] (by kernel_rfl) (by rfl) (fun w9 => ?hwg24_64) (fun L9 m9 w9 hSh hAt hDn hS => ?cwg24_64)) (fun v5a hVv5a => ?rwg24_64)
        case hwg24_64 => go_simp; refine ⟨?_, ?_⟩ <;> rfl
        case cwg24_64 =>
          obtain ⟨al, bl, hB, hset⟩ := W2C.on1 hDn (post_no (post := [5]) hSh hDn (by kernel_rfl) 5 (by simp)) (post_no (post := [8]) hSh hDn (by kernel_rfl) 8 (by simp)) (post_no (post := [9]) hSh hDn (by kernel_rfl) 9 (by simp)) hS
          have hT := hB.1
          refine (short_any AllB x1 A1 n1 c1 w9 (Lay.rd_below HX1b.out hT) HNN.out.1 HS1.out).mono ?_
          rintro e w6 ⟨A, n, c, rfl, hr6, h6a, h6b, q6⟩
          exact ⟨_, rfl, ⟨A, n, c, rfl⟩, hset _ _ (W2KC.c1 hB q6 hr6 h6a h6b)⟩
        try simp only [Act.put, sA, sZ, sS]
        obtain ⟨A5a, n5a, c5a, rfl⟩ := hVv5a
        refine Ps.some2 (i := 5) (j := 7) (by kernel_rfl) ?bwg24_65_5 ?bwg24_65_7
        case bwg24_65_5 =>
          refine Turns.mk (i := 5) (d := some 30) rfl rfl (TurnS.call (V := fun v => ∃ A n c, v = .agg #[.slice A n c]) ?fwg24_66 ?awg24_66 [2] (by kernel_rfl) (by rfl) (fun w9 => ?hwg24_66) (fun L9 m9 w9 hSh hAt hDn hS => ?cwg24_66)) (fun v6a hVv6a => ?rwg24_66)
          case hwg24_66 => go_simp; refine ⟨?_, ?_⟩ <;> rfl
          case cwg24_66 =>
            obtain ⟨al, bl, hB, hset⟩ := W2C.on3 (hAt 2 (by simp)).1 hDn (post_no (post := [8]) hSh hDn (by kernel_rfl) 8 (by simp)) (post_no (post := [9]) hSh hDn (by kernel_rfl) 9 (by simp)) hS
            have hT := hB.1
            refine (short_any AllB x2 A2 n2 c2 w9 (Lay.rd_below HX2b.out hT) HNN.out.2 HS2.out).mono ?_
            rintro e w6 ⟨A, n, c, rfl, hr6, h6a, h6b, q6⟩
            exact ⟨_, rfl, ⟨A, n, c, rfl⟩, hset _ _ (W2KC.c3 hB q6 hr6 h6a h6b)⟩
          try simp only [Act.put, sA, sZ, sS]
          obtain ⟨A6a, n6a, c6a, rfl⟩ := hVv6a
          refine Ps.one (k := 7) (d := some 8) rfl rfl (by kernel_rfl) (TurnS.value (V := fun v => ∃ g, v = .pointer (some ⟨g, 0, none⟩)) [] (by kernel_rfl) (by rfl) (fun L9 m9 w9 hSh hAt hDn hS => ?cwg24_67)) (fun v7a hVv7a => ?rwg24_67)
          case cwg24_67 =>
            exact ⟨.pointer (some ⟨w9.heap.size, 0, none⟩), w9.alloc (.cells #[.slice none 0 0] 30), (by clear hS; go_simp), ⟨_, rfl⟩, W2C.made5 hDn (post_no (post := [8]) hSh hDn (by kernel_rfl) 8 (by simp)) (post_no (post := [9]) hSh hDn (by kernel_rfl) 9 (by simp)) rfl (W2KC.m5) hS⟩
          try simp only [Act.put, sA, sZ, sS]
          obtain ⟨h8a, rfl⟩ := hVv7a
          refine Ps.st (i := 8) (d := none) (u := undef) rfl rfl ?ywg24_68 ?rwg24_68
          case ywg24_68 =>
            refine StepS.store [2, 5, 6, 7] (by kernel_rfl) (by rfl) (fun L9 m9 w9 hSh hAt hDn hS => ?_)
            obtain ⟨g, k, hm, hk, hB, hset⟩ := W2C.on6 (hAt 2 (by simp)).1 (hAt 5 (by simp)).1 (hAt 6 (by simp)).1 (hAt 7 (by simp)).1 hDn (post_no (post := [9]) hSh hDn (by kernel_rfl) 9 (by simp)) hS
            obtain rfl : g8a = g := by have h9 : Value.pointer (some ⟨g8a, 0, none⟩) = .pointer (some ⟨g, 0, none⟩) := (hAt 6 (by simp)).2.symm.trans hm; simpa using h9
            obtain rfl : h8a = k := by have h9 : Value.pointer (some ⟨h8a, 0, none⟩) = .pointer (some ⟨k, 0, none⟩) := (hAt 7 (by simp)).2.symm.trans hk; simpa using h9
            obtain ⟨_, ⟨hA, hb2⟩, _⟩ := id hB
            have hBk := (hA g8a rfl).2.2
            refine (exec_store_blk (w := w9) 30 (.tmp 7) (.tmp 27) (by rfl) g8a 30 #[.slice none 0 0] #[.slice A5a n5a c5a] (by rfl) (by rfl) hBk rfl treeI (by simp [Value.oneCell'])).imp fun w7 hx => ⟨hx.1, hset _ (W2KC.st6 hB (hAt 2 (by simp)).2 hx.2.1 hx.2.2)⟩
          try simp only [Act.put]
          refine Ps.st (i := 9) (d := none) (u := undef) rfl rfl ?ywg24_69 ?rwg24_69
          case ywg24_69 =>
            refine StepS.store [2, 5, 6, 7, 8] (by kernel_rfl) (by rfl) (fun L9 m9 w9 hSh hAt hDn hS => ?_)
            obtain ⟨g, k, hm, hk, hB, hset⟩ := W2C.on7 (hAt 2 (by simp)).1 (hAt 5 (by simp)).1 (hAt 6 (by simp)).1 (hAt 7 (by simp)).1 (hAt 8 (by simp)).1 hDn  hS
            obtain rfl : g8a = g := by have h9 : Value.pointer (some ⟨g8a, 0, none⟩) = .pointer (some ⟨g, 0, none⟩) := (hAt 6 (by simp)).2.symm.trans hm; simpa using h9
            obtain rfl : h8a = k := by have h9 : Value.pointer (some ⟨h8a, 0, none⟩) = .pointer (some ⟨k, 0, none⟩) := (hAt 7 (by simp)).2.symm.trans hk; simpa using h9
            obtain ⟨_, A1, n1, c1, hA, hb2, _⟩ := id hB
            have hBk := (hb2 h8a rfl).2
            refine (exec_store_blk (w := w9) 30 (.tmp 8) (.tmp 30) (by rfl) h8a 30 #[.slice none 0 0] #[.slice A6a n6a c6a] (by rfl) (by rfl) hBk rfl treeI (by simp [Value.oneCell'])).imp fun w7 hx => ⟨hx.1, hset _ (W2KC.st7 hB (hAt 5 (by simp)).2 hx.2.1 hx.2.2)⟩
          try simp only [Act.put]
          refine Ps.done (by kernel_rfl) (fun wg24 hS => ?_) _
          obtain ⟨g, k, hm, hk, hB⟩ := W2C.fin (by rfl) (by rfl) (by rfl) hS
          clear hS
          obtain rfl : g8a = g := by have h9 : Value.pointer (some ⟨g8a, 0, none⟩) = .pointer (some ⟨g, 0, none⟩) := hm; simpa using h9
          obtain rfl : h8a = k := by have h9 : Value.pointer (some ⟨h8a, 0, none⟩) = .pointer (some ⟨k, 0, none⟩) := hk; simpa using h9
          have hB := W2KC.pair (A := A5a) (n := n5a) (c := c5a) (A' := A6a) (n' := n6a) (c' := c6a) hB rfl rfl
          refine ⟨g8a, h8a, A5a, n5a, c5a, A6a, n6a, c6a, ⟨.pointer (some ⟨g5, 0, none⟩), .agg #[.slice A1 n1 c1], .agg #[.slice A5a n5a c5a], .pointer (some ⟨g5, 1, none⟩), .agg #[.slice A2 n2 c2], .agg #[.slice A6a n6a c6a], ?_⟩, hB⟩
          clear hB hm hk
          rfl
        case bwg24_65_7 =>
          refine Turns.mk (i := 7) (d := some 8) rfl rfl (TurnS.value (V := fun v => ∃ g, v = .pointer (some ⟨g, 0, none⟩)) [] (by kernel_rfl) (by rfl) (fun L9 m9 w9 hSh hAt hDn hS => ?cwg24_70)) (fun v7a hVv7a => ?rwg24_70)
          case cwg24_70 =>
            exact ⟨.pointer (some ⟨w9.heap.size, 0, none⟩), w9.alloc (.cells #[.slice none 0 0] 30), (by clear hS; go_simp), ⟨_, rfl⟩, W2C.made5 hDn (post_no (post := [8]) hSh hDn (by kernel_rfl) 8 (by simp)) (post_no (post := [9]) hSh hDn (by kernel_rfl) 9 (by simp)) rfl (W2KC.m5) hS⟩
          try simp only [Act.put, sA, sZ, sS]
          obtain ⟨h8a, rfl⟩ := hVv7a
          refine Ps.one (k := 5) (d := some 30) rfl rfl (by kernel_rfl) (TurnS.call (V := fun v => ∃ A n c, v = .agg #[.slice A n c]) ?fwg24_71 ?awg24_71 [2] (by kernel_rfl) (by rfl) (fun w9 => ?hwg24_71) (fun L9 m9 w9 hSh hAt hDn hS => ?cwg24_71)) (fun v6a hVv6a => ?rwg24_71)
          case hwg24_71 => go_simp; refine ⟨?_, ?_⟩ <;> rfl
          case cwg24_71 =>
            obtain ⟨al, bl, hB, hset⟩ := W2C.on3 (hAt 2 (by simp)).1 hDn (post_no (post := [8]) hSh hDn (by kernel_rfl) 8 (by simp)) (post_no (post := [9]) hSh hDn (by kernel_rfl) 9 (by simp)) hS
            have hT := hB.1
            refine (short_any AllB x2 A2 n2 c2 w9 (Lay.rd_below HX2b.out hT) HNN.out.2 HS2.out).mono ?_
            rintro e w6 ⟨A, n, c, rfl, hr6, h6a, h6b, q6⟩
            exact ⟨_, rfl, ⟨A, n, c, rfl⟩, hset _ _ (W2KC.c3 hB q6 hr6 h6a h6b)⟩
          try simp only [Act.put, sA, sZ, sS]
          obtain ⟨A6a, n6a, c6a, rfl⟩ := hVv6a
          refine Ps.st (i := 8) (d := none) (u := undef) rfl rfl ?ywg24_72 ?rwg24_72
          case ywg24_72 =>
            refine StepS.store [2, 5, 6, 7] (by kernel_rfl) (by rfl) (fun L9 m9 w9 hSh hAt hDn hS => ?_)
            obtain ⟨g, k, hm, hk, hB, hset⟩ := W2C.on6 (hAt 2 (by simp)).1 (hAt 5 (by simp)).1 (hAt 6 (by simp)).1 (hAt 7 (by simp)).1 hDn (post_no (post := [9]) hSh hDn (by kernel_rfl) 9 (by simp)) hS
            obtain rfl : g8a = g := by have h9 : Value.pointer (some ⟨g8a, 0, none⟩) = .pointer (some ⟨g, 0, none⟩) := (hAt 6 (by simp)).2.symm.trans hm; simpa using h9
            obtain rfl : h8a = k := by have h9 : Value.pointer (some ⟨h8a, 0, none⟩) = .pointer (some ⟨k, 0, none⟩) := (hAt 7 (by simp)).2.symm.trans hk; simpa using h9
            obtain ⟨_, ⟨hA, hb2⟩, _⟩ := id hB
            have hBk := (hA g8a rfl).2.2
            refine (exec_store_blk (w := w9) 30 (.tmp 7) (.tmp 27) (by rfl) g8a 30 #[.slice none 0 0] #[.slice A5a n5a c5a] (by rfl) (by rfl) hBk rfl treeI (by simp [Value.oneCell'])).imp fun w7 hx => ⟨hx.1, hset _ (W2KC.st6 hB (hAt 2 (by simp)).2 hx.2.1 hx.2.2)⟩
          try simp only [Act.put]
          refine Ps.st (i := 9) (d := none) (u := undef) rfl rfl ?ywg24_73 ?rwg24_73
          case ywg24_73 =>
            refine StepS.store [2, 5, 6, 7, 8] (by kernel_rfl) (by rfl) (fun L9 m9 w9 hSh hAt hDn hS => ?_)
            obtain ⟨g, k, hm, hk, hB, hset⟩ := W2C.on7 (hAt 2 (by simp)).1 (hAt 5 (by simp)).1 (hAt 6 (by simp)).1 (hAt 7 (by simp)).1 (hAt 8 (by simp)).1 hDn  hS
            obtain rfl : g8a = g := by have h9 : Value.pointer (some ⟨g8a, 0, none⟩) = .pointer (some ⟨g, 0, none⟩) := (hAt 6 (by simp)).2.symm.trans hm; simpa using h9
            obtain rfl : h8a = k := by have h9 : Value.pointer (some ⟨h8a, 0, none⟩) = .pointer (some ⟨k, 0, none⟩) := (hAt 7 (by simp)).2.symm.trans hk; simpa using h9
            obtain ⟨_, A1, n1, c1, hA, hb2, _⟩ := id hB
            have hBk := (hb2 h8a rfl).2
            refine (exec_store_blk (w := w9) 30 (.tmp 8) (.tmp 30) (by rfl) h8a 30 #[.slice none 0 0] #[.slice A6a n6a c6a] (by rfl) (by rfl) hBk rfl treeI (by simp [Value.oneCell'])).imp fun w7 hx => ⟨hx.1, hset _ (W2KC.st7 hB (hAt 5 (by simp)).2 hx.2.1 hx.2.2)⟩
          try simp only [Act.put]
          refine Ps.done (by kernel_rfl) (fun wg24 hS => ?_) _
          obtain ⟨g, k, hm, hk, hB⟩ := W2C.fin (by rfl) (by rfl) (by rfl) hS
          clear hS
          obtain rfl : g8a = g := by have h9 : Value.pointer (some ⟨g8a, 0, none⟩) = .pointer (some ⟨g, 0, none⟩) := hm; simpa using h9
          obtain rfl : h8a = k := by have h9 : Value.pointer (some ⟨h8a, 0, none⟩) = .pointer (some ⟨k, 0, none⟩) := hk; simpa using h9
          have hB := W2KC.pair (A := A5a) (n := n5a) (c := c5a) (A' := A6a) (n' := n6a) (c' := c6a) hB rfl rfl
          refine ⟨g8a, h8a, A5a, n5a, c5a, A6a, n6a, c6a, ⟨.pointer (some ⟨g5, 0, none⟩), .agg #[.slice A1 n1 c1], .agg #[.slice A5a n5a c5a], .pointer (some ⟨g5, 1, none⟩), .agg #[.slice A2 n2 c2], .agg #[.slice A6a n6a c6a], ?_⟩, hB⟩
          clear hB hm hk
          rfl
      case bwg24_63_7 =>
        refine Turns.mk (i := 7) (d := some 8) rfl rfl (TurnS.value (V := fun v => ∃ g, v = .pointer (some ⟨g, 0, none⟩)) [] (by kernel_rfl) (by rfl) (fun L9 m9 w9 hSh hAt hDn hS => ?cwg24_74)) (fun v7a hVv7a => ?rwg24_74)
        case cwg24_74 =>
          exact ⟨.pointer (some ⟨w9.heap.size, 0, none⟩), w9.alloc (.cells #[.slice none 0 0] 30), (by clear hS; go_simp), ⟨_, rfl⟩, W2C.made5 hDn (post_no (post := [8]) hSh hDn (by kernel_rfl) 8 (by simp)) (post_no (post := [9]) hSh hDn (by kernel_rfl) 9 (by simp)) rfl (W2KC.m5) hS⟩
        try simp only [Act.put, sA, sZ, sS]
        obtain ⟨h8a, rfl⟩ := hVv7a
        refine Ps.one (k := 2) (d := some 27) rfl rfl (by kernel_rfl) (TurnS.call (V := fun v => ∃ A n c, v = .agg #[.slice A n c]) ?fwg24_75 ?awg24_75 [] (by kernel_rfl) (by rfl) (fun w9 => ?hwg24_75) (fun L9 m9 w9 hSh hAt hDn hS => ?cwg24_75)) (fun v5a hVv5a => ?rwg24_75)
        case hwg24_75 => go_simp; refine ⟨?_, ?_⟩ <;> rfl
        case cwg24_75 =>
          obtain ⟨al, bl, hB, hset⟩ := W2C.on1 hDn (post_no (post := [5]) hSh hDn (by kernel_rfl) 5 (by simp)) (post_no (post := [8]) hSh hDn (by kernel_rfl) 8 (by simp)) (post_no (post := [9]) hSh hDn (by kernel_rfl) 9 (by simp)) hS
          have hT := hB.1
          refine (short_any AllB x1 A1 n1 c1 w9 (Lay.rd_below HX1b.out hT) HNN.out.1 HS1.out).mono ?_
          rintro e w6 ⟨A, n, c, rfl, hr6, h6a, h6b, q6⟩
          exact ⟨_, rfl, ⟨A, n, c, rfl⟩, hset _ _ (W2KC.c1 hB q6 hr6 h6a h6b)⟩
        try simp only [Act.put, sA, sZ, sS]
        obtain ⟨A5a, n5a, c5a, rfl⟩ := hVv5a
        refine Ps.one (k := 5) (d := some 30) rfl rfl (by kernel_rfl) (TurnS.call (V := fun v => ∃ A n c, v = .agg #[.slice A n c]) ?fwg24_76 ?awg24_76 [2] (by kernel_rfl) (by rfl) (fun w9 => ?hwg24_76) (fun L9 m9 w9 hSh hAt hDn hS => ?cwg24_76)) (fun v6a hVv6a => ?rwg24_76)
        case hwg24_76 => go_simp; refine ⟨?_, ?_⟩ <;> rfl
        case cwg24_76 =>
          obtain ⟨al, bl, hB, hset⟩ := W2C.on3 (hAt 2 (by simp)).1 hDn (post_no (post := [8]) hSh hDn (by kernel_rfl) 8 (by simp)) (post_no (post := [9]) hSh hDn (by kernel_rfl) 9 (by simp)) hS
          have hT := hB.1
          refine (short_any AllB x2 A2 n2 c2 w9 (Lay.rd_below HX2b.out hT) HNN.out.2 HS2.out).mono ?_
          rintro e w6 ⟨A, n, c, rfl, hr6, h6a, h6b, q6⟩
          exact ⟨_, rfl, ⟨A, n, c, rfl⟩, hset _ _ (W2KC.c3 hB q6 hr6 h6a h6b)⟩
        try simp only [Act.put, sA, sZ, sS]
        obtain ⟨A6a, n6a, c6a, rfl⟩ := hVv6a
        refine Ps.st (i := 8) (d := none) (u := undef) rfl rfl ?ywg24_77 ?rwg24_77
        case ywg24_77 =>
          refine StepS.store [2, 5, 6, 7] (by kernel_rfl) (by rfl) (fun L9 m9 w9 hSh hAt hDn hS => ?_)
          obtain ⟨g, k, hm, hk, hB, hset⟩ := W2C.on6 (hAt 2 (by simp)).1 (hAt 5 (by simp)).1 (hAt 6 (by simp)).1 (hAt 7 (by simp)).1 hDn (post_no (post := [9]) hSh hDn (by kernel_rfl) 9 (by simp)) hS
          obtain rfl : g8a = g := by have h9 : Value.pointer (some ⟨g8a, 0, none⟩) = .pointer (some ⟨g, 0, none⟩) := (hAt 6 (by simp)).2.symm.trans hm; simpa using h9
          obtain rfl : h8a = k := by have h9 : Value.pointer (some ⟨h8a, 0, none⟩) = .pointer (some ⟨k, 0, none⟩) := (hAt 7 (by simp)).2.symm.trans hk; simpa using h9
          obtain ⟨_, ⟨hA, hb2⟩, _⟩ := id hB
          have hBk := (hA g8a rfl).2.2
          refine (exec_store_blk (w := w9) 30 (.tmp 7) (.tmp 27) (by rfl) g8a 30 #[.slice none 0 0] #[.slice A5a n5a c5a] (by rfl) (by rfl) hBk rfl treeI (by simp [Value.oneCell'])).imp fun w7 hx => ⟨hx.1, hset _ (W2KC.st6 hB (hAt 2 (by simp)).2 hx.2.1 hx.2.2)⟩
        try simp only [Act.put]
        refine Ps.st (i := 9) (d := none) (u := undef) rfl rfl ?ywg24_78 ?rwg24_78
        case ywg24_78 =>
          refine StepS.store [2, 5, 6, 7, 8] (by kernel_rfl) (by rfl) (fun L9 m9 w9 hSh hAt hDn hS => ?_)
          obtain ⟨g, k, hm, hk, hB, hset⟩ := W2C.on7 (hAt 2 (by simp)).1 (hAt 5 (by simp)).1 (hAt 6 (by simp)).1 (hAt 7 (by simp)).1 (hAt 8 (by simp)).1 hDn  hS
          obtain rfl : g8a = g := by have h9 : Value.pointer (some ⟨g8a, 0, none⟩) = .pointer (some ⟨g, 0, none⟩) := (hAt 6 (by simp)).2.symm.trans hm; simpa using h9
          obtain rfl : h8a = k := by have h9 : Value.pointer (some ⟨h8a, 0, none⟩) = .pointer (some ⟨k, 0, none⟩) := (hAt 7 (by simp)).2.symm.trans hk; simpa using h9
          obtain ⟨_, A1, n1, c1, hA, hb2, _⟩ := id hB
          have hBk := (hb2 h8a rfl).2
          refine (exec_store_blk (w := w9) 30 (.tmp 8) (.tmp 30) (by rfl) h8a 30 #[.slice none 0 0] #[.slice A6a n6a c6a] (by rfl) (by rfl) hBk rfl treeI (by simp [Value.oneCell'])).imp fun w7 hx => ⟨hx.1, hset _ (W2KC.st7 hB (hAt 5 (by simp)).2 hx.2.1 hx.2.2)⟩
        try simp only [Act.put]
        refine Ps.done (by kernel_rfl) (fun wg24 hS => ?_) _
        obtain ⟨g, k, hm, hk, hB⟩ := W2C.fin (by rfl) (by rfl) (by rfl) hS
        clear hS
        obtain rfl : g8a = g := by have h9 : Value.pointer (some ⟨g8a, 0, none⟩) = .pointer (some ⟨g, 0, none⟩) := hm; simpa using h9
        obtain rfl : h8a = k := by have h9 : Value.pointer (some ⟨h8a, 0, none⟩) = .pointer (some ⟨k, 0, none⟩) := hk; simpa using h9
        have hB := W2KC.pair (A := A5a) (n := n5a) (c := c5a) (A' := A6a) (n' := n6a) (c' := c6a) hB rfl rfl
        refine ⟨g8a, h8a, A5a, n5a, c5a, A6a, n6a, c6a, ⟨.pointer (some ⟨g5, 0, none⟩), .agg #[.slice A1 n1 c1], .agg #[.slice A5a n5a c5a], .pointer (some ⟨g5, 1, none⟩), .agg #[.slice A2 n2 c2], .agg #[.slice A6a n6a c6a], ?_⟩, hB⟩
        clear hB hm hk
        rfl
    case bwg24_29_7 =>
      refine Turns.mk (i := 7) (d := some 8) rfl rfl (TurnS.value (V := fun v => ∃ g, v = .pointer (some ⟨g, 0, none⟩)) [] (by kernel_rfl) (by rfl) (fun L9 m9 w9 hSh hAt hDn hS => ?cwg24_79)) (fun v7a hVv7a => ?rwg24_79)
      case cwg24_79 =>
        exact ⟨.pointer (some ⟨w9.heap.size, 0, none⟩), w9.alloc (.cells #[.slice none 0 0] 30), (by clear hS; go_simp), ⟨_, rfl⟩, W2C.made5 hDn (post_no (post := [8]) hSh hDn (by kernel_rfl) 8 (by simp)) (post_no (post := [9]) hSh hDn (by kernel_rfl) 9 (by simp)) rfl (W2KC.m5) hS⟩
      try simp only [Act.put, sA, sZ, sS]
      obtain ⟨h8a, rfl⟩ := hVv7a
      refine Ps.some2 (i := 2) (j := 6) (by kernel_rfl) ?bwg24_80_2 ?bwg24_80_6
      case bwg24_80_2 =>
        refine Turns.mk (i := 2) (d := some 27) rfl rfl (TurnS.call (V := fun v => ∃ A n c, v = .agg #[.slice A n c]) ?fwg24_81 ?awg24_81 [] (by kernel_rfl) (by rfl) (fun w9 => ?hwg24_81) (fun L9 m9 w9 hSh hAt hDn hS => ?cwg24_81)) (fun v5a hVv5a => ?rwg24_81)
        case hwg24_81 => go_simp; refine ⟨?_, ?_⟩ <;> rfl
        case cwg24_81 =>
          obtain ⟨al, bl, hB, hset⟩ := W2C.on1 hDn (post_no (post := [5]) hSh hDn (by kernel_rfl) 5 (by simp)) (post_no (post := [8]) hSh hDn (by kernel_rfl) 8 (by simp)) (post_no (post := [9]) hSh hDn (by kernel_rfl) 9 (by simp)) hS
          have hT := hB.1
          refine (short_any AllB x1 A1 n1 c1 w9 (Lay.rd_below HX1b.out hT) HNN.out.1 HS1.out).mono ?_
          rintro e w6 ⟨A, n, c, rfl, hr6, h6a, h6b, q6⟩
          exact ⟨_, rfl, ⟨A, n, c, rfl⟩, hset _ _ (W2KC.c1 hB q6 hr6 h6a h6b)⟩
        try simp only [Act.put, sA, sZ, sS]
        obtain ⟨A5a, n5a, c5a, rfl⟩ := hVv5a
        refine Ps.some2 (i := 5) (j := 6) (by kernel_rfl) ?bwg24_82_5 ?bwg24_82_6
        case bwg24_82_5 =>
          refine Turns.mk (i := 5) (d := some 30) rfl rfl (TurnS.call (V := fun v => ∃ A n c, v = .agg #[.slice A n c]) ?fwg24_83 ?awg24_83 [2] (by kernel_rfl) (by rfl) (fun w9 => ?hwg24_83) (fun L9 m9 w9 hSh hAt hDn hS => ?cwg24_83)) (fun v6a hVv6a => ?rwg24_83)
          case hwg24_83 => go_simp; refine ⟨?_, ?_⟩ <;> rfl
          case cwg24_83 =>
            obtain ⟨al, bl, hB, hset⟩ := W2C.on3 (hAt 2 (by simp)).1 hDn (post_no (post := [8]) hSh hDn (by kernel_rfl) 8 (by simp)) (post_no (post := [9]) hSh hDn (by kernel_rfl) 9 (by simp)) hS
            have hT := hB.1
            refine (short_any AllB x2 A2 n2 c2 w9 (Lay.rd_below HX2b.out hT) HNN.out.2 HS2.out).mono ?_
            rintro e w6 ⟨A, n, c, rfl, hr6, h6a, h6b, q6⟩
            exact ⟨_, rfl, ⟨A, n, c, rfl⟩, hset _ _ (W2KC.c3 hB q6 hr6 h6a h6b)⟩
          try simp only [Act.put, sA, sZ, sS]
          obtain ⟨A6a, n6a, c6a, rfl⟩ := hVv6a
          refine Ps.one (k := 6) (d := some 7) rfl rfl (by kernel_rfl) (TurnS.value (V := fun v => ∃ g, v = .pointer (some ⟨g, 0, none⟩)) [] (by kernel_rfl) (by rfl) (fun L9 m9 w9 hSh hAt hDn hS => ?cwg24_84)) (fun v6a hVv6a => ?rwg24_84)
          case cwg24_84 =>
            exact ⟨.pointer (some ⟨w9.heap.size, 0, none⟩), w9.alloc (.cells #[.slice none 0 0] 30), (by clear hS; go_simp), ⟨_, rfl⟩, W2C.made4 hDn (post_no (post := [8]) hSh hDn (by kernel_rfl) 8 (by simp)) (post_no (post := [9]) hSh hDn (by kernel_rfl) 9 (by simp)) rfl (W2KC.m4) hS⟩
          try simp only [Act.put, sA, sZ, sS]
          obtain ⟨g8a, rfl⟩ := hVv6a
          refine Ps.st (i := 8) (d := none) (u := undef) rfl rfl ?ywg24_85 ?rwg24_85
          case ywg24_85 =>
            refine StepS.store [2, 5, 6, 7] (by kernel_rfl) (by rfl) (fun L9 m9 w9 hSh hAt hDn hS => ?_)
            obtain ⟨g, k, hm, hk, hB, hset⟩ := W2C.on6 (hAt 2 (by simp)).1 (hAt 5 (by simp)).1 (hAt 6 (by simp)).1 (hAt 7 (by simp)).1 hDn (post_no (post := [9]) hSh hDn (by kernel_rfl) 9 (by simp)) hS
            obtain rfl : g8a = g := by have h9 : Value.pointer (some ⟨g8a, 0, none⟩) = .pointer (some ⟨g, 0, none⟩) := (hAt 6 (by simp)).2.symm.trans hm; simpa using h9
            obtain rfl : h8a = k := by have h9 : Value.pointer (some ⟨h8a, 0, none⟩) = .pointer (some ⟨k, 0, none⟩) := (hAt 7 (by simp)).2.symm.trans hk; simpa using h9
            obtain ⟨_, ⟨hA, hb2⟩, _⟩ := id hB
            have hBk := (hA g8a rfl).2.2
            refine (exec_store_blk (w := w9) 30 (.tmp 7) (.tmp 27) (by rfl) g8a 30 #[.slice none 0 0] #[.slice A5a n5a c5a] (by rfl) (by rfl) hBk rfl treeI (by simp [Value.oneCell'])).imp fun w7 hx => ⟨hx.1, hset _ (W2KC.st6 hB (hAt 2 (by simp)).2 hx.2.1 hx.2.2)⟩
          try simp only [Act.put]
          refine Ps.st (i := 9) (d := none) (u := undef) rfl rfl ?ywg24_86 ?rwg24_86
          case ywg24_86 =>
            refine StepS.store [2, 5, 6, 7, 8] (by kernel_rfl) (by rfl) (fun L9 m9 w9 hSh hAt hDn hS => ?_)
            obtain ⟨g, k, hm, hk, hB, hset⟩ := W2C.on7 (hAt 2 (by simp)).1 (hAt 5 (by simp)).1 (hAt 6 (by simp)).1 (hAt 7 (by simp)).1 (hAt 8 (by simp)).1 hDn  hS
            obtain rfl : g8a = g := by have h9 : Value.pointer (some ⟨g8a, 0, none⟩) = .pointer (some ⟨g, 0, none⟩) := (hAt 6 (by simp)).2.symm.trans hm; simpa using h9
            obtain rfl : h8a = k := by have h9 : Value.pointer (some ⟨h8a, 0, none⟩) = .pointer (some ⟨k, 0, none⟩) := (hAt 7 (by simp)).2.symm.trans hk; simpa using h9
            obtain ⟨_, A1, n1, c1, hA, hb2, _⟩ := id hB
            have hBk := (hb2 h8a rfl).2
            refine (exec_store_blk (w := w9) 30 (.tmp 8) (.tmp 30) (by rfl) h8a 30 #[.slice none 0 0] #[.slice A6a n6a c6a] (by rfl) (by rfl) hBk rfl treeI (by simp [Value.oneCell'])).imp fun w7 hx => ⟨hx.1, hset _ (W2KC.st7 hB (hAt 5 (by simp)).2 hx.2.1 hx.2.2)⟩
          try simp only [Act.put]
          refine Ps.done (by kernel_rfl) (fun wg24 hS => ?_) _
          obtain ⟨g, k, hm, hk, hB⟩ := W2C.fin (by rfl) (by rfl) (by rfl) hS
          clear hS
          obtain rfl : g8a = g := by have h9 : Value.pointer (some ⟨g8a, 0, none⟩) = .pointer (some ⟨g, 0, none⟩) := hm; simpa using h9
          obtain rfl : h8a = k := by have h9 : Value.pointer (some ⟨h8a, 0, none⟩) = .pointer (some ⟨k, 0, none⟩) := hk; simpa using h9
          have hB := W2KC.pair (A := A5a) (n := n5a) (c := c5a) (A' := A6a) (n' := n6a) (c' := c6a) hB rfl rfl
          refine ⟨g8a, h8a, A5a, n5a, c5a, A6a, n6a, c6a, ⟨.pointer (some ⟨g5, 0, none⟩), .agg #[.slice A1 n1 c1], .agg #[.slice A5a n5a c5a], .pointer (some ⟨g5, 1, none⟩), .agg #[.slice A2 n2 c2], .agg #[.slice A6a n6a c6a], ?_⟩, hB⟩
          clear hB hm hk
          rfl
        case bwg24_82_6 =>
          refine Turns.mk (i := 6) (d := some 7) rfl rfl (TurnS.value (V := fun v => ∃ g, v = .pointer (some ⟨g, 0, none⟩)) [] (by kernel_rfl) (by rfl) (fun L9 m9 w9 hSh hAt hDn hS => ?cwg24_87)) (fun v6a hVv6a => ?rwg24_87)
          case cwg24_87 =>
            exact ⟨.pointer (some ⟨w9.heap.size, 0, none⟩), w9.alloc (.cells #[.slice none 0 0] 30), (by clear hS; go_simp), ⟨_, rfl⟩, W2C.made4 hDn (post_no (post := [8]) hSh hDn (by kernel_rfl) 8 (by simp)) (post_no (post := [9]) hSh hDn (by kernel_rfl) 9 (by simp)) rfl (W2KC.m4) hS⟩
          try simp only [Act.put, sA, sZ, sS]
          obtain ⟨g8a, rfl⟩ := hVv6a
          refine Ps.one (k := 5) (d := some 30) rfl rfl (by kernel_rfl) (TurnS.call (V := fun v => ∃ A n c, v = .agg #[.slice A n c]) ?fwg24_88 ?awg24_88 [2] (by kernel_rfl) (by rfl) (fun w9 => ?hwg24_88) (fun L9 m9 w9 hSh hAt hDn hS => ?cwg24_88)) (fun v6a hVv6a => ?rwg24_88)
          case hwg24_88 => go_simp; refine ⟨?_, ?_⟩ <;> rfl
          case cwg24_88 =>
            obtain ⟨al, bl, hB, hset⟩ := W2C.on3 (hAt 2 (by simp)).1 hDn (post_no (post := [8]) hSh hDn (by kernel_rfl) 8 (by simp)) (post_no (post := [9]) hSh hDn (by kernel_rfl) 9 (by simp)) hS
            have hT := hB.1
            refine (short_any AllB x2 A2 n2 c2 w9 (Lay.rd_below HX2b.out hT) HNN.out.2 HS2.out).mono ?_
            rintro e w6 ⟨A, n, c, rfl, hr6, h6a, h6b, q6⟩
            exact ⟨_, rfl, ⟨A, n, c, rfl⟩, hset _ _ (W2KC.c3 hB q6 hr6 h6a h6b)⟩
          try simp only [Act.put, sA, sZ, sS]
          obtain ⟨A6a, n6a, c6a, rfl⟩ := hVv6a
          refine Ps.st (i := 8) (d := none) (u := undef) rfl rfl ?ywg24_89 ?rwg24_89
          case ywg24_89 =>
            refine StepS.store [2, 5, 6, 7] (by kernel_rfl) (by rfl) (fun L9 m9 w9 hSh hAt hDn hS => ?_)
            obtain ⟨g, k, hm, hk, hB, hset⟩ := W2C.on6 (hAt 2 (by simp)).1 (hAt 5 (by simp)).1 (hAt 6 (by simp)).1 (hAt 7 (by simp)).1 hDn (post_no (post := [9]) hSh hDn (by kernel_rfl) 9 (by simp)) hS
            obtain rfl : g8a = g := by have h9 : Value.pointer (some ⟨g8a, 0, none⟩) = .pointer (some ⟨g, 0, none⟩) := (hAt 6 (by simp)).2.symm.trans hm; simpa using h9
            obtain rfl : h8a = k := by have h9 : Value.pointer (some ⟨h8a, 0, none⟩) = .pointer (some ⟨k, 0, none⟩) := (hAt 7 (by simp)).2.symm.trans hk; simpa using h9
            obtain ⟨_, ⟨hA, hb2⟩, _⟩ := id hB
            have hBk := (hA g8a rfl).2.2
            refine (exec_store_blk (w := w9) 30 (.tmp 7) (.tmp 27) (by rfl) g8a 30 #[.slice none 0 0] #[.slice A5a n5a c5a] (by rfl) (by rfl) hBk rfl treeI (by simp [Value.oneCell'])).imp fun w7 hx => ⟨hx.1, hset _ (W2KC.st6 hB (hAt 2 (by simp)).2 hx.2.1 hx.2.2)⟩
          try simp only [Act.put]
          refine Ps.st (i := 9) (d := none) (u := undef) rfl rfl ?ywg24_90 ?rwg24_90
          case ywg24_90 =>
            refine StepS.store [2, 5, 6, 7, 8] (by kernel_rfl) (by rfl) (fun L9 m9 w9 hSh hAt hDn hS => ?_)
            obtain ⟨g, k, hm, hk, hB, hset⟩ := W2C.on7 (hAt 2 (by simp)).1 (hAt 5 (by simp)).1 (hAt 6 (by simp)).1 (hAt 7 (by simp)).1 (hAt 8 (by simp)).1 hDn  hS
            obtain rfl : g8a = g := by have h9 : Value.pointer (some ⟨g8a, 0, none⟩) = .pointer (some ⟨g, 0, none⟩) := (hAt 6 (by simp)).2.symm.trans hm; simpa using h9
            obtain rfl : h8a = k := by have h9 : Value.pointer (some ⟨h8a, 0, none⟩) = .pointer (some ⟨k, 0, none⟩) := (hAt 7 (by simp)).2.symm.trans hk; simpa using h9
            obtain ⟨_, A1, n1, c1, hA, hb2, _⟩ := id hB
            have hBk := (hb2 h8a rfl).2
            refine (exec_store_blk (w := w9) 30 (.tmp 8) (.tmp 30) (by rfl) h8a 30 #[.slice none 0 0] #[.slice A6a n6a c6a] (by rfl) (by rfl) hBk rfl treeI (by simp [Value.oneCell'])).imp fun w7 hx => ⟨hx.1, hset _ (W2KC.st7 hB (hAt 5 (by simp)).2 hx.2.1 hx.2.2)⟩
          try simp only [Act.put]
          refine Ps.done (by kernel_rfl) (fun wg24 hS => ?_) _
          obtain ⟨g, k, hm, hk, hB⟩ := W2C.fin (by rfl) (by rfl) (by rfl) hS
          clear hS
          obtain rfl : g8a = g := by have h9 : Value.pointer (some ⟨g8a, 0, none⟩) = .pointer (some ⟨g, 0, none⟩) := hm; simpa using h9
          obtain rfl : h8a = k := by have h9 : Value.pointer (some ⟨h8a, 0, none⟩) = .pointer (some ⟨k, 0, none⟩) := hk; simpa using h9
          have hB := W2KC.pair (A := A5a) (n := n5a) (c := c5a) (A' := A6a) (n' := n6a) (c' := c6a) hB rfl rfl
          refine ⟨g8a, h8a, A5a, n5a, c5a, A6a, n6a, c6a, ⟨.pointer (some ⟨g5, 0, none⟩), .agg #[.slice A1 n1 c1], .agg #[.slice A5a n5a c5a], .pointer (some ⟨g5, 1, none⟩), .agg #[.slice A2 n2 c2], .agg #[.slice A6a n6a c6a], ?_⟩, hB⟩
          clear hB hm hk
          rfl
      case bwg24_80_6 =>
        refine Turns.mk (i := 6) (d := some 7) rfl rfl (TurnS.value (V := fun v => ∃ g, v = .pointer (some ⟨g, 0, none⟩)) [] (by kernel_rfl) (by rfl) (fun L9 m9 w9 hSh hAt hDn hS => ?cwg24_91)) (fun v6a hVv6a => ?rwg24_91)
        case cwg24_91 =>
          exact ⟨.pointer (some ⟨w9.heap.size, 0, none⟩), w9.alloc (.cells #[.slice none 0 0] 30), (by clear hS; go_simp), ⟨_, rfl⟩, W2C.made4 hDn (post_no (post := [8]) hSh hDn (by kernel_rfl) 8 (by simp)) (post_no (post := [9]) hSh hDn (by kernel_rfl) 9 (by simp)) rfl (W2KC.m4) hS⟩
        try simp only [Act.put, sA, sZ, sS]
        obtain ⟨g8a, rfl⟩ := hVv6a
        refine Ps.one (k := 2) (d := some 27) rfl rfl (by kernel_rfl) (TurnS.call (V := fun v => ∃ A n c, v = .agg #[.slice A n c]) ?fwg24_92 ?awg24_92 [] (by kernel_rfl) (by rfl) (fun w9 => ?hwg24_92) (fun L9 m9 w9 hSh hAt hDn hS => ?cwg24_92)) (fun v5a hVv5a => ?rwg24_92)
        case hwg24_92 => go_simp; refine ⟨?_, ?_⟩ <;> rfl
        case cwg24_92 =>
          obtain ⟨al, bl, hB, hset⟩ := W2C.on1 hDn (post_no (post := [5]) hSh hDn (by kernel_rfl) 5 (by simp)) (post_no (post := [8]) hSh hDn (by kernel_rfl) 8 (by simp)) (post_no (post := [9]) hSh hDn (by kernel_rfl) 9 (by simp)) hS
          have hT := hB.1
          refine (short_any AllB x1 A1 n1 c1 w9 (Lay.rd_below HX1b.out hT) HNN.out.1 HS1.out).mono ?_
          rintro e w6 ⟨A, n, c, rfl, hr6, h6a, h6b, q6⟩
          exact ⟨_, rfl, ⟨A, n, c, rfl⟩, hset _ _ (W2KC.c1 hB q6 hr6 h6a h6b)⟩
        try simp only [Act.put, sA, sZ, sS]
        obtain ⟨A5a, n5a, c5a, rfl⟩ := hVv5a
        refine Ps.one (k := 5) (d := some 30) rfl rfl (by kernel_rfl) (TurnS.call (V := fun v => ∃ A n c, v = .agg #[.slice A n c]) ?fwg24_93 ?awg24_93 [2] (by kernel_rfl) (by rfl) (fun w9 => ?hwg24_93) (fun L9 m9 w9 hSh hAt hDn hS => ?cwg24_93)) (fun v6a hVv6a => ?rwg24_93)
        case hwg24_93 => go_simp; refine ⟨?_, ?_⟩ <;> rfl
        case cwg24_93 =>
          obtain ⟨al, bl, hB, hset⟩ := W2C.on3 (hAt 2 (by simp)).1 hDn (post_no (post := [8]) hSh hDn (by kernel_rfl) 8 (by simp)) (post_no (post := [9]) hSh hDn (by kernel_rfl) 9 (by simp)) hS
          have hT := hB.1
          refine (short_any AllB x2 A2 n2 c2 w9 (Lay.rd_below HX2b.out hT) HNN.out.2 HS2.out).mono ?_
          rintro e w6 ⟨A, n, c, rfl, hr6, h6a, h6b, q6⟩
          exact ⟨_, rfl, ⟨A, n, c, rfl⟩, hset _ _ (W2KC.c3 hB q6 hr6 h6a h6b)⟩
        try simp only [Act.put, sA, sZ, sS]
        obtain ⟨A6a, n6a, c6a, rfl⟩ := hVv6a
        refine Ps.st (i := 8) (d := none) (u := undef) rfl rfl ?ywg24_94 ?rwg24_94
        case ywg24_94 =>
          refine StepS.store [2, 5, 6, 7] (by kernel_rfl) (by rfl) (fun L9 m9 w9 hSh hAt hDn hS => ?_)
          obtain ⟨g, k, hm, hk, hB, hset⟩ := W2C.on6 (hAt 2 (by simp)).1 (hAt 5 (by simp)).1 (hAt 6 (by simp)).1 (hAt 7 (by simp)).1 hDn (post_no (post := [9]) hSh hDn (by kernel_rfl) 9 (by simp)) hS
          obtain rfl : g8a = g := by have h9 : Value.pointer (some ⟨g8a, 0, none⟩) = .pointer (some ⟨g, 0, none⟩) := (hAt 6 (by simp)).2.symm.trans hm; simpa using h9
          obtain rfl : h8a = k := by have h9 : Value.pointer (some ⟨h8a, 0, none⟩) = .pointer (some ⟨k, 0, none⟩) := (hAt 7 (by simp)).2.symm.trans hk; simpa using h9
          obtain ⟨_, ⟨hA, hb2⟩, _⟩ := id hB
          have hBk := (hA g8a rfl).2.2
          refine (exec_store_blk (w := w9) 30 (.tmp 7) (.tmp 27) (by rfl) g8a 30 #[.slice none 0 0] #[.slice A5a n5a c5a] (by rfl) (by rfl) hBk rfl treeI (by simp [Value.oneCell'])).imp fun w7 hx => ⟨hx.1, hset _ (W2KC.st6 hB (hAt 2 (by simp)).2 hx.2.1 hx.2.2)⟩
        try simp only [Act.put]
        refine Ps.st (i := 9) (d := none) (u := undef) rfl rfl ?ywg24_95 ?rwg24_95
        case ywg24_95 =>
          refine StepS.store [2, 5, 6, 7, 8] (by kernel_rfl) (by rfl) (fun L9 m9 w9 hSh hAt hDn hS => ?_)
          obtain ⟨g, k, hm, hk, hB, hset⟩ := W2C.on7 (hAt 2 (by simp)).1 (hAt 5 (by simp)).1 (hAt 6 (by simp)).1 (hAt 7 (by simp)).1 (hAt 8 (by simp)).1 hDn  hS
          obtain rfl : g8a = g := by have h9 : Value.pointer (some ⟨g8a, 0, none⟩) = .pointer (some ⟨g, 0, none⟩) := (hAt 6 (by simp)).2.symm.trans hm; simpa using h9
          obtain rfl : h8a = k := by have h9 : Value.pointer (some ⟨h8a, 0, none⟩) = .pointer (some ⟨k, 0, none⟩) := (hAt 7 (by simp)).2.symm.trans hk; simpa using h9
          obtain ⟨_, A1, n1, c1, hA, hb2, _⟩ := id hB
          have hBk := (hb2 h8a rfl).2
          refine (exec_store_blk (w := w9) 30 (.tmp 8) (.tmp 30) (by rfl) h8a 30 #[.slice none 0 0] #[.slice A6a n6a c6a] (by rfl) (by rfl) hBk rfl treeI (by simp [Value.oneCell'])).imp fun w7 hx => ⟨hx.1, hset _ (W2KC.st7 hB (hAt 5 (by simp)).2 hx.2.1 hx.2.2)⟩
        try simp only [Act.put]
        refine Ps.done (by kernel_rfl) (fun wg24 hS => ?_) _
        obtain ⟨g, k, hm, hk, hB⟩ := W2C.fin (by rfl) (by rfl) (by rfl) hS
        clear hS
        obtain rfl : g8a = g := by have h9 : Value.pointer (some ⟨g8a, 0, none⟩) = .pointer (some ⟨g, 0, none⟩) := hm; simpa using h9
        obtain rfl : h8a = k := by have h9 : Value.pointer (some ⟨h8a, 0, none⟩) = .pointer (some ⟨k, 0, none⟩) := hk; simpa using h9
        have hB := W2KC.pair (A := A5a) (n := n5a) (c := c5a) (A' := A6a) (n' := n6a) (c' := c6a) hB rfl rfl
        refine ⟨g8a, h8a, A5a, n5a, c5a, A6a, n6a, c6a, ⟨.pointer (some ⟨g5, 0, none⟩), .agg #[.slice A1 n1 c1], .agg #[.slice A5a n5a c5a], .pointer (some ⟨g5, 1, none⟩), .agg #[.slice A2 n2 c2], .agg #[.slice A6a n6a c6a], ?_⟩, hB⟩
        clear hB hm hk
        rfl
  case kpswg24 =>
    intro a' w1a hF
    obtain ⟨g8a, h8a, A5a, n5a, c5a, A6a, n6a, c6a, ⟨v25, v26, v27, v28, v29, v30, rfl⟩, hT, hg9, hbk, hbk2, hr, hr2, hc1, hc2⟩ := hF
    have HT1a := Lib.hid hT
    have HGa := Lib.hid hg9
    have HVa := Lib.hid hbk
    have HUa := Lib.hid hbk2
    have HRVa := Lib.hid hr
    have HRUa := Lib.hid hr2
    have HCVa := Lib.hid hc1
    have HCUa := Lib.hid hc2
    clear hT hg9 hbk hbk2 hr hr2 hc1 hc2
    simp only [Act.put, List.setIfInBounds_toArray, List.set_cons_zero, List.set_cons_succ]
    have HKA := Lib.hid (show KP w g4 g5 g8a h8a #[.slice A1 n1 c1, .slice A2 n2 c2] (.slice A5a n5a c5a) (.slice A6a n6a c6a) A5a n5a (shortN x1) A6a n6a (shortN x2) w1a from ⟨HC5.out.ca HT1a.out, HVa.out, HUa.out, Lay.rd_weak (fun b hb _ => by have := hb.1; omega) HRVa.out, Lay.rd_weak (fun b hb _ => by have := hb.1; omega) HRUa.out, bl_ca HQ2.out HT1a.out, l0, by have := HGa.out; omega⟩)
    have HL5 := Lib.hid (Lay.rd_len HRVa.out)
    have HL6 := Lib.hid (Lay.rd_len HRUa.out)
    have HLX := Lib.hid (And.intro (short_len x1) (short_len x2))
    have HSM := Lib.hid (And.intro (short_sm (xs := x1)) (short_sm (xs := x2)))
    have HD4 := Lib.hid (HC4.out.ca HT1a.out)
    have HSH1 := Lib.hid (fun W (q : Below w.heap.size w W) => short_any AllB x1 A1 n1 c1 W (Lay.rd_below HX0.out.1 q) HNN.out.1 HS1.out)
    have HSH2 := Lib.hid (fun W (q : Below w.heap.size w W) => short_any AllB x2 A2 n2 c2 W (Lay.rd_below HX0.out.2 q) HNN.out.2 HS2.out)
    generalize shortN x1 = L at *
    generalize shortN x2 = M at *
    have hn5 : n5a ≤ 301 := by have := HLX.out; have := HL5.out; omega
    have hn6 : n6a ≤ 301 := by have := HLX.out; have := HL6.out; omega
    clear HT1a HGa HVa HUa HRVa HRUa HC4 HC5 HX1b HX2b HT2 HLX HX1 HX2 HTG HT
    have e0 := HD4.out.cell 0
    have e1 := HD4.out.cell 1
    have e2 := HD4.out.cell 2
    have e3 := HD4.out.cell 3
    have e4 := HD4.out.cell 4
    have e5 := HD4.out.cell 5
    have e6 := HD4.out.cell 6
    have e7 := HD4.out.cell 7
    have e8 := HD4.out.cell 8
    simp [Nd.cells] at e0 e1 e2 e3 e4 e5 e6 e7 e8
    have HRW := Lib.hid (Blk.new w1a 27 (Nd.cells lf))
    have hqa := bl_al (Below.refl w1a.heap.size w1a) (.cells (Nd.cells lf) 27)
    have HKB := Lib.hid (HKA.out.ca hqa)
    have HD4b := Lib.hid (HD4.out.ca hqa)
    have HSF := Lib.hid (short_any AllB [lf] (some ⟨w1a.heap.size, 0, none⟩) 1 1 _ (rd_one HRW.out) (by omega) (fun x hx => by rw [List.mem_singleton] at hx; subst hx; exact HSL.out))
    rw [show shortN [lf] = [cutNd lf] from rfl] at HSF
    clear hqa
    go_wp2_with fail
    refine HSF.out.mono ?_
    rintro e w3 ⟨A3, n3, c3, rfl, hr3, h3a, h3b, q3⟩
    have hn3 : n3 = 1 := (Lay.rd_len hr3).symm
    subst hn3
    obtain ⟨ad, y, hAe, hy, s3⟩ := LN_at hr3 (show 0 < 1 by omega)
    obtain rfl : A3 = some ad := hAe
    obtain rfl : y = cutNd lf := by simpa using hy.symm
    rw [add0] at s3
    have HYP := Lib.hid (show SmP (cutNd lf).p from short_sm (xs := [lf]) _ (by show _ ∈ [cutNd lf]; simp))
    generalize cutNd lf = y at *
    have HKC := Lib.hid (HKB.out.ca q3)
    have HD4c := Lib.hid (HD4b.out.ca q3)
    clear e0 e1 e2 e3 e4 e5 e6 e7 e8
    have e0 := s3.c0
    have e1 := s3.c1
    have e2 := s3.c2
    have e3 := s3.c3
    have e4 := s3.c4
    have e5 := s3.c5
    have e6 := s3.c6
    have e7 := s3.c7
    have e8 := s3.c8
    have f0 := HD4c.out.cell 0
    have f1 := HD4c.out.cell 1
    have f2 := HD4c.out.cell 2
    have f3 := HD4c.out.cell 3
    have f4 := HD4c.out.cell 4
    have f5 := HD4c.out.cell 5
    have f6 := HD4c.out.cell 6
    have f7 := HD4c.out.cell 7
    have f8 := HD4c.out.cell 8
    have z0 := HD4c.out.frozen 0
    have z1 := HD4c.out.frozen 1
    have z2 := HD4c.out.frozen 2
    have z3 := HD4c.out.frozen 3
    have z4 := HD4c.out.frozen 4
    have z5 := HD4c.out.frozen 5
    have z6 := HD4c.out.frozen 6
    have z7 := HD4c.out.frozen 7
    have z8 := HD4c.out.frozen 8
    simp [Nd.cells] at f0 f1 f2 f3 f4 f5 f6 f7 f8
    clear s3 hr3 q3 hy HSF HRW HD4 HD4b HKB HKA
    have hfd := fun W => field_tree (some ad) 1 c3 W
    go_upto_region 5 with fail
    have HD4 := Lib.hid (show Blk (((((((((w3.setCell ⟨g4, 0, none⟩ (.int .i64 y.p.tag)).setCell ⟨g4, 1, none⟩ (.int .i64 y.l)).setCell ⟨g4, 2, none⟩ (.int .i64 y.r)).setCell ⟨g4, 3, none⟩ (.int .i64 y.p.k)).setCell ⟨g4, 4, none⟩ (.int .i64 y.p.n)).setCell ⟨g4, 5, none⟩ (.int .u64 y.p.u)).setCell ⟨g4, 6, none⟩ (.string y.p.s)).setCell ⟨g4, 7, none⟩ (.string y.p.tb)).setCell ⟨g4, 8, none⟩ (.string y.p.nm)) g4 27 (Nd.cells y) from blk_set9 (show Blk w3 g4 27 #[.int .i64 lf.p.tag, .int .i64 lf.l, .int .i64 lf.r, .int .i64 lf.p.k, .int .i64 lf.p.n, .int .u64 lf.p.u, .string lf.p.s, .string lf.p.tb, .string lf.p.nm] from HD4c.out) (.int .i64 y.p.tag) (.int .i64 y.l) (.int .i64 y.r) (.int .i64 y.p.k) (.int .i64 y.p.n) (.int .u64 y.p.u) (.string y.p.s) (.string y.p.tb) (.string y.p.nm))
    have HK4 := Lib.hid (HKC.out.gr (gr_set9 w3 g4 (.int .i64 y.p.tag) (.int .i64 y.l) (.int .i64 y.r) (.int .i64 y.p.k) (.int .i64 y.p.n) (.int .u64 y.p.u) (.string y.p.s) (.string y.p.tb) (.string y.p.nm)))
    clear HD4c HKC hfd e0 e1 e2 e3 e4 e5 e6 e7 e8 f0 f1 f2 f3 f4 f5 f6 f7 f8 z0 z1 z2 z3 z4 z5 z6 z7 z8
    generalize (((((((((w3.setCell ⟨g4, 0, none⟩ (.int .i64 y.p.tag)).setCell ⟨g4, 1, none⟩ (.int .i64 y.l)).setCell ⟨g4, 2, none⟩ (.int .i64 y.r)).setCell ⟨g4, 3, none⟩ (.int .i64 y.p.k)).setCell ⟨g4, 4, none⟩ (.int .i64 y.p.n)).setCell ⟨g4, 5, none⟩ (.int .u64 y.p.u)).setCell ⟨g4, 6, none⟩ (.string y.p.s)).setCell ⟨g4, 7, none⟩ (.string y.p.tb)).setCell ⟨g4, 8, none⟩ (.string y.p.nm)) = w4 at *
    have e0 := HD4.out.cell 0
    have e1 := HD4.out.cell 1
    have e2 := HD4.out.cell 2
    have e3 := HD4.out.cell 3
    have e4 := HD4.out.cell 4
    have e5 := HD4.out.cell 5
    have e6 := HD4.out.cell 6
    have e7 := HD4.out.cell 7
    have e8 := HD4.out.cell 8
    simp [Nd.cells] at e0 e1 e2 e3 e4 e5 e6 e7 e8
    have HLF := Lib.hid (leaf_any y.p y.l y.r w4 (HTG0.out.2.below HK4.out.q) HYP.out)
    obtain ⟨E7, hE7⟩ : ∃ E, E = madeE y.p [] := ⟨_, rfl⟩
    obtain ⟨R7, hR7⟩ : ∃ E, E = madeR y.p [] := ⟨_, rfl⟩
    rw [← hE7, ← hR7] at HLF
    have HER := Lib.hid (And.intro hE7 hR7)
    clear hE7 hR7
    go_wp2_with fail
    refine HLF.out.mono ?_
    intro e w5 hmk
    obtain ⟨A7, n7, c7, rfl, hr7, h7a, h7b, q7⟩ := hmk.rd
    have hqa := bl_al (Below.refl w5.heap.size w5) (.cells #[.slice A7 n7 c7] 30)
    have HK6 := Lib.hid ((HK4.out.ca q7).ca hqa)
    have HD6 := Lib.hid ((HD4.out.ca q7).ca hqa)
    have HB9 := Lib.hid (Blk.new w5 30 #[.slice A7 n7 c7])
    have HR7 := Lib.hid (Lay.rd_weak (G := fun b => b ≠ g4) (fun b hb _ => by have h9 : w4.heap.size ≤ b := hb; have := HD4.out.lt; omega) (Lay.rd_below hr7 hqa))
    have HN7 := Lib.hid (show n7 ≤ 1 from by
      have h8 := Lay.rd_len hr7
      have h9 : R7 = if madeOk y.p [] then madeN y.p [] else [] := HER.out.2
      rw [h9] at h8
      rw [← h8]
      split
      · exact Nat.le_refl _
      · exact Nat.zero_le _)
    have l9 : g4 < w5.heap.size := Nat.lt_of_lt_of_le HD4.out.lt q7.size
    clear hmk hr7 q7 hqa e0 e1 e2 e3 e4 e5 e6 e7 e8 HLF
    go_upto_region 6 with fail
    obtain ⟨g9, hg9⟩ : ∃ g, g = w5.heap.size := ⟨_, rfl⟩
    rw [← hg9] at HB9 ⊢
    have l9 : g4 < g9 := by omega
    clear hg9
    generalize w5.alloc (.cells #[.slice A7 n7 c7] 30) = w6 at *
    have f1 := HD6.out.cell 1
    have f2 := HD6.out.cell 2
    have z1 := HD6.out.frozen 1
    have z2 := HD6.out.frozen 2
    simp [Nd.cells] at f1 f2
    go_upto_region 7 with fail
    have hgr : w6.grownBy ((w6.setCell ⟨g4, 1, none⟩ (.int .i64 (-1))).setCell ⟨g4, 2, none⟩ (.int .i64 (-1))) (some g4) := only_setCell (p := ⟨g4, 2, none⟩) (only_setCell (p := ⟨g4, 1, none⟩) (World.grownBy.refl w6 _) (.inl rfl) _) (.inl rfl) _
    have HK7 := Lib.hid (HK6.out.gr hgr)
    have HD7 := Lib.hid (show Blk ((w6.setCell ⟨g4, 1, none⟩ (.int .i64 (-1))).setCell ⟨g4, 2, none⟩ (.int .i64 (-1))) g4 27 (Nd.cells ⟨y.p, -1, -1⟩) from (HD6.out.set_ 1 (.int .i64 (-1))).set_ 2 (.int .i64 (-1)))
    have HB9b := Lib.hid (HB9.out.apart hgr (by omega))
    have HR7b := Lib.hid (rd_grownH HR7.out hgr (fun _ hx e => hx e))
    clear hgr f1 f2 z1 z2 HK6 HD6 HB9 HR7 HK4 HD4
    generalize (w6.setCell ⟨g4, 1, none⟩ (.int .i64 (-1))).setCell ⟨g4, 2, none⟩ (.int .i64 (-1)) = w7 at *
    have e0 := HD7.out.cell 0
    have e1 := HD7.out.cell 1
    have e2 := HD7.out.cell 2
    have e3 := HD7.out.cell 3
    have e4 := HD7.out.cell 4
    have e5 := HD7.out.cell 5
    have e6 := HD7.out.cell 6
    have e7 := HD7.out.cell 7
    have e8 := HD7.out.cell 8
    simp [Nd.cells] at e0 e1 e2 e3 e4 e5 e6 e7 e8
    have hqa := bl_al (Below.refl w7.heap.size w7) (.cells (Nd.cells ⟨y.p, -1, -1⟩) 27)
    have hqb := bl_al hqa (.cells #[.slice (some ⟨w7.heap.size, 0, none⟩) 1 1] 30)
    have HK8 := Lib.hid (HK7.out.ca hqb)
    have HB98 := Lib.hid (HB9b.out.ca hqb)
    have HR78 := Lib.hid (rd_all (Lay.rd_below HR7b.out hqb))
    have HW8 := Lib.hid (rd_one ((Blk.new w7 27 (Nd.cells ⟨y.p, -1, -1⟩)).alloc (.cells #[.slice (some ⟨w7.heap.size, 0, none⟩) 1 1] 30)))
    have HB11 := Lib.hid (show Blk ((w7.alloc (.cells (Nd.cells ⟨y.p, -1, -1⟩) 27)).alloc (.cells #[.slice (some ⟨w7.heap.size, 0, none⟩) 1 1] 30)) (w7.heap.size + 1) 30 #[.slice (some ⟨w7.heap.size, 0, none⟩) 1 1] from by
      have := Blk.new (w7.alloc (.cells (Nd.cells ⟨y.p, -1, -1⟩) 27)) 30 #[.slice (some ⟨w7.heap.size, 0, none⟩) 1 1]
      rwa [World.size_alloc] at this)
    clear hqa hqb
    go_upto_region 8 with fail
    clear e0 e1 e2 e3 e4 e5 e6 e7 e8
    obtain ⟨w8, hw8⟩ : ∃ W, W = (w7.alloc (.cells (Nd.cells ⟨y.p, -1, -1⟩) 27)).alloc (.cells #[.slice (some ⟨w7.heap.size, 0, none⟩) 1 1] 30) := ⟨_, rfl⟩
    rw [← hw8] at HK8 HB98 HR78 HW8 HB11
    rw [show (w7.alloc (.cells #[.int .i64 y.p.tag, .int .i64 (-1), .int .i64 (-1), .int .i64 y.p.k, .int .i64 y.p.n, .int .u64 y.p.u, .string y.p.s, .string y.p.tb, .string y.p.nm] 27)).alloc (.cells #[.slice (some ⟨w7.heap.size, 0, none⟩) 1 1] 30) = w8 from hw8.symm]
    clear hw8 HK7 HD7 HB9b HR7b
    generalize w7.heap.size + 1 = g11 at *
    generalize w7.heap.size = g10 at *
    obtain ⟨ok7, hok7⟩ : ∃ b, b = madeOk y.p [] := ⟨_, rfl⟩
    have HML := Lib.hid (fun w' (q : Below w8.heap.size w8 w') => mlaw_any AllB AllB y.p [] A7 n7 c7 (some ⟨g10, 0, none⟩) 1 1 w' (by rw [← HER.out.2]; exact Lay.rd_below HR78.out q) (fun hok => by rw [show madeR y.p [] = madeN y.p [] from by unfold madeR; rw [hok]; rfl]; exact Lay.rd_below HW8.out q) (by have := HN7.out; omega))
    rw [← HER.out.1, ← hok7] at HML
    have HRT := Lib.hid (fun w' (q : Below w8.heap.size w8 w') => rright_any AllB [⟨y.p, -1, -1⟩] (some ⟨g10, 0, none⟩) 1 1 w' (Lay.rd_below HW8.out q) (by omega) (fun x hx => by rw [List.mem_singleton] at hx; subst hx; exact HYP.out))
    rw [show okF [⟨y.p, -1, -1⟩] = ok7 from by rw [hok7]; rfl] at HRT
    clear hok7
    refine wp_region_ps (S := fun _ _ w' => Below w8.heap.size w8 w') (by kernel_rfl) ?spswg1 ?ppswg1
    case spswg1 =>
      exact (Below.refl w8.heap.size w8).drew
    refine Ps.st (i := 0) (d := some 48) (u := (.agg #[.slice A7 n7 c7])) rfl rfl ?ywg1_2 ?rwg1_2
    case ywg1_2 =>
      refine StepS.read [] (by kernel_rfl) nP (by rfl) (fun L9 m9 w9 hSh hAt hDn hS => ?_)
      have hT : Below w8.heap.size w8 w9 := hS
      have x0 : w9.cell? ⟨g9, 0, none⟩ = some (.slice A7 n7 c7) := (HB98.out.ca hT).cell 0
      clear hT hS
      go_simp
      try rfl
    try simp only [Act.put, sA, sZ, sS]
    refine Ps.st (i := 1) (d := some 49) (u := (.int .i64 (E7))) rfl rfl (by exact StepS.pure nP rfl fun _ => rfl) ?_
    try simp only [Act.put, sA, sZ, sS]
    refine Ps.st (i := 2) (d := some 50) (u := (.agg #[.slice (some ⟨g10, 0, none⟩) 1 1])) rfl rfl ?ywg1_4 ?rwg1_4
    case ywg1_4 =>
      refine StepS.read [] (by kernel_rfl) nP (by rfl) (fun L9 m9 w9 hSh hAt hDn hS => ?_)
      have hT : Below w8.heap.size w8 w9 := hS
      have x0 : w9.cell? ⟨g11, 0, none⟩ = some (.slice (some ⟨g10, 0, none⟩) 1 1) := (HB11.out.ca hT).cell 0
      clear hT hS
      go_simp
      try rfl
    try simp only [Act.put, sA, sZ, sS]
    refine Ps.st (i := 3) (d := some 51) (u := (.agg #[.slice (some ⟨g10, 0, none⟩) 1 1])) rfl rfl ?ywg1_5 ?rwg1_5
    case ywg1_5 =>
      refine StepS.read [] (by kernel_rfl) nP (by rfl) (fun L9 m9 w9 hSh hAt hDn hS => ?_)
      have hT : Below w8.heap.size w8 w9 := hS
      have x0 : w9.cell? ⟨g11, 0, none⟩ = some (.slice (some ⟨g10, 0, none⟩) 1 1) := (HB11.out.ca hT).cell 0
      clear hT hS
      go_simp
      try rfl
    try simp only [Act.put, sA, sZ, sS]
    refine Ps.st (i := 4) (d := some 52) (u := (.bool (ok7))) rfl rfl ?ywg1_6 ?rwg1_6
    case ywg1_6 =>
      refine StepS.call ?fwg1_6 ?awg1_6 [] (by kernel_rfl) (by rfl) (fun w9 => ?hwg1_6) (fun L9 m9 w9 hSh hAt hDn hS => ?cwg1_6)
      case hwg1_6 => go_simp; refine ⟨?_, ?_⟩ <;> rfl
      case cwg1_6 =>
        have hT : Below w8.heap.size w8 w9 := hS
        refine (HRT.out w9 hT).mono ?_
        rintro e w8 ⟨rfl, q8⟩
        exact ⟨rfl, bl_ca hT q8⟩
    try simp only [Act.put, sA, sZ, sS]
    refine Ps.st (i := 5) (d := some 53) (u := (.bool (true))) rfl rfl ?ywg1_7 ?rwg1_7
    case ywg1_7 =>
      refine StepS.call ?fwg1_7 ?awg1_7 [] (by kernel_rfl) (by rfl) (fun w9 => ?hwg1_7) (fun L9 m9 w9 hSh hAt hDn hS => ?cwg1_7)
      case hwg1_7 => go_simp; refine ⟨?_, ?_⟩ <;> rfl
      case cwg1_7 =>
        have hT : Below w8.heap.size w8 w9 := hS
        refine (HML.out w9 hT).mono ?_
        rintro e w8 ⟨rfl, q8⟩
        exact ⟨rfl, bl_ca hT q8⟩
    try simp only [Act.put, sA, sZ, sS]
    refine Ps.st (i := 6) (d := some 54) (u := (.bool (false))) rfl rfl (by exact StepS.pure nP rfl fun _ => rfl) ?_
    try simp only [Act.put, sA, sZ, sS]
    refine Ps.done (by kernel_rfl) (fun wg1 hS => ?_) _
    have HW := Lib.hid (show Below w8.heap.size w8 wg1 from hS)
    clear hS
    obtain ⟨w9, rfl⟩ : ∃ x, x = wg1 := ⟨_, rfl⟩
    have HK9 := Lib.hid (HK8.out.ca HW.out)
    clear HK8 HB98 HR78 HW8 HB11 HML HRT HW
    go_wp2_with fail
    go_loopg [57] nt (fun g a wr => ∃ i : Nat, i + g = nt ∧ i ≤ 30 ∧ a = .int .i64 (i : Int) ∧ Hid (Below w9.heap.size w9 wr))
    case atStart => exact ⟨0, by omega, by omega, rfl, Lib.hid (Below.refl _ _)⟩
    case round =>
      obtain ⟨i, hig, hi30, rfl, HQR⟩ := hrel
      have HK := Lib.hid (HK9.out.ca HQR.out)
      by_cases hlt : i < nt
      · have hi1 : (i : Int) < (nt : Int) := by omega
        obtain ⟨at_, z, hBe, hz, _, zc⟩ := LZ_at (Lay.rd_below HTG0.out.1 HK.out.q) hlt
        obtain rfl : T = some at_ := hBe
        clear hz
        by_cases h30 : i = 30
        · have h30' : ((i : Int) == 30) = true := by simp; omega
          clear h30
          go_wp2
          go_ret
          exact ⟨rfl, HK.out.q⟩
        have hi30' : ((i : Int) == 30) = false := by simp; omega
        have HG := Lib.hid (show i + 1 + (gk - 1) = nt ∧ i + 1 ≤ 30 from by omega)
        clear h30
        have x7 : wr.cell? ⟨g8a, 0, none⟩ = some (.slice A5a n5a c5a) := HK.out.b8.cell 0
        have HON := Lib.hid (one_any AllB z L A5a n5a c5a wr (rd_all HK.out.r5) (by omega) HCVa.out.1 HCVa.out.2 (HTG0.out.2.below HK.out.q) HSM.out.1)
        obtain ⟨EA, hEA⟩ : ∃ E, E = madeE (zP z) [L] := ⟨_, rfl⟩
        rw [← hEA] at HON
        have HEA := Lib.hid hEA
        clear hEA
        go_wp2_with fail
        refine HON.out.mono ?_
        intro e w11 hmk
        obtain ⟨A14, n14, c14, rfl, hr14, h14a, h14b, q14⟩ := hmk.rd
        have hx := bl_al q14 (.cells #[.slice A14 n14 c14] 30)
        have HK2 := Lib.hid (HK.out.ca hx)
        have HQ12 := Lib.hid (bl_ca HQR.out hx)
        have HB14 := Lib.hid (Blk.new w11 30 #[.slice A14 n14 c14])
        have HR14 := Lib.hid (rd_all (Lay.rd_below hr14 (bl_al (Below.refl w11.heap.size w11) (.cells #[.slice A14 n14 c14] 30))))
        have HN14 := Lib.hid (Nat.le_trans h14a h14b)
        clear hmk hr14 h14a h14b q14 hx x7 zc HON HK HQR
        go_upto_region 15 with fail
        obtain ⟨g14, hg14⟩ : ∃ g, g = w11.heap.size := ⟨_, rfl⟩
        rw [← hg14] at HB14 ⊢
        clear hg14
        generalize w11.alloc (.cells #[.slice A14 n14 c14] 30) = w12 at *
        have x7 : w12.cell? ⟨g8a, 0, none⟩ = some (.slice A5a n5a c5a) := HK2.out.b8.cell 0
        have x8 : w12.cell? ⟨h8a, 0, none⟩ = some (.slice A6a n6a c6a) := HK2.out.b9.cell 0
        have HTW := Lib.hid (two_any AllB AllB z L M A5a n5a c5a A6a n6a c6a w12 (rd_all HK2.out.r5) (by omega) HCVa.out.1 HCVa.out.2 (rd_all HK2.out.r6) (by omega) HCUa.out.1 HCUa.out.2 (HTG0.out.2.below HK2.out.q) HSM.out.1 HSM.out.2)
        obtain ⟨EB, hEB⟩ : ∃ E, E = madeE (zP z) [L, M] := ⟨_, rfl⟩
        obtain ⟨RB, hRB⟩ : ∃ E, E = madeR (zP z) [L, M] := ⟨_, rfl⟩
        rw [← hEB, ← hRB] at HTW
        have HEB := Lib.hid (And.intro hEB hRB)
        clear hEB hRB
        go_wp2_with fail
        refine HTW.out.mono ?_
        intro e w13 hmk
        obtain ⟨A16, n16, c16, rfl, ho16, h16a, h16b, q16⟩ := hmk
        have hal := bl_al (Below.refl w13.heap.size w13) (.cells #[.slice A16 n16 c16] 30)
        have HS14 := Lib.hid (bl_ca q16 hal)
        have HB16 := Lib.hid (Blk.new w13 30 #[.slice A16 n16 c16])
        have HO16 := Lib.hid (Lay.own_below ho16 hal)
        have HNE := Lib.hid (Lay.own_base ho16)
        have HN16 := Lib.hid (Nat.le_trans h16a h16b)
        clear ho16 h16a h16b q16 hal x7 x8 HTW
        go_upto_region 16 with fail
        obtain ⟨g16, hg16⟩ : ∃ g, g = w13.heap.size := ⟨_, rfl⟩
        rw [← hg16] at HB16 HNE ⊢
        clear hg16
        generalize w13.alloc (.cells #[.slice A16 n16 c16] 30) = w14 at *
        have HK3 := Lib.hid (HK2.out.ca HS14.out)
        have HB14 := Lib.hid (HB14.out.ca HS14.out)
        have HR14 := Lib.hid (Lay.rd_below HR14.out HS14.out)
        have x7 : w14.cell? ⟨g8a, 0, none⟩ = some (.slice A5a n5a c5a) := HK3.out.b8.cell 0
        have hal := bl_al (Below.refl w14.heap.size w14) (.cells #[.slice A5a n5a c5a] 30)
        have HM1 := Lib.hid (rmade_any AllB z [L] (some ⟨w14.heap.size, 0, none⟩) 1 1 _ (rd_tr1 (Blk.new w14 30 #[.slice A5a n5a c5a]) (Lay.rd_below (rd_all HK3.out.r5) hal) HCVa.out.1 HCVa.out.2) (by omega) (fun x hx => by rw [List.mem_singleton] at hx; subst hx; rw [HL5.out]; omega) (fun x hx => by rw [List.mem_singleton] at hx; subst hx; exact HSM.out.1))
        obtain ⟨oA, hoA⟩ : ∃ b, b = madeOk (zP z) [L] := ⟨_, rfl⟩
        rw [← hoA] at HM1
        have HOA := Lib.hid hoA
        have HA14 := Lib.hid hal
        clear hoA hal
        go_wp2_with fail
        refine HM1.out.mono ?_
        rintro e w15 ⟨A18, n18, c18, rfl, hr18, h18a, h18b, q18⟩
        have hal := bl_al (Below.refl w15.heap.size w15) (.cells #[.slice A18 n18 c18] 30)
        have HS16 := Lib.hid (bl_ca HA14.out (bl_ca q18 hal))
        have HB18 := Lib.hid (Blk.new w15 30 #[.slice A18 n18 c18])
        have HR18 := Lib.hid (rd_all (Lay.rd_below hr18 hal))
        clear hr18 h18a h18b q18 hal x7 HM1 HA14
        go_upto_region 17 with fail
        obtain ⟨g18, hg18⟩ : ∃ g, g = w15.heap.size := ⟨_, rfl⟩
        rw [← hg18] at HB18 ⊢
        clear hg18
        generalize w15.alloc (.cells #[.slice A18 n18 c18] 30) = w16 at *
        have HK4 := Lib.hid (HK3.out.ca HS16.out)
        have HB14 := Lib.hid (HB14.out.ca HS16.out)
        have HR14 := Lib.hid (Lay.rd_below HR14.out HS16.out)
        have HB16 := Lib.hid (HB16.out.ca HS16.out)
        have HO16 := Lib.hid (Lay.own_below HO16.out HS16.out)
        have HS14 := Lib.hid (bl_ca HS14.out HS16.out)
        have x7 : w16.cell? ⟨g8a, 0, none⟩ = some (.slice A5a n5a c5a) := HK4.out.b8.cell 0
        have x8 : w16.cell? ⟨h8a, 0, none⟩ = some (.slice A6a n6a c6a) := HK4.out.b9.cell 0
        have hal := bl_al (Below.refl w16.heap.size w16) (.cells #[.slice A5a n5a c5a, .slice A6a n6a c6a] 30)
        have HM2 := Lib.hid (rmade_any AllB z [L, M] (some ⟨w16.heap.size, 0, none⟩) 2 2 _ (rd_tr2 (Blk.new w16 30 #[.slice A5a n5a c5a, .slice A6a n6a c6a]) (Lay.rd_below (rd_all HK4.out.r5) hal) HCVa.out.1 HCVa.out.2 (Lay.rd_below (rd_all HK4.out.r6) hal) HCUa.out.1 HCUa.out.2) (by omega) (fun x hx => by
          rcases List.mem_cons.1 hx with rfl | hx
          · rw [HL5.out]; omega
          · rw [List.mem_singleton] at hx; subst hx; rw [HL6.out]; omega) (fun x hx => by
          rcases List.mem_cons.1 hx with rfl | hx
          · exact HSM.out.1
          · rw [List.mem_singleton] at hx; subst hx; exact HSM.out.2))
        obtain ⟨oB, hoB⟩ : ∃ b, b = madeOk (zP z) [L, M] := ⟨_, rfl⟩
        rw [← hoB, ← HEB.out.2] at HM2
        have HOB := Lib.hid hoB
        have HA16 := Lib.hid hal
        clear hoB hal
        go_wp2_with fail
        refine HM2.out.mono ?_
        rintro e w17 ⟨A20, n20, c20, rfl, hr20, h20a, h20b, q20⟩
        have hal := bl_al (Below.refl w17.heap.size w17) (.cells #[.slice A20 n20 c20] 30)
        have HS18 := Lib.hid (bl_ca HA16.out (bl_ca q20 hal))
        have HB20 := Lib.hid (Blk.new w17 30 #[.slice A20 n20 c20])
        have HR20 := Lib.hid (rd_all (Lay.rd_below hr20 hal))
        clear hr20 h20a h20b q20 hal x7 x8 HM2 HA16
        go_upto_region 18 with fail
        obtain ⟨g20, hg20⟩ : ∃ g, g = w17.heap.size := ⟨_, rfl⟩
        rw [← hg20] at HB20 ⊢
        clear hg20
        generalize w17.alloc (.cells #[.slice A20 n20 c20] 30) = w18 at *
        have HB14 := Lib.hid (HB14.out.ca HS18.out)
        have HR14 := Lib.hid (Lay.rd_below HR14.out HS18.out)
        have HB16 := Lib.hid (HB16.out.ca HS18.out)
        have HO16 := Lib.hid (Lay.own_below HO16.out HS18.out)
        have HB18 := Lib.hid (HB18.out.ca HS18.out)
        have HR18 := Lib.hid (Lay.rd_below HR18.out HS18.out)
        have HS14 := Lib.hid (bl_ca HS14.out HS18.out)
        have HR16 := Lib.hid (Lay.own_rd2 (F := AllB) HO16.out (fun _ _ => trivial) (fun _ _ _ => trivial))
        have HL1 := Lib.hid (mlaw_any AllB AllB (zP z) [L] A14 n14 c14 A18 n18 c18 w18 HR14.out (fun _ => HR18.out) HN14.out)
        rw [← HEA.out, ← HOA.out] at HL1
        have HL2 := Lib.hid (fun w' (q : Below w18.heap.size w18 w') => mlaw_any AllB AllB (zP z) [L, M] A16 n16 c16 A20 n20 c20 w' (by rw [← HEB.out.2]; exact Lay.rd_below HR16.out q) (fun _ => by rw [← HEB.out.2]; exact Lay.rd_below HR20.out q) HN16.out)
        rw [← HEB.out.1, ← HOB.out] at HL2
        have x14 : w18.cell? ⟨g14, 0, none⟩ = some (.slice A14 n14 c14) := HB14.out.cell 0
        have x18 : w18.cell? ⟨g18, 0, none⟩ = some (.slice A18 n18 c18) := HB18.out.cell 0
        go_wp2_with fail
        refine HL1.out.mono ?_
        rintro e w19 ⟨rfl, q19⟩
        have HA19 := Lib.hid q19
        clear q19 x14 x18 HL1
        have x16 : w19.cell? ⟨g16, 0, none⟩ = some (.slice A16 n16 c16) := (HB16.out.ca HA19.out).cell 0
        have x20 : w19.cell? ⟨g20, 0, none⟩ = some (.slice A20 n20 c20) := (HB20.out.ca HA19.out).cell 0
        go_wp2_with fail
        refine (HL2.out w19 HA19.out).mono ?_
        rintro e w20 ⟨rfl, q20⟩
        have HA20 := Lib.hid (bl_ca HA19.out q20)
        have HB16 := Lib.hid (HB16.out.ca HA20.out)
        have HO16 := Lib.hid (Lay.own_below HO16.out HA20.out)
        have HS14 := Lib.hid (bl_ca HS14.out HA20.out)
        clear q20 x16 x20 HL2 HR14 HR16 HR18 HR20 HB14 HB18 HB20 HA19 HA20 HS16 HS18 HK3 HK4
        have x16 : w20.cell? ⟨g16, 0, none⟩ = some (.slice A16 n16 c16) := HB16.out.cell 0
        go_wp2_with fail
        clear x16
        obtain ⟨gk0, rfl⟩ : ∃ g1, g1 = gk := ⟨_, rfl⟩
        have hnm : (n16 : Int) ≤ 9223372036854775807 := by have := HN16.out; omega
        go_loopg [109] n16 (fun g a wr => ∃ (k : Nat) (Q : List Nd), k + g = n16 ∧ a = .int .i64 (k : Int) ∧ Hid (LN.own 27 wr w12.heap.size (fun _ => False) A16 n16 c16 Q) ∧ Hid (Blk wr g16 30 #[.slice A16 n16 c16]) ∧ Hid (Below w12.heap.size w12 wr))
        case atStart => exact ⟨0, RB, by omega, rfl, HO16, HB16, HS14⟩
        case round =>
          obtain ⟨k, Q, hkg, rfl, HOQ, HBQ, HSQ⟩ := hrel
          by_cases hlt2 : k < n16
          · have hk1 : (k : Int) < (n16 : Int) := by omega
            have hk0 : 0 ≤ (k : Int) := by omega
            obtain ⟨gb, hgb, hb1, hb2⟩ := own_some HOQ.out (show 0 < n16 by omega)
            subst hgb
            have hbne : gb < g16 := by have := (HNE.out gb (by simp [Value.ownBlock])).2; exact this
            obtain ⟨nd, hnd⟩ : ∃ nd, Q[k]? = some nd := ⟨_, List.getElem?_eq_getElem (show k < Q.length by rw [Lay.own_len HOQ.out]; exact hlt2)⟩
            obtain ⟨r0, r1⟩ := own_cellN (j := 0) HOQ.out hnd rfl
            have HV := Lib.hid (own_setN (j := 0) (x' := ⟨{ nd.p with tag := 99 }, nd.l, nd.r⟩) (v := .int .i64 99) HOQ.out hnd rfl (by omega))
            have HBV := Lib.hid (HBQ.out.far (p := ⟨gb, k * 9 + 0, none⟩) (by show g16 ≠ gb; omega) (.int .i64 99))
            have HSV := Lib.hid (bl_set HSQ.out (p := ⟨gb, k * 9 + 0, none⟩) hb1 (.int .i64 99))
            rw [Nat.add_zero] at r0 r1 HV HBV HSV
            have x16 : wr.cell? ⟨g16, 0, none⟩ = some (.slice (some ⟨gb, 0, none⟩) n16 c16) := HBQ.out.cell 0
            clear hnd
            go_wp2
            go_roundg (gk - 1)
            · exact ⟨k + 1, _, by omega, by go_num, HV, HBV, HSV⟩
            · omega
          · obtain rfl : k = n16 := by omega
            have hk1 : (k : Int) ≤ (k : Int) := by omega
            go_upto_region 25 with fail
            obtain ⟨wu, hwu⟩ : ∃ W, W = wr := ⟨_, rfl⟩
            have HKU := Lib.hid (show KP w g4 g5 g8a h8a #[.slice A1 n1 c1, .slice A2 n2 c2] (.slice A5a n5a c5a) (.slice A6a n6a c6a) A5a n5a L A6a n6a M wu from by rw [hwu]; exact HK2.out.ca HSQ.out)
            have HQU := Lib.hid (show Below w9.heap.size w9 wu from by rw [hwu]; exact bl_ca HQ12.out HSQ.out)
            rw [← hwu]
            clear hwu HOQ HBQ HSQ HB16 HO16 HS14
            have HB8U := Lib.hid HKU.out.b8
            have HB9U := Lib.hid HKU.out.b9
            have HB5U := Lib.hid HKU.out.b5
            have HRL := Lib.hid (rd_all HKU.out.r5)
            have HRM := Lib.hid (rd_all HKU.out.r6)
            have HH1 := Lib.hid (fun w' (q : Below wu.heap.size wu w') => HSH1.out w' (bl_ca HKU.out.q q))
            have HH2 := Lib.hid (fun w' (q : Below wu.heap.size wu w') => HSH2.out w' (bl_ca HKU.out.q q))
            refine wp_region_ps (S := SeqN [3, 4, 10, 11] (fun z mm w' => match z with | 1 => Below wu.heap.size wu w' ∧ ∃ A2 n2 c2, mm 3 = .agg #[.slice A2 n2 c2] ∧ LN.rd w' AllB A2 n2 L | 3 => Below wu.heap.size wu w' ∧ ∃ A2 n2 c2, mm 10 = .agg #[.slice A2 n2 c2] ∧ LN.rd w' AllB A2 n2 M | _ => Below wu.heap.size wu w')) (by kernel_rfl) ?spswg9 ?ppswg9
            case spswg9 =>
              exact SeqN.start (by decide) (Below.refl _ _).drew
            refine Ps.st (i := 0) (d := some 118) (u := (.agg #[.slice A5a n5a c5a])) rfl rfl ?ywg9_10 ?rwg9_10
            case ywg9_10 =>
              refine StepS.read [] (by kernel_rfl) (SeqN.pass (by decide)) (by rfl) (fun L9 m9 w9 hSh hAt hDn hS => ?_)
              have hT : Below wu.heap.size wu w9 := SeqN.lt (ks := [3, 4, 10, 11]) (k := 11) (by simp) (reach_no hSh (f := 14) (j := 11) (by kernel_rfl) hDn) (fun z _ _ hz h => by match z, hz, h with | 0, _, h => exact h | 1, _, h => exact h.1 | 2, _, h => exact h | 3, _, h => exact h.1 | _ + 4, hz, _ => exact absurd hz (by simp)) hS
              have x0 : w9.cell? ⟨g8a, 0, none⟩ = some (.slice A5a n5a c5a) := (HB8U.out.ca hT).cell 0
              clear hT hS
              go_simp
              try rfl
            try simp only [Act.put, sA, sZ, sS]
            refine Ps.st (i := 1) (d := some 119) (u := (.pointer (some ⟨g5, 0, none⟩))) rfl rfl (by exact StepS.pure (SeqN.pass (by decide)) rfl fun _ => by first | rfl | (go_simp; done) | (go_simp; rfl)) ?_
            try simp only [Act.put, sA, sZ, sS]
            refine Ps.st (i := 2) (d := some 120) (u := (.agg #[.slice A1 n1 c1])) rfl rfl ?ywg9_12 ?rwg9_12
            case ywg9_12 =>
              refine StepS.read [] (by kernel_rfl) (SeqN.pass (by decide)) (by rfl) (fun L9 m9 w9 hSh hAt hDn hS => ?_)
              have hT : Below wu.heap.size wu w9 := SeqN.lt (ks := [3, 4, 10, 11]) (k := 11) (by simp) (reach_no hSh (f := 14) (j := 11) (by kernel_rfl) hDn) (fun z _ _ hz h => by match z, hz, h with | 0, _, h => exact h | 1, _, h => exact h.1 | 2, _, h => exact h | 3, _, h => exact h.1 | _ + 4, hz, _ => exact absurd hz (by simp)) hS
              have x0 : w9.cell? ⟨g5, 0, none⟩ = some (.slice A1 n1 c1) := (HB5U.out.ca hT).cell 0
              clear hT hS
              go_simp
              try rfl
            try simp only [Act.put, sA, sZ, sS]
            refine Ps.one (k := 3) (d := some 121) rfl rfl (by kernel_rfl) (TurnS.call (V := fun v => ∃ A2 n2 c2, v = .agg #[.slice A2 n2 c2]) ?fwg9_13 ?awg9_13 [] (by kernel_rfl) (by rfl) (fun w9 => ?hwg9_13) (fun L9 m9 w9 hSh hAt hDn hS => ?cwg9_13)) (fun v3 hVv3 => ?rwg9_13)
            case hwg9_13 => go_simp; refine ⟨?_, ?_⟩ <;> rfl
            case cwg9_13 =>
              have hT := SeqN.at_ (m0 := m9) (m1 := m9) [] [4, 10, 11] hSh (fun d hd => by cases hd) hDn (by kernel_rfl) hS
              refine (HH1.out w9 hT).mono ?_
              rintro e w8 ⟨A2, n2, c2, rfl, hr, hnc, hcm, q8⟩
              exact ⟨_, rfl, ⟨A2, n2, c2, rfl⟩, SeqN.set_ (m0 := m9) (m1 := m9) [] [4, 10, 11] hSh (fun d hd => by cases hd) hDn (by kernel_rfl) (by decide) (by decide) ⟨bl_ca hT q8, A2, n2, c2, upd_same _ _ _, rd_all hr⟩⟩
            try simp only [Act.put, sA, sZ, sS]
            obtain ⟨Sa, sa, ta, rfl⟩ := hVv3
            refine Ps.one (k := 4) (d := some 122) rfl rfl (by kernel_rfl) (TurnS.call (V := fun v => v = .bool true) ?fwg9_14 ?awg9_14 [3] (by kernel_rfl) (by rfl) (fun w9 => ?hwg9_14) (fun L9 m9 w9 hSh hAt hDn hS => ?cwg9_14)) (fun v4 hVv4 => ?rwg9_14)
            case hwg9_14 => go_simp; refine ⟨?_, ?_⟩ <;> rfl
            case cwg9_14 =>
              obtain ⟨hT, A3, n3, c3, hv, hr⟩ := SeqN.at_ [3] [10, 11] hSh hAt hDn (by kernel_rfl) hS
              obtain ⟨rfl, rfl, rfl⟩ : Sa = A3 ∧ sa = n3 ∧ ta = c3 := by have h9 : Value.agg #[.slice Sa sa ta] = .agg #[.slice A3 n3 c3] := (hAt 3 (by simp)).2.symm.trans hv; simpa [and_assoc] using h9
              refine (rsame_any AllB AllB L L A5a n5a c5a Sa sa ta w9 (Lay.rd_below HRL.out hT) hr (by omega)).mono ?_
              rintro e w8 ⟨rfl, q8⟩
              exact ⟨_, rfl, by rw [decide_eq_true rfl], SeqN.set_ [3] [10, 11] hSh hAt hDn (by kernel_rfl) (by decide) (by decide) (bl_ca hT q8)⟩
            try simp only [Act.put, sA, sZ, sS]
            subst hVv4
            refine Ps.st (i := 5) (d := some 123) (u := (.bool (false))) rfl rfl (by exact StepS.pure (SeqN.pass (by decide)) rfl fun _ => rfl) ?_
            try simp only [Act.put, sA, sZ, sS]
            refine Ps.st (i := 6) (d := some 124) (u := (.bool (false))) rfl rfl (by exact StepS.pure (SeqN.pass (by decide)) rfl fun _ => rfl) ?_
            try simp only [Act.put, sA, sZ, sS]
            refine Ps.st (i := 7) (d := some 125) (u := (.agg #[.slice A6a n6a c6a])) rfl rfl ?ywg9_17 ?rwg9_17
            case ywg9_17 =>
              refine StepS.read [] (by kernel_rfl) (SeqN.pass (by decide)) (by rfl) (fun L9 m9 w9 hSh hAt hDn hS => ?_)
              have hT : Below wu.heap.size wu w9 := SeqN.lt (ks := [3, 4, 10, 11]) (k := 11) (by simp) (reach_no hSh (f := 14) (j := 11) (by kernel_rfl) hDn) (fun z _ _ hz h => by match z, hz, h with | 0, _, h => exact h | 1, _, h => exact h.1 | 2, _, h => exact h | 3, _, h => exact h.1 | _ + 4, hz, _ => exact absurd hz (by simp)) hS
              have x0 : w9.cell? ⟨h8a, 0, none⟩ = some (.slice A6a n6a c6a) := (HB9U.out.ca hT).cell 0
              clear hT hS
              go_simp
              try rfl
            try simp only [Act.put, sA, sZ, sS]
            refine Ps.st (i := 8) (d := some 126) (u := (.pointer (some ⟨g5, 1, none⟩))) rfl rfl (by exact StepS.pure (SeqN.pass (by decide)) rfl fun _ => by first | rfl | (go_simp; done) | (go_simp; rfl)) ?_
            try simp only [Act.put, sA, sZ, sS]
            refine Ps.st (i := 9) (d := some 127) (u := (.agg #[.slice A2 n2 c2])) rfl rfl ?ywg9_19 ?rwg9_19
            case ywg9_19 =>
              refine StepS.read [] (by kernel_rfl) (SeqN.pass (by decide)) (by rfl) (fun L9 m9 w9 hSh hAt hDn hS => ?_)
              have hT : Below wu.heap.size wu w9 := SeqN.lt (ks := [3, 4, 10, 11]) (k := 11) (by simp) (reach_no hSh (f := 14) (j := 11) (by kernel_rfl) hDn) (fun z _ _ hz h => by match z, hz, h with | 0, _, h => exact h | 1, _, h => exact h.1 | 2, _, h => exact h | 3, _, h => exact h.1 | _ + 4, hz, _ => exact absurd hz (by simp)) hS
              have x0 : w9.cell? ⟨g5, 1, none⟩ = some (.slice A2 n2 c2) := (HB5U.out.ca hT).cell 1
              clear hT hS
              go_simp
              try rfl
            try simp only [Act.put, sA, sZ, sS]
            refine Ps.one (k := 10) (d := some 128) rfl rfl (by kernel_rfl) (TurnS.call (V := fun v => ∃ A2 n2 c2, v = .agg #[.slice A2 n2 c2]) ?fwg9_20 ?awg9_20 [3, 4] (by kernel_rfl) (by rfl) (fun w9 => ?hwg9_20) (fun L9 m9 w9 hSh hAt hDn hS => ?cwg9_20)) (fun v10 hVv10 => ?rwg9_20)
            case hwg9_20 => go_simp; refine ⟨?_, ?_⟩ <;> rfl
            case cwg9_20 =>
              have hT := SeqN.at_ [3, 4] [11] hSh hAt hDn (by kernel_rfl) hS
              refine (HH2.out w9 hT).mono ?_
              rintro e w8 ⟨A2, n2, c2, rfl, hr, hnc, hcm, q8⟩
              exact ⟨_, rfl, ⟨A2, n2, c2, rfl⟩, SeqN.set_ [3, 4] [11] hSh hAt hDn (by kernel_rfl) (by decide) (by decide) ⟨bl_ca hT q8, A2, n2, c2, upd_same _ _ _, rd_all hr⟩⟩
            try simp only [Act.put, sA, sZ, sS]
            obtain ⟨Sb, sb, tb, rfl⟩ := hVv10
            refine Ps.one (k := 11) (d := some 129) rfl rfl (by kernel_rfl) (TurnS.call (V := fun v => v = .bool true) ?fwg9_21 ?awg9_21 [3, 4, 10] (by kernel_rfl) (by rfl) (fun w9 => ?hwg9_21) (fun L9 m9 w9 hSh hAt hDn hS => ?cwg9_21)) (fun v11 hVv11 => ?rwg9_21)
            case hwg9_21 => go_simp; refine ⟨?_, ?_⟩ <;> rfl
            case cwg9_21 =>
              obtain ⟨hT, A3, n3, c3, hv, hr⟩ := SeqN.at_ [3, 4, 10] [] hSh hAt hDn (by kernel_rfl) hS
              obtain ⟨rfl, rfl, rfl⟩ : Sb = A3 ∧ sb = n3 ∧ tb = c3 := by have h9 : Value.agg #[.slice Sb sb tb] = .agg #[.slice A3 n3 c3] := (hAt 10 (by simp)).2.symm.trans hv; simpa [and_assoc] using h9
              refine (rsame_any AllB AllB M M A6a n6a c6a Sb sb tb w9 (Lay.rd_below HRM.out hT) hr (by omega)).mono ?_
              rintro e w8 ⟨rfl, q8⟩
              exact ⟨_, rfl, by rw [decide_eq_true rfl], SeqN.set_ [3, 4, 10] [] hSh hAt hDn (by kernel_rfl) (by decide) (by decide) (bl_ca hT q8)⟩
            try simp only [Act.put, sA, sZ, sS]
            subst hVv11
            refine Ps.st (i := 12) (d := some 130) (u := (.bool (false))) rfl rfl (by exact StepS.pure (SeqN.pass (by decide)) rfl fun _ => rfl) ?_
            try simp only [Act.put, sA, sZ, sS]
            refine Ps.st (i := 13) (d := some 131) (u := (.bool (false))) rfl rfl (by exact StepS.pure (SeqN.pass (by decide)) rfl fun _ => rfl) ?_
            try simp only [Act.put, sA, sZ, sS]
            refine Ps.done (by kernel_rfl) (fun wg9 hS => ?_) _
            have HWW := Lib.hid (show Below wu.heap.size wu wg9 from SeqN.fin (by rfl) hS)
            clear hS
            obtain ⟨wx, rfl⟩ : ∃ x, x = wg9 := ⟨_, rfl⟩
            go_wp2
            go_roundg (gk0 - 1)
            · exact ⟨i + 1, HG.out.1, HG.out.2, by go_num, Lib.hid (bl_ca HQU.out HWW.out)⟩
            · omega
      · obtain rfl : i = nt := by omega
        have hi1 : (i : Int) ≤ (i : Int) := by omega
        go_wp2
        go_ret
        exact ⟨rfl, HK.out.q⟩
theorem makes_walkF (T : Option Addr) (nt ct : Nat) (tags : List Int) (lf : Nd) (x1 : List Nd) (A1 : Option Addr) (n1 c1 : Nat) (x2 : List Nd) (A2 : Option Addr) (n2 c2 : Nat) (w : World) (ht : LZ.rd w AllB T nt tags) (hnt : nt ≤ 9223372036854775807) (_hw : ∀ z ∈ tags, (Lit.int .i64 z).wf = true) (hl : SmP lf.p) (_hg : RgP lf.p) (h1 : LN.rd w AllB A1 n1 x1) (hn1 : n1 ≤ 9223372036854775807) (hS1 : ∀ x ∈ x1, SmP x.p ∧ RgP x.p) (h2 : LN.rd w AllB A2 n2 x2) (hn2 : n2 ≤ 9223372036854775807) (hS2 : ∀ x ∈ x2, SmP x.p ∧ RgP x.p) (hT : Tab w) :
    Calls Tryd.prog 3 #[.slice T nt ct, .agg (Nd.cells lf), .agg #[.slice A1 n1 c1, .slice A2 n2 c2]] w fun e w' => e = .returned (.bool true) ∧ Below w.heap.size w w' :=
  makes_walk T nt ct tags lf x1 A1 n1 c1 x2 A2 n2 c2 w ht hnt hl h1 hn1 (fun z hz => (hS1 z hz).1) h2 hn2 (fun z hz => (hS2 z hz).1) hT
end Go.Proofs.YtoaggmldekejoaaDoor
