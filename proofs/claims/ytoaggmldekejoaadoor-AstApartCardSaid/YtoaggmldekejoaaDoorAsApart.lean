/- AstApart: unlike trees are written unlike. Conditions: the nodes read so; what the tables hold. -/
import Derived.Test.YtoaggmldekejoaaDoorAsY
import Derived.Test.YtoaggmldekejoaaDoorWt2A
namespace Go.Proofs.YtoaggmldekejoaaDoor
open Go.RowKit
theorem apart_law {x y : List Nd} (hx : okF x = true) (hy : okF y = true) : prF x = prF y ↔ x = y := by
  obtain ⟨t, ht⟩ := okF_ex hx
  obtain ⟨u, hu⟩ := okF_ex hy
  constructor
  · intro h
    unfold prF at h
    rw [ht, hu] at h
    have h1 : prT t = prT u := by
      have := congrArg (fun s : ByteArray => s.data.toList) h
      simpa using this
    obtain ⟨e1, o1, _⟩ := treeF_some.1 ht
    obtain ⟨e2, o2, _⟩ := treeF_some.1 hu
    rw [e1, e2, prT_inj o1 o2 h1]
  · rintro rfl; rfl
theorem chk_or (x : List Nd) : chkE x = 0 ∧ okF x = true ∨ chkE x = 180 ∧ okF x = false := by
  unfold chkE
  cases okF x
  · exact .inr ⟨rfl, rfl⟩
  · exact .inl ⟨rfl, rfl⟩
theorem short_n {xs : List Nd} {w : World} {F : Nat → Prop} {A : Option Addr} {n : Nat} (h : LN.rd w F A n (shortN xs)) : n ≤ 100000 := by have := Lay.rd_len h; have := short_len xs; omega
set_option maxRecDepth 100000 in
set_option maxHeartbeats 8000000 in
theorem apart_walk (xs ys : List Nd) (A : Option Addr) (n c : Nat) (B : Option Addr) (m d : Nat) (w : World) (h : LN.rd w AllB A n xs) (k : LN.rd w AllB B m ys) (hn : n ≤ 9223372036854775807) (hm : m ≤ 9223372036854775807) (hT : Tab w) (hS : ∀ x ∈ xs, SmP x.p) (kS : ∀ x ∈ ys, SmP x.p) (hR : ∀ x ∈ xs, RgP x.p) (kR : ∀ x ∈ ys, RgP x.p) :
    Calls Tryd.prog 5 #[.agg #[.slice A n c], .agg #[.slice B m d]] w fun e w' => e = .returned (.bool true) ∧ Below w.heap.size w w' := by
  have HQ1 := Lib.hid (bl_al (bl_al (Below.refl w.heap.size w) (.cells #[.slice A n c] 30)) (.cells #[.slice B m d] 30))
  have HB2 := Lib.hid ((Blk.new w 30 #[.slice A n c]).alloc (.cells #[.slice B m d] 30))
  have HB3 := Lib.hid (show Blk ((w.alloc (.cells #[.slice A n c] 30)).alloc (.cells #[.slice B m d] 30)) (w.heap.size + 1) 30 #[.slice B m d] from by
    have := Blk.new (w.alloc (.cells #[.slice A n c] 30)) 30 #[.slice B m d]
    rwa [World.size_alloc] at this)
  have HX := Lib.hid (Lay.rd_below h HQ1.out)
  have HY := Lib.hid (Lay.rd_below k HQ1.out)
  have HT := Lib.hid (hT.below HQ1.out)
  have HSX := Lib.hid (And.intro hS kS)
  have HRX := Lib.hid (And.intro hR kR)
  have HN := Lib.hid (And.intro hn hm)
  have HLAW := Lib.hid (fun h1 h2 => apart_law (x := shortN xs) (y := shortN ys) h1 h2)
  clear h k hT hS kS hR kR hn hm
  go_enter Tryd.func5, Tryd.ntmps5
  go_wp2_with fail
  generalize (w.alloc (.cells #[.slice A n c] 30)).alloc (.cells #[.slice B m d] 30) = w1 at *
  refine (wakes_any w1 HT.out).mono ?_
  rintro e w2 ⟨rfl, q2⟩
  have HQ2 := Lib.hid (bl_ca HQ1.out q2)
  have HX2 := Lib.hid (Lay.rd_below HX.out q2)
  have HY2 := Lib.hid (Lay.rd_below HY.out q2)
  have HT2 := Lib.hid (HT.out.below q2)
  have HC2 := Lib.hid (HB2.out.ca q2)
  have HC3 := Lib.hid (HB3.out.ca q2)
  clear q2
  go_upto_region 3 with fail
  refine wp_region_psF (F := fun a1 a' w' => ∃ g8a h8a A5a n5a c5a A6a n6a c6a, (∃ v13 v14 v15 v16, a' = ((((((a1.put (some 13) v13).put (some 14) v14).put (some 15) v15).put (some 16) v16).put (some 5) (.pointer (some ⟨g8a, 0, none⟩))).put (some 6) (.pointer (some ⟨h8a, 0, none⟩)))) ∧ Below w2.heap.size w2 w' ∧ (w2.heap.size ≤ g8a ∧ w2.heap.size ≤ h8a ∧ g8a ≠ h8a) ∧ Blk w' g8a 30 #[.slice A5a n5a c5a] ∧ Blk w' h8a 30 #[.slice A6a n6a c6a] ∧ LN.rd w' (fun x => x ≠ g8a ∧ x ≠ h8a) A5a n5a (shortN xs) ∧ LN.rd w' (fun x => x ≠ g8a ∧ x ≠ h8a) A6a n6a (shortN ys) ∧ (n5a ≤ c5a ∧ c5a ≤ 9223372036854775807) ∧ n6a ≤ c6a ∧ c6a ≤ 9223372036854775807) (S := W2A (W2KA (shortN xs) (shortN ys) 30 w2)) (by kernel_rfl) ?spswg1 ?ppswg1 ?kpswg1
  case spswg1 =>
    exact W2A.start (by decide) ⟨(Below.refl w2.heap.size w2).drew, (fun g e => by cases e), (fun g e => by cases e)⟩
  case ppswg1 =>
    refine Ps.st (i := 0) (d := some 13) (u := (.agg #[.slice A n c])) rfl rfl ?ywg1_2 ?rwg1_2
    case ywg1_2 =>
      refine StepS.read [] (by kernel_rfl) (W2A.pass (by decide) (by decide) (by decide)) (by rfl) (fun L9 m9 w9 hSh hAt hDn hS => ?_)
      have hT : Below w2.heap.size w2 w9 := W2A.any (T := fun w9 => Below w2.heap.size w2 w9) (fun _ _ _ _ _ h => h.1) hS
      have x0 : w9.cell? ⟨w.heap.size, 0, none⟩ = some (.slice A n c) := (HC2.out.ca hT).cell 0
      clear hT hS
      go_simp
      try rfl
    try simp only [Act.put, sA, sZ, sS]
    refine Ps.st (i := 2) (d := some 15) (u := (.agg #[.slice B m d])) rfl rfl ?ywg1_3 ?rwg1_3
    case ywg1_3 =>
      refine StepS.read [] (by kernel_rfl) (W2A.pass (by decide) (by decide) (by decide)) (by rfl) (fun L9 m9 w9 hSh hAt hDn hS => ?_)
      have hT : Below w2.heap.size w2 w9 := W2A.any (T := fun w9 => Below w2.heap.size w2 w9) (fun _ _ _ _ _ h => h.1) hS
      have x0 : w9.cell? ⟨w.heap.size + 1, 0, none⟩ = some (.slice B m d) := (HC3.out.ca hT).cell 0
      clear hT hS
      go_simp
      try rfl
    try simp only [Act.put, sA, sZ, sS]
    refine Ps.some3 (i := 1) (j := 4) (k := 5) (by kernel_rfl) ?bwg1_4_1 ?bwg1_4_4 ?bwg1_4_5
    case bwg1_4_1 =>
      refine Turns.mk (i := 1) (d := some 14) rfl rfl (TurnS.call (V := fun v => ∃ A n c, v = .agg #[.slice A n c]) ?fwg1_5 ?awg1_5 [] (by kernel_rfl) (by rfl) (fun w9 => ?hwg1_5) (fun L9 m9 w9 hSh hAt hDn hS => ?cwg1_5)) (fun v5a hVv5a => ?rwg1_5)
      case hwg1_5 => go_simp; refine ⟨?_, ?_⟩ <;> rfl
      case cwg1_5 =>
        obtain ⟨al, bl, hB, hset⟩ := W2A.on1 hDn (post_no (post := [3]) hSh hDn (by kernel_rfl) 3 (by simp)) (post_no (post := [6]) hSh hDn (by kernel_rfl) 6 (by simp)) (post_no (post := [7]) hSh hDn (by kernel_rfl) 7 (by simp)) hS
        have hT := hB.1
        refine (short_any AllB xs A n c w9 (Lay.rd_below HX2.out hT) HN.out.1 HSX.out.1).mono ?_
        rintro e w6 ⟨A, n, c, rfl, hr6, h6a, h6b, q6⟩
        exact ⟨_, rfl, ⟨A, n, c, rfl⟩, hset _ _ (W2KA.c1 hB q6 hr6 h6a h6b)⟩
      try simp only [Act.put, sA, sZ, sS]
      obtain ⟨A5a, n5a, c5a, rfl⟩ := hVv5a
      refine Ps.some3 (i := 3) (j := 4) (k := 5) (by kernel_rfl) ?bwg1_6_3 ?bwg1_6_4 ?bwg1_6_5
      case bwg1_6_3 =>
        refine Turns.mk (i := 3) (d := some 16) rfl rfl (TurnS.call (V := fun v => ∃ A n c, v = .agg #[.slice A n c]) ?fwg1_7 ?awg1_7 [1] (by kernel_rfl) (by rfl) (fun w9 => ?hwg1_7) (fun L9 m9 w9 hSh hAt hDn hS => ?cwg1_7)) (fun v6a hVv6a => ?rwg1_7)
        case hwg1_7 => go_simp; refine ⟨?_, ?_⟩ <;> rfl
        case cwg1_7 =>
          obtain ⟨al, bl, hB, hset⟩ := W2A.on3 (hAt 1 (by simp)).1 hDn (post_no (post := [6]) hSh hDn (by kernel_rfl) 6 (by simp)) (post_no (post := [7]) hSh hDn (by kernel_rfl) 7 (by simp)) hS
          have hT := hB.1
          refine (short_any AllB ys B m d w9 (Lay.rd_below HY2.out hT) HN.out.2 HSX.out.2).mono ?_
          rintro e w6 ⟨A, n, c, rfl, hr6, h6a, h6b, q6⟩
          exact ⟨_, rfl, ⟨A, n, c, rfl⟩, hset _ _ (W2KA.c3 hB q6 hr6 h6a h6b)⟩
        try simp only [Act.put, sA, sZ, sS]
        obtain ⟨A6a, n6a, c6a, rfl⟩ := hVv6a
        refine Ps.some2 (i := 4) (j := 5) (by kernel_rfl) ?bwg1_8_4 ?bwg1_8_5
        case bwg1_8_4 =>
          refine Turns.mk (i := 4) (d := some 5) rfl rfl (TurnS.value (V := fun v => ∃ g, v = .pointer (some ⟨g, 0, none⟩)) [] (by kernel_rfl) (by rfl) (fun L9 m9 w9 hSh hAt hDn hS => ?cwg1_9)) (fun v4a hVv4a => ?rwg1_9)
          case cwg1_9 =>
            exact ⟨.pointer (some ⟨w9.heap.size, 0, none⟩), w9.alloc (.cells #[.slice none 0 0] 30), (by clear hS; go_simp), ⟨_, rfl⟩, W2A.made4 hDn (post_no (post := [6]) hSh hDn (by kernel_rfl) 6 (by simp)) (post_no (post := [7]) hSh hDn (by kernel_rfl) 7 (by simp)) rfl (W2KA.m4) hS⟩
          try simp only [Act.put, sA, sZ, sS]
          obtain ⟨g8a, rfl⟩ := hVv4a
          refine Ps.one (k := 5) (d := some 6) rfl rfl (by kernel_rfl) (TurnS.value (V := fun v => ∃ g, v = .pointer (some ⟨g, 0, none⟩)) [] (by kernel_rfl) (by rfl) (fun L9 m9 w9 hSh hAt hDn hS => ?cwg1_10)) (fun v5a hVv5a => ?rwg1_10)
          case cwg1_10 =>
            exact ⟨.pointer (some ⟨w9.heap.size, 0, none⟩), w9.alloc (.cells #[.slice none 0 0] 30), (by clear hS; go_simp), ⟨_, rfl⟩, W2A.made5 hDn (post_no (post := [6]) hSh hDn (by kernel_rfl) 6 (by simp)) (post_no (post := [7]) hSh hDn (by kernel_rfl) 7 (by simp)) rfl (W2KA.m5) hS⟩
          try simp only [Act.put, sA, sZ, sS]
          obtain ⟨h8a, rfl⟩ := hVv5a
          refine Ps.st (i := 6) (d := none) (u := undef) rfl rfl ?ywg1_11 ?rwg1_11
          case ywg1_11 =>
            refine StepS.store [1, 3, 4, 5] (by kernel_rfl) (by rfl) (fun L9 m9 w9 hSh hAt hDn hS => ?_)
            obtain ⟨g, k, hm, hk, hB, hset⟩ := W2A.on6 (hAt 1 (by simp)).1 (hAt 3 (by simp)).1 (hAt 4 (by simp)).1 (hAt 5 (by simp)).1 hDn (post_no (post := [7]) hSh hDn (by kernel_rfl) 7 (by simp)) hS
            obtain rfl : g8a = g := by have h9 : Value.pointer (some ⟨g8a, 0, none⟩) = .pointer (some ⟨g, 0, none⟩) := (hAt 4 (by simp)).2.symm.trans hm; simpa using h9
            obtain rfl : h8a = k := by have h9 : Value.pointer (some ⟨h8a, 0, none⟩) = .pointer (some ⟨k, 0, none⟩) := (hAt 5 (by simp)).2.symm.trans hk; simpa using h9
            obtain ⟨_, ⟨hA, hb2⟩, _⟩ := id hB
            have hBk := (hA g8a rfl).2.2
            refine (exec_store_blk (w := w9) 30 (.tmp 5) (.tmp 14) (by rfl) g8a 30 #[.slice none 0 0] #[.slice A5a n5a c5a] (by rfl) (by rfl) hBk rfl treeI (by simp [Value.oneCell'])).imp fun w7 hx => ⟨hx.1, hset _ (W2KA.st6 hB (hAt 1 (by simp)).2 hx.2.1 hx.2.2)⟩
          try simp only [Act.put]
          refine Ps.st (i := 7) (d := none) (u := undef) rfl rfl ?ywg1_12 ?rwg1_12
          case ywg1_12 =>
            refine StepS.store [1, 3, 4, 5, 6] (by kernel_rfl) (by rfl) (fun L9 m9 w9 hSh hAt hDn hS => ?_)
            obtain ⟨g, k, hm, hk, hB, hset⟩ := W2A.on7 (hAt 1 (by simp)).1 (hAt 3 (by simp)).1 (hAt 4 (by simp)).1 (hAt 5 (by simp)).1 (hAt 6 (by simp)).1 hDn  hS
            obtain rfl : g8a = g := by have h9 : Value.pointer (some ⟨g8a, 0, none⟩) = .pointer (some ⟨g, 0, none⟩) := (hAt 4 (by simp)).2.symm.trans hm; simpa using h9
            obtain rfl : h8a = k := by have h9 : Value.pointer (some ⟨h8a, 0, none⟩) = .pointer (some ⟨k, 0, none⟩) := (hAt 5 (by simp)).2.symm.trans hk; simpa using h9
            obtain ⟨_, A1, n1, c1, hA, hb2, _⟩ := id hB
            have hBk := (hb2 h8a rfl).2
            refine (exec_store_blk (w := w9) 30 (.tmp 6) (.tmp 16) (by rfl) h8a 30 #[.slice none 0 0] #[.slice A6a n6a c6a] (by rfl) (by rfl) hBk rfl treeI (by simp [Value.oneCell'])).imp fun w7 hx => ⟨hx.1, hset _ (W2KA.st7 hB (hAt 3 (by simp)).2 hx.2.1 hx.2.2)⟩
          try simp only [Act.put]
          refine Ps.done (by kernel_rfl) (fun wg1 hS => ?_) _
          obtain ⟨g, k, hm, hk, hB⟩ := W2A.fin (by rfl) (by rfl) (by rfl) hS
          clear hS
          obtain rfl : g8a = g := by have h9 : Value.pointer (some ⟨g8a, 0, none⟩) = .pointer (some ⟨g, 0, none⟩) := hm; simpa using h9
          obtain rfl : h8a = k := by have h9 : Value.pointer (some ⟨h8a, 0, none⟩) = .pointer (some ⟨k, 0, none⟩) := hk; simpa using h9
          have hB := W2KA.pair (A := A5a) (n := n5a) (c := c5a) (A' := A6a) (n' := n6a) (c' := c6a) hB rfl rfl
          refine ⟨g8a, h8a, A5a, n5a, c5a, A6a, n6a, c6a, ⟨.agg #[.slice A n c], .agg #[.slice A5a n5a c5a], .agg #[.slice B m d], .agg #[.slice A6a n6a c6a], ?_⟩, hB⟩
          clear hB hm hk
          rfl
        case bwg1_8_5 =>
          refine Turns.mk (i := 5) (d := some 6) rfl rfl (TurnS.value (V := fun v => ∃ g, v = .pointer (some ⟨g, 0, none⟩)) [] (by kernel_rfl) (by rfl) (fun L9 m9 w9 hSh hAt hDn hS => ?cwg1_13)) (fun v5a hVv5a => ?rwg1_13)
          case cwg1_13 =>
            exact ⟨.pointer (some ⟨w9.heap.size, 0, none⟩), w9.alloc (.cells #[.slice none 0 0] 30), (by clear hS; go_simp), ⟨_, rfl⟩, W2A.made5 hDn (post_no (post := [6]) hSh hDn (by kernel_rfl) 6 (by simp)) (post_no (post := [7]) hSh hDn (by kernel_rfl) 7 (by simp)) rfl (W2KA.m5) hS⟩
          try simp only [Act.put, sA, sZ, sS]
          obtain ⟨h8a, rfl⟩ := hVv5a
          refine Ps.one (k := 4) (d := some 5) rfl rfl (by kernel_rfl) (TurnS.value (V := fun v => ∃ g, v = .pointer (some ⟨g, 0, none⟩)) [] (by kernel_rfl) (by rfl) (fun L9 m9 w9 hSh hAt hDn hS => ?cwg1_14)) (fun v4a hVv4a => ?rwg1_14)
          case cwg1_14 =>
            exact ⟨.pointer (some ⟨w9.heap.size, 0, none⟩), w9.alloc (.cells #[.slice none 0 0] 30), (by clear hS; go_simp), ⟨_, rfl⟩, W2A.made4 hDn (post_no (post := [6]) hSh hDn (by kernel_rfl) 6 (by simp)) (post_no (post := [7]) hSh hDn (by kernel_rfl) 7 (by simp)) rfl (W2KA.m4) hS⟩
          try simp only [Act.put, sA, sZ, sS]
          obtain ⟨g8a, rfl⟩ := hVv4a
          refine Ps.st (i := 6) (d := none) (u := undef) rfl rfl ?ywg1_15 ?rwg1_15
          case ywg1_15 =>
            refine StepS.store [1, 3, 4, 5] (by kernel_rfl) (by rfl) (fun L9 m9 w9 hSh hAt hDn hS => ?_)
            obtain ⟨g, k, hm, hk, hB, hset⟩ := W2A.on6 (hAt 1 (by simp)).1 (hAt 3 (by simp)).1 (hAt 4 (by simp)).1 (hAt 5 (by simp)).1 hDn (post_no (post := [7]) hSh hDn (by kernel_rfl) 7 (by simp)) hS
            obtain rfl : g8a = g := by have h9 : Value.pointer (some ⟨g8a, 0, none⟩) = .pointer (some ⟨g, 0, none⟩) := (hAt 4 (by simp)).2.symm.trans hm; simpa using h9
            obtain rfl : h8a = k := by have h9 : Value.pointer (some ⟨h8a, 0, none⟩) = .pointer (some ⟨k, 0, none⟩) := (hAt 5 (by simp)).2.symm.trans hk; simpa using h9
            obtain ⟨_, ⟨hA, hb2⟩, _⟩ := id hB
            have hBk := (hA g8a rfl).2.2
            refine (exec_store_blk (w := w9) 30 (.tmp 5) (.tmp 14) (by rfl) g8a 30 #[.slice none 0 0] #[.slice A5a n5a c5a] (by rfl) (by rfl) hBk rfl treeI (by simp [Value.oneCell'])).imp fun w7 hx => ⟨hx.1, hset _ (W2KA.st6 hB (hAt 1 (by simp)).2 hx.2.1 hx.2.2)⟩
          try simp only [Act.put]
          refine Ps.st (i := 7) (d := none) (u := undef) rfl rfl ?ywg1_16 ?rwg1_16
          case ywg1_16 =>
            refine StepS.store [1, 3, 4, 5, 6] (by kernel_rfl) (by rfl) (fun L9 m9 w9 hSh hAt hDn hS => ?_)
            obtain ⟨g, k, hm, hk, hB, hset⟩ := W2A.on7 (hAt 1 (by simp)).1 (hAt 3 (by simp)).1 (hAt 4 (by simp)).1 (hAt 5 (by simp)).1 (hAt 6 (by simp)).1 hDn  hS
            obtain rfl : g8a = g := by have h9 : Value.pointer (some ⟨g8a, 0, none⟩) = .pointer (some ⟨g, 0, none⟩) := (hAt 4 (by simp)).2.symm.trans hm; simpa using h9
            obtain rfl : h8a = k := by have h9 : Value.pointer (some ⟨h8a, 0, none⟩) = .pointer (some ⟨k, 0, none⟩) := (hAt 5 (by simp)).2.symm.trans hk; simpa using h9
            obtain ⟨_, A1, n1, c1, hA, hb2, _⟩ := id hB
            have hBk := (hb2 h8a rfl).2
            refine (exec_store_blk (w := w9) 30 (.tmp 6) (.tmp 16) (by rfl) h8a 30 #[.slice none 0 0] #[.slice A6a n6a c6a] (by rfl) (by rfl) hBk rfl treeI (by simp [Value.oneCell'])).imp fun w7 hx => ⟨hx.1, hset _ (W2KA.st7 hB (hAt 3 (by simp)).2 hx.2.1 hx.2.2)⟩
          try simp only [Act.put]
          refine Ps.done (by kernel_rfl) (fun wg1 hS => ?_) _
          obtain ⟨g, k, hm, hk, hB⟩ := W2A.fin (by rfl) (by rfl) (by rfl) hS
          clear hS
          obtain rfl : g8a = g := by have h9 : Value.pointer (some ⟨g8a, 0, none⟩) = .pointer (some ⟨g, 0, none⟩) := hm; simpa using h9
          obtain rfl : h8a = k := by have h9 : Value.pointer (some ⟨h8a, 0, none⟩) = .pointer (some ⟨k, 0, none⟩) := hk; simpa using h9
          have hB := W2KA.pair (A := A5a) (n := n5a) (c := c5a) (A' := A6a) (n' := n6a) (c' := c6a) hB rfl rfl
          refine ⟨g8a, h8a, A5a, n5a, c5a, A6a, n6a, c6a, ⟨.agg #[.slice A n c], .agg #[.slice A5a n5a c5a], .agg #[.slice B m d], .agg #[.slice A6a n6a c6a], ?_⟩, hB⟩
          clear hB hm hk
          rfl
      case bwg1_6_4 =>
        refine Turns.mk (i := 4) (d := some 5) rfl rfl (TurnS.value (V := fun v => ∃ g, v = .pointer (some ⟨g, 0, none⟩)) [] (by kernel_rfl) (by rfl) (fun L9 m9 w9 hSh hAt hDn hS => ?cwg1_17)) (fun v4a hVv4a => ?rwg1_17)
        case cwg1_17 =>
          exact ⟨.pointer (some ⟨w9.heap.size, 0, none⟩), w9.alloc (.cells #[.slice none 0 0] 30), (by clear hS; go_simp), ⟨_, rfl⟩, W2A.made4 hDn (post_no (post := [6]) hSh hDn (by kernel_rfl) 6 (by simp)) (post_no (post := [7]) hSh hDn (by kernel_rfl) 7 (by simp)) rfl (W2KA.m4) hS⟩
        try simp only [Act.put, sA, sZ, sS]
        obtain ⟨g8a, rfl⟩ := hVv4a
        refine Ps.some2 (i := 3) (j := 5) (by kernel_rfl) ?bwg1_18_3 ?bwg1_18_5
        case bwg1_18_3 =>
          refine Turns.mk (i := 3) (d := some 16) rfl rfl (TurnS.call (V := fun v => ∃ A n c, v = .agg #[.slice A n c]) ?fwg1_19 ?awg1_19 [1] (by kernel_rfl) (by rfl) (fun w9 => ?hwg1_19) (fun L9 m9 w9 hSh hAt hDn hS => ?cwg1_19)) (fun v6a hVv6a => ?rwg1_19)
          case hwg1_19 => go_simp; refine ⟨?_, ?_⟩ <;> rfl
          case cwg1_19 =>
            obtain ⟨al, bl, hB, hset⟩ := W2A.on3 (hAt 1 (by simp)).1 hDn (post_no (post := [6]) hSh hDn (by kernel_rfl) 6 (by simp)) (post_no (post := [7]) hSh hDn (by kernel_rfl) 7 (by simp)) hS
            have hT := hB.1
            refine (short_any AllB ys B m d w9 (Lay.rd_below HY2.out hT) HN.out.2 HSX.out.2).mono ?_
            rintro e w6 ⟨A, n, c, rfl, hr6, h6a, h6b, q6⟩
            exact ⟨_, rfl, ⟨A, n, c, rfl⟩, hset _ _ (W2KA.c3 hB q6 hr6 h6a h6b)⟩
          try simp only [Act.put, sA, sZ, sS]
          obtain ⟨A6a, n6a, c6a, rfl⟩ := hVv6a
          refine Ps.one (k := 5) (d := some 6) rfl rfl (by kernel_rfl) (TurnS.value (V := fun v => ∃ g, v = .pointer (some ⟨g, 0, none⟩)) [] (by kernel_rfl) (by rfl) (fun L9 m9 w9 hSh hAt hDn hS => ?cwg1_20)) (fun v5a hVv5a => ?rwg1_20)
          case cwg1_20 =>
            exact ⟨.pointer (some ⟨w9.heap.size, 0, none⟩), w9.alloc (.cells #[.slice none 0 0] 30), (by clear hS; go_simp), ⟨_, rfl⟩, W2A.made5 hDn (post_no (post := [6]) hSh hDn (by kernel_rfl) 6 (by simp)) (post_no (post := [7]) hSh hDn (by kernel_rfl) 7 (by simp)) rfl (W2KA.m5) hS⟩
          try simp only [Act.put, sA, sZ, sS]
          obtain ⟨h8a, rfl⟩ := hVv5a
          refine Ps.st (i := 6) (d := none) (u := undef) rfl rfl ?ywg1_21 ?rwg1_21
          case ywg1_21 =>
            refine StepS.store [1, 3, 4, 5] (by kernel_rfl) (by rfl) (fun L9 m9 w9 hSh hAt hDn hS => ?_)
            obtain ⟨g, k, hm, hk, hB, hset⟩ := W2A.on6 (hAt 1 (by simp)).1 (hAt 3 (by simp)).1 (hAt 4 (by simp)).1 (hAt 5 (by simp)).1 hDn (post_no (post := [7]) hSh hDn (by kernel_rfl) 7 (by simp)) hS
            obtain rfl : g8a = g := by have h9 : Value.pointer (some ⟨g8a, 0, none⟩) = .pointer (some ⟨g, 0, none⟩) := (hAt 4 (by simp)).2.symm.trans hm; simpa using h9
            obtain rfl : h8a = k := by have h9 : Value.pointer (some ⟨h8a, 0, none⟩) = .pointer (some ⟨k, 0, none⟩) := (hAt 5 (by simp)).2.symm.trans hk; simpa using h9
            obtain ⟨_, ⟨hA, hb2⟩, _⟩ := id hB
            have hBk := (hA g8a rfl).2.2
            refine (exec_store_blk (w := w9) 30 (.tmp 5) (.tmp 14) (by rfl) g8a 30 #[.slice none 0 0] #[.slice A5a n5a c5a] (by rfl) (by rfl) hBk rfl treeI (by simp [Value.oneCell'])).imp fun w7 hx => ⟨hx.1, hset _ (W2KA.st6 hB (hAt 1 (by simp)).2 hx.2.1 hx.2.2)⟩
          try simp only [Act.put]
          refine Ps.st (i := 7) (d := none) (u := undef) rfl rfl ?ywg1_22 ?rwg1_22
          case ywg1_22 =>
            refine StepS.store [1, 3, 4, 5, 6] (by kernel_rfl) (by rfl) (fun L9 m9 w9 hSh hAt hDn hS => ?_)
            obtain ⟨g, k, hm, hk, hB, hset⟩ := W2A.on7 (hAt 1 (by simp)).1 (hAt 3 (by simp)).1 (hAt 4 (by simp)).1 (hAt 5 (by simp)).1 (hAt 6 (by simp)).1 hDn  hS
            obtain rfl : g8a = g := by have h9 : Value.pointer (some ⟨g8a, 0, none⟩) = .pointer (some ⟨g, 0, none⟩) := (hAt 4 (by simp)).2.symm.trans hm; simpa using h9
            obtain rfl : h8a = k := by have h9 : Value.pointer (some ⟨h8a, 0, none⟩) = .pointer (some ⟨k, 0, none⟩) := (hAt 5 (by simp)).2.symm.trans hk; simpa using h9
            obtain ⟨_, A1, n1, c1, hA, hb2, _⟩ := id hB
            have hBk := (hb2 h8a rfl).2
            refine (exec_store_blk (w := w9) 30 (.tmp 6) (.tmp 16) (by rfl) h8a 30 #[.slice none 0 0] #[.slice A6a n6a c6a] (by rfl) (by rfl) hBk rfl treeI (by simp [Value.oneCell'])).imp fun w7 hx => ⟨hx.1, hset _ (W2KA.st7 hB (hAt 3 (by simp)).2 hx.2.1 hx.2.2)⟩
          try simp only [Act.put]
          refine Ps.done (by kernel_rfl) (fun wg1 hS => ?_) _
          obtain ⟨g, k, hm, hk, hB⟩ := W2A.fin (by rfl) (by rfl) (by rfl) hS
          clear hS
          obtain rfl : g8a = g := by have h9 : Value.pointer (some ⟨g8a, 0, none⟩) = .pointer (some ⟨g, 0, none⟩) := hm; simpa using h9
          obtain rfl : h8a = k := by have h9 : Value.pointer (some ⟨h8a, 0, none⟩) = .pointer (some ⟨k, 0, none⟩) := hk; simpa using h9
          have hB := W2KA.pair (A := A5a) (n := n5a) (c := c5a) (A' := A6a) (n' := n6a) (c' := c6a) hB rfl rfl
          refine ⟨g8a, h8a, A5a, n5a, c5a, A6a, n6a, c6a, ⟨.agg #[.slice A n c], .agg #[.slice A5a n5a c5a], .agg #[.slice B m d], .agg #[.slice A6a n6a c6a], ?_⟩, hB⟩
          clear hB hm hk
          rfl
        case bwg1_18_5 =>
          refine Turns.mk (i := 5) (d := some 6) rfl rfl (TurnS.value (V := fun v => ∃ g, v = .pointer (some ⟨g, 0, none⟩)) [] (by kernel_rfl) (by rfl) (fun L9 m9 w9 hSh hAt hDn hS => ?cwg1_23)) (fun v5a hVv5a => ?rwg1_23)
          case cwg1_23 =>
            exact ⟨.pointer (some ⟨w9.heap.size, 0, none⟩), w9.alloc (.cells #[.slice none 0 0] 30), (by clear hS; go_simp), ⟨_, rfl⟩, W2A.made5 hDn (post_no (post := [6]) hSh hDn (by kernel_rfl) 6 (by simp)) (post_no (post := [7]) hSh hDn (by kernel_rfl) 7 (by simp)) rfl (W2KA.m5) hS⟩
          try simp only [Act.put, sA, sZ, sS]
          obtain ⟨h8a, rfl⟩ := hVv5a
          refine Ps.one (k := 3) (d := some 16) rfl rfl (by kernel_rfl) (TurnS.call (V := fun v => ∃ A n c, v = .agg #[.slice A n c]) ?fwg1_24 ?awg1_24 [1] (by kernel_rfl) (by rfl) (fun w9 => ?hwg1_24) (fun L9 m9 w9 hSh hAt hDn hS => ?cwg1_24)) (fun v6a hVv6a => ?rwg1_24)
          case hwg1_24 => go_simp; refine ⟨?_, ?_⟩ <;> rfl
          case cwg1_24 =>
            obtain ⟨al, bl, hB, hset⟩ := W2A.on3 (hAt 1 (by simp)).1 hDn (post_no (post := [6]) hSh hDn (by kernel_rfl) 6 (by simp)) (post_no (post := [7]) hSh hDn (by kernel_rfl) 7 (by simp)) hS
            have hT := hB.1
            refine (short_any AllB ys B m d w9 (Lay.rd_below HY2.out hT) HN.out.2 HSX.out.2).mono ?_
            rintro e w6 ⟨A, n, c, rfl, hr6, h6a, h6b, q6⟩
            exact ⟨_, rfl, ⟨A, n, c, rfl⟩, hset _ _ (W2KA.c3 hB q6 hr6 h6a h6b)⟩
          try simp only [Act.put, sA, sZ, sS]
          obtain ⟨A6a, n6a, c6a, rfl⟩ := hVv6a
          refine Ps.st (i := 6) (d := none) (u := undef) rfl rfl ?ywg1_25 ?rwg1_25
          case ywg1_25 =>
            refine StepS.store [1, 3, 4, 5] (by kernel_rfl) (by rfl) (fun L9 m9 w9 hSh hAt hDn hS => ?_)
            obtain ⟨g, k, hm, hk, hB, hset⟩ := W2A.on6 (hAt 1 (by simp)).1 (hAt 3 (by simp)).1 (hAt 4 (by simp)).1 (hAt 5 (by simp)).1 hDn (post_no (post := [7]) hSh hDn (by kernel_rfl) 7 (by simp)) hS
            obtain rfl : g8a = g := by have h9 : Value.pointer (some ⟨g8a, 0, none⟩) = .pointer (some ⟨g, 0, none⟩) := (hAt 4 (by simp)).2.symm.trans hm; simpa using h9
            obtain rfl : h8a = k := by have h9 : Value.pointer (some ⟨h8a, 0, none⟩) = .pointer (some ⟨k, 0, none⟩) := (hAt 5 (by simp)).2.symm.trans hk; simpa using h9
            obtain ⟨_, ⟨hA, hb2⟩, _⟩ := id hB
            have hBk := (hA g8a rfl).2.2
            refine (exec_store_blk (w := w9) 30 (.tmp 5) (.tmp 14) (by rfl) g8a 30 #[.slice none 0 0] #[.slice A5a n5a c5a] (by rfl) (by rfl) hBk rfl treeI (by simp [Value.oneCell'])).imp fun w7 hx => ⟨hx.1, hset _ (W2KA.st6 hB (hAt 1 (by simp)).2 hx.2.1 hx.2.2)⟩
          try simp only [Act.put]
          refine Ps.st (i := 7) (d := none) (u := undef) rfl rfl ?ywg1_26 ?rwg1_26
          case ywg1_26 =>
            refine StepS.store [1, 3, 4, 5, 6] (by kernel_rfl) (by rfl) (fun L9 m9 w9 hSh hAt hDn hS => ?_)
            obtain ⟨g, k, hm, hk, hB, hset⟩ := W2A.on7 (hAt 1 (by simp)).1 (hAt 3 (by simp)).1 (hAt 4 (by simp)).1 (hAt 5 (by simp)).1 (hAt 6 (by simp)).1 hDn  hS
            obtain rfl : g8a = g := by have h9 : Value.pointer (some ⟨g8a, 0, none⟩) = .pointer (some ⟨g, 0, none⟩) := (hAt 4 (by simp)).2.symm.trans hm; simpa using h9
            obtain rfl : h8a = k := by have h9 : Value.pointer (some ⟨h8a, 0, none⟩) = .pointer (some ⟨k, 0, none⟩) := (hAt 5 (by simp)).2.symm.trans hk; simpa using h9
            obtain ⟨_, A1, n1, c1, hA, hb2, _⟩ := id hB
            have hBk := (hb2 h8a rfl).2
            refine (exec_store_blk (w := w9) 30 (.tmp 6) (.tmp 16) (by rfl) h8a 30 #[.slice none 0 0] #[.slice A6a n6a c6a] (by rfl) (by rfl) hBk rfl treeI (by simp [Value.oneCell'])).imp fun w7 hx => ⟨hx.1, hset _ (W2KA.st7 hB (hAt 3 (by simp)).2 hx.2.1 hx.2.2)⟩
          try simp only [Act.put]
          refine Ps.done (by kernel_rfl) (fun wg1 hS => ?_) _
          obtain ⟨g, k, hm, hk, hB⟩ := W2A.fin (by rfl) (by rfl) (by rfl) hS
          clear hS
          obtain rfl : g8a = g := by have h9 : Value.pointer (some ⟨g8a, 0, none⟩) = .pointer (some ⟨g, 0, none⟩) := hm; simpa using h9
          obtain rfl : h8a = k := by have h9 : Value.pointer (some ⟨h8a, 0, none⟩) = .pointer (some ⟨k, 0, none⟩) := hk; simpa using h9
          have hB := W2KA.pair (A := A5a) (n := n5a) (c := c5a) (A' := A6a) (n' := n6a) (c' := c6a) hB rfl rfl
          refine ⟨g8a, h8a, A5a, n5a, c5a, A6a, n6a, c6a, ⟨.agg #[.slice A n c], .agg #[.slice A5a n5a c5a], .agg #[.slice B m d], .agg #[.slice A6a n6a c6a], ?_⟩, hB⟩
          clear hB hm hk
          rfl
      case bwg1_6_5 =>
        refine Turns.mk (i := 5) (d := some 6) rfl rfl (TurnS.value (V := fun v => ∃ g, v = .pointer (some ⟨g, 0, none⟩)) [] (by kernel_rfl) (by rfl) (fun L9 m9 w9 hSh hAt hDn hS => ?cwg1_27)) (fun v5a hVv5a => ?rwg1_27)
        case cwg1_27 =>
          exact ⟨.pointer (some ⟨w9.heap.size, 0, none⟩), w9.alloc (.cells #[.slice none 0 0] 30), (by clear hS; go_simp), ⟨_, rfl⟩, W2A.made5 hDn (post_no (post := [6]) hSh hDn (by kernel_rfl) 6 (by simp)) (post_no (post := [7]) hSh hDn (by kernel_rfl) 7 (by simp)) rfl (W2KA.m5) hS⟩
        try simp only [Act.put, sA, sZ, sS]
        obtain ⟨h8a, rfl⟩ := hVv5a
        refine Ps.some2 (i := 3) (j := 4) (by kernel_rfl) ?bwg1_28_3 ?bwg1_28_4
        case bwg1_28_3 =>
          refine Turns.mk (i := 3) (d := some 16) rfl rfl (TurnS.call (V := fun v => ∃ A n c, v = .agg #[.slice A n c]) ?fwg1_29 ?awg1_29 [1] (by kernel_rfl) (by rfl) (fun w9 => ?hwg1_29) (fun L9 m9 w9 hSh hAt hDn hS => ?cwg1_29)) (fun v6a hVv6a => ?rwg1_29)
          case hwg1_29 => go_simp; refine ⟨?_, ?_⟩ <;> rfl
          case cwg1_29 =>
            obtain ⟨al, bl, hB, hset⟩ := W2A.on3 (hAt 1 (by simp)).1 hDn (post_no (post := [6]) hSh hDn (by kernel_rfl) 6 (by simp)) (post_no (post := [7]) hSh hDn (by kernel_rfl) 7 (by simp)) hS
            have hT := hB.1
            refine (short_any AllB ys B m d w9 (Lay.rd_below HY2.out hT) HN.out.2 HSX.out.2).mono ?_
            rintro e w6 ⟨A, n, c, rfl, hr6, h6a, h6b, q6⟩
            exact ⟨_, rfl, ⟨A, n, c, rfl⟩, hset _ _ (W2KA.c3 hB q6 hr6 h6a h6b)⟩
          try simp only [Act.put, sA, sZ, sS]
          obtain ⟨A6a, n6a, c6a, rfl⟩ := hVv6a
          refine Ps.one (k := 4) (d := some 5) rfl rfl (by kernel_rfl) (TurnS.value (V := fun v => ∃ g, v = .pointer (some ⟨g, 0, none⟩)) [] (by kernel_rfl) (by rfl) (fun L9 m9 w9 hSh hAt hDn hS => ?cwg1_30)) (fun v4a hVv4a => ?rwg1_30)
          case cwg1_30 =>
            exact ⟨.pointer (some ⟨w9.heap.size, 0, none⟩), w9.alloc (.cells #[.slice none 0 0] 30), (by clear hS; go_simp), ⟨_, rfl⟩, W2A.made4 hDn (post_no (post := [6]) hSh hDn (by kernel_rfl) 6 (by simp)) (post_no (post := [7]) hSh hDn (by kernel_rfl) 7 (by simp)) rfl (W2KA.m4) hS⟩
          try simp only [Act.put, sA, sZ, sS]
          obtain ⟨g8a, rfl⟩ := hVv4a
          refine Ps.st (i := 6) (d := none) (u := undef) rfl rfl ?ywg1_31 ?rwg1_31
          case ywg1_31 =>
            refine StepS.store [1, 3, 4, 5] (by kernel_rfl) (by rfl) (fun L9 m9 w9 hSh hAt hDn hS => ?_)
            obtain ⟨g, k, hm, hk, hB, hset⟩ := W2A.on6 (hAt 1 (by simp)).1 (hAt 3 (by simp)).1 (hAt 4 (by simp)).1 (hAt 5 (by simp)).1 hDn (post_no (post := [7]) hSh hDn (by kernel_rfl) 7 (by simp)) hS
            obtain rfl : g8a = g := by have h9 : Value.pointer (some ⟨g8a, 0, none⟩) = .pointer (some ⟨g, 0, none⟩) := (hAt 4 (by simp)).2.symm.trans hm; simpa using h9
            obtain rfl : h8a = k := by have h9 : Value.pointer (some ⟨h8a, 0, none⟩) = .pointer (some ⟨k, 0, none⟩) := (hAt 5 (by simp)).2.symm.trans hk; simpa using h9
            obtain ⟨_, ⟨hA, hb2⟩, _⟩ := id hB
            have hBk := (hA g8a rfl).2.2
            refine (exec_store_blk (w := w9) 30 (.tmp 5) (.tmp 14) (by rfl) g8a 30 #[.slice none 0 0] #[.slice A5a n5a c5a] (by rfl) (by rfl) hBk rfl treeI (by simp [Value.oneCell'])).imp fun w7 hx => ⟨hx.1, hset _ (W2KA.st6 hB (hAt 1 (by simp)).2 hx.2.1 hx.2.2)⟩
          try simp only [Act.put]
          refine Ps.st (i := 7) (d := none) (u := undef) rfl rfl ?ywg1_32 ?rwg1_32
          case ywg1_32 =>
            refine StepS.store [1, 3, 4, 5, 6] (by kernel_rfl) (by rfl) (fun L9 m9 w9 hSh hAt hDn hS => ?_)
            obtain ⟨g, k, hm, hk, hB, hset⟩ := W2A.on7 (hAt 1 (by simp)).1 (hAt 3 (by simp)).1 (hAt 4 (by simp)).1 (hAt 5 (by simp)).1 (hAt 6 (by simp)).1 hDn  hS
            obtain rfl : g8a = g := by have h9 : Value.pointer (some ⟨g8a, 0, none⟩) = .pointer (some ⟨g, 0, none⟩) := (hAt 4 (by simp)).2.symm.trans hm; simpa using h9
            obtain rfl : h8a = k := by have h9 : Value.pointer (some ⟨h8a, 0, none⟩) = .pointer (some ⟨k, 0, none⟩) := (hAt 5 (by simp)).2.symm.trans hk; simpa using h9
            obtain ⟨_, A1, n1, c1, hA, hb2, _⟩ := id hB
            have hBk := (hb2 h8a rfl).2
            refine (exec_store_blk (w := w9) 30 (.tmp 6) (.tmp 16) (by rfl) h8a 30 #[.slice none 0 0] #[.slice A6a n6a c6a] (by rfl) (by rfl) hBk rfl treeI (by simp [Value.oneCell'])).imp fun w7 hx => ⟨hx.1, hset _ (W2KA.st7 hB (hAt 3 (by simp)).2 hx.2.1 hx.2.2)⟩
          try simp only [Act.put]
          refine Ps.done (by kernel_rfl) (fun wg1 hS => ?_) _
          obtain ⟨g, k, hm, hk, hB⟩ := W2A.fin (by rfl) (by rfl) (by rfl) hS
          clear hS
          obtain rfl : g8a = g := by have h9 : Value.pointer (some ⟨g8a, 0, none⟩) = .pointer (some ⟨g, 0, none⟩) := hm; simpa using h9
          obtain rfl : h8a = k := by have h9 : Value.pointer (some ⟨h8a, 0, none⟩) = .pointer (some ⟨k, 0, none⟩) := hk; simpa using h9
          have hB := W2KA.pair (A := A5a) (n := n5a) (c := c5a) (A' := A6a) (n' := n6a) (c' := c6a) hB rfl rfl
          refine ⟨g8a, h8a, A5a, n5a, c5a, A6a, n6a, c6a, ⟨.agg #[.slice A n c], .agg #[.slice A5a n5a c5a], .agg #[.slice B m d], .agg #[.slice A6a n6a c6a], ?_⟩, hB⟩
          clear hB hm hk
          rfl
        case bwg1_28_4 =>
          refine Turns.mk (i := 4) (d := some 5) rfl rfl (TurnS.value (V := fun v => ∃ g, v = .pointer (some ⟨g, 0, none⟩)) [] (by kernel_rfl) (by rfl) (fun L9 m9 w9 hSh hAt hDn hS => ?cwg1_33)) (fun v4a hVv4a => ?rwg1_33)
          case cwg1_33 =>
            exact ⟨.pointer (some ⟨w9.heap.size, 0, none⟩), w9.alloc (.cells #[.slice none 0 0] 30), (by clear hS; go_simp), ⟨_, rfl⟩, W2A.made4 hDn (post_no (post := [6]) hSh hDn (by kernel_rfl) 6 (by simp)) (post_no (post := [7]) hSh hDn (by kernel_rfl) 7 (by simp)) rfl (W2KA.m4) hS⟩
          try simp only [Act.put, sA, sZ, sS]
          obtain ⟨g8a, rfl⟩ := hVv4a
          refine Ps.one (k := 3) (d := some 16) rfl rfl (by kernel_rfl) (TurnS.call (V := fun v => ∃ A n c, v = .agg #[.slice A n c]) ?fwg1_34 ?awg1_34 [1] (by kernel_rfl) (by rfl) (fun w9 => ?hwg1_34) (fun L9 m9 w9 hSh hAt hDn hS => ?cwg1_34)) (fun v6a hVv6a => ?rwg1_34)
          case hwg1_34 => go_simp; refine ⟨?_, ?_⟩ <;> rfl
          case cwg1_34 =>
            obtain ⟨al, bl, hB, hset⟩ := W2A.on3 (hAt 1 (by simp)).1 hDn (post_no (post := [6]) hSh hDn (by kernel_rfl) 6 (by simp)) (post_no (post := [7]) hSh hDn (by kernel_rfl) 7 (by simp)) hS
            have hT := hB.1
            refine (short_any AllB ys B m d w9 (Lay.rd_below HY2.out hT) HN.out.2 HSX.out.2).mono ?_
            rintro e w6 ⟨A, n, c, rfl, hr6, h6a, h6b, q6⟩
            exact ⟨_, rfl, ⟨A, n, c, rfl⟩, hset _ _ (W2KA.c3 hB q6 hr6 h6a h6b)⟩
          try simp only [Act.put, sA, sZ, sS]
          obtain ⟨A6a, n6a, c6a, rfl⟩ := hVv6a
          refine Ps.st (i := 6) (d := none) (u := undef) rfl rfl ?ywg1_35 ?rwg1_35
          case ywg1_35 =>
            refine StepS.store [1, 3, 4, 5] (by kernel_rfl) (by rfl) (fun L9 m9 w9 hSh hAt hDn hS => ?_)
            obtain ⟨g, k, hm, hk, hB, hset⟩ := W2A.on6 (hAt 1 (by simp)).1 (hAt 3 (by simp)).1 (hAt 4 (by simp)).1 (hAt 5 (by simp)).1 hDn (post_no (post := [7]) hSh hDn (by kernel_rfl) 7 (by simp)) hS
            obtain rfl : g8a = g := by have h9 : Value.pointer (some ⟨g8a, 0, none⟩) = .pointer (some ⟨g, 0, none⟩) := (hAt 4 (by simp)).2.symm.trans hm; simpa using h9
            obtain rfl : h8a = k := by have h9 : Value.pointer (some ⟨h8a, 0, none⟩) = .pointer (some ⟨k, 0, none⟩) := (hAt 5 (by simp)).2.symm.trans hk; simpa using h9
            obtain ⟨_, ⟨hA, hb2⟩, _⟩ := id hB
            have hBk := (hA g8a rfl).2.2
            refine (exec_store_blk (w := w9) 30 (.tmp 5) (.tmp 14) (by rfl) g8a 30 #[.slice none 0 0] #[.slice A5a n5a c5a] (by rfl) (by rfl) hBk rfl treeI (by simp [Value.oneCell'])).imp fun w7 hx => ⟨hx.1, hset _ (W2KA.st6 hB (hAt 1 (by simp)).2 hx.2.1 hx.2.2)⟩
          try simp only [Act.put]
          refine Ps.st (i := 7) (d := none) (u := undef) rfl rfl ?ywg1_36 ?rwg1_36
          case ywg1_36 =>
            refine StepS.store [1, 3, 4, 5, 6] (by kernel_rfl) (by rfl) (fun L9 m9 w9 hSh hAt hDn hS => ?_)
            obtain ⟨g, k, hm, hk, hB, hset⟩ := W2A.on7 (hAt 1 (by simp)).1 (hAt 3 (by simp)).1 (hAt 4 (by simp)).1 (hAt 5 (by simp)).1 (hAt 6 (by simp)).1 hDn  hS
            obtain rfl : g8a = g := by have h9 : Value.pointer (some ⟨g8a, 0, none⟩) = .pointer (some ⟨g, 0, none⟩) := (hAt 4 (by simp)).2.symm.trans hm; simpa using h9
            obtain rfl : h8a = k := by have h9 : Value.pointer (some ⟨h8a, 0, none⟩) = .pointer (some ⟨k, 0, none⟩) := (hAt 5 (by simp)).2.symm.trans hk; simpa using h9
            obtain ⟨_, A1, n1, c1, hA, hb2, _⟩ := id hB
            have hBk := (hb2 h8a rfl).2
            refine (exec_store_blk (w := w9) 30 (.tmp 6) (.tmp 16) (by rfl) h8a 30 #[.slice none 0 0] #[.slice A6a n6a c6a] (by rfl) (by rfl) hBk rfl treeI (by simp [Value.oneCell'])).imp fun w7 hx => ⟨hx.1, hset _ (W2KA.st7 hB (hAt 3 (by simp)).2 hx.2.1 hx.2.2)⟩
          try simp only [Act.put]
          refine Ps.done (by kernel_rfl) (fun wg1 hS => ?_) _
          obtain ⟨g, k, hm, hk, hB⟩ := W2A.fin (by rfl) (by rfl) (by rfl) hS
          clear hS
          obtain rfl : g8a = g := by have h9 : Value.pointer (some ⟨g8a, 0, none⟩) = .pointer (some ⟨g, 0, none⟩) := hm; simpa using h9
          obtain rfl : h8a = k := by have h9 : Value.pointer (some ⟨h8a, 0, none⟩) = .pointer (some ⟨k, 0, none⟩) := hk; simpa using h9
          have hB := W2KA.pair (A := A5a) (n := n5a) (c := c5a) (A' := A6a) (n' := n6a) (c' := c6a) hB rfl rfl
          refine ⟨g8a, h8a, A5a, n5a, c5a, A6a, n6a, c6a, ⟨.agg #[.slice A n c], .agg #[.slice A5a n5a c5a], .agg #[.slice B m d], .agg #[.slice A6a n6a c6a], ?_⟩, hB⟩
          clear hB hm hk
          rfl
    case bwg1_4_4 =>
      refine Turns.mk (i := 4) (d := some 5) rfl rfl (TurnS.value (V := fun v => ∃ g, v = .pointer (some ⟨g, 0, none⟩)) [] (by kernel_rfl) (by rfl) (fun L9 m9 w9 hSh hAt hDn hS => ?cwg1_37)) (fun v4a hVv4a => ?rwg1_37)
      case cwg1_37 =>
        exact ⟨.pointer (some ⟨w9.heap.size, 0, none⟩), w9.alloc (.cells #[.slice none 0 0] 30), (by clear hS; go_simp), ⟨_, rfl⟩, W2A.made4 hDn (post_no (post := [6]) hSh hDn (by kernel_rfl) 6 (by simp)) (post_no (post := [7]) hSh hDn (by kernel_rfl) 7 (by simp)) rfl (W2KA.m4) hS⟩
      try simp only [Act.put, sA, sZ, sS]
      obtain ⟨g8a, rfl⟩ := hVv4a
      refine Ps.some2 (i := 1) (j := 5) (by kernel_rfl) ?bwg1_38_1 ?bwg1_38_5
      case bwg1_38_1 =>
        refine Turns.mk (i := 1) (d := some 14) rfl rfl (TurnS.call (V := fun v => ∃ A n c, v = .agg #[.slice A n c]) ?fwg1_39 ?awg1_39 [] (by kernel_rfl) (by rfl) (fun w9 => ?hwg1_39) (fun L9 m9 w9 hSh hAt hDn hS => ?cwg1_39)) (fun v5a hVv5a => ?rwg1_39)
        case hwg1_39 => go_simp; refine ⟨?_, ?_⟩ <;> rfl
        case cwg1_39 =>
          obtain ⟨al, bl, hB, hset⟩ := W2A.on1 hDn (post_no (post := [3]) hSh hDn (by kernel_rfl) 3 (by simp)) (post_no (post := [6]) hSh hDn (by kernel_rfl) 6 (by simp)) (post_no (post := [7]) hSh hDn (by kernel_rfl) 7 (by simp)) hS
          have hT := hB.1
          refine (short_any AllB xs A n c w9 (Lay.rd_below HX2.out hT) HN.out.1 HSX.out.1).mono ?_
          rintro e w6 ⟨A, n, c, rfl, hr6, h6a, h6b, q6⟩
          exact ⟨_, rfl, ⟨A, n, c, rfl⟩, hset _ _ (W2KA.c1 hB q6 hr6 h6a h6b)⟩
        try simp only [Act.put, sA, sZ, sS]
        obtain ⟨A5a, n5a, c5a, rfl⟩ := hVv5a
        refine Ps.some2 (i := 3) (j := 5) (by kernel_rfl) ?bwg1_40_3 ?bwg1_40_5
        case bwg1_40_3 =>
          refine Turns.mk (i := 3) (d := some 16) rfl rfl (TurnS.call (V := fun v => ∃ A n c, v = .agg #[.slice A n c]) ?fwg1_41 ?awg1_41 [1] (by kernel_rfl) (by rfl) (fun w9 => ?hwg1_41) (fun L9 m9 w9 hSh hAt hDn hS => ?cwg1_41)) (fun v6a hVv6a => ?rwg1_41)
          case hwg1_41 => go_simp; refine ⟨?_, ?_⟩ <;> rfl
          case cwg1_41 =>
            obtain ⟨al, bl, hB, hset⟩ := W2A.on3 (hAt 1 (by simp)).1 hDn (post_no (post := [6]) hSh hDn (by kernel_rfl) 6 (by simp)) (post_no (post := [7]) hSh hDn (by kernel_rfl) 7 (by simp)) hS
            have hT := hB.1
            refine (short_any AllB ys B m d w9 (Lay.rd_below HY2.out hT) HN.out.2 HSX.out.2).mono ?_
            rintro e w6 ⟨A, n, c, rfl, hr6, h6a, h6b, q6⟩
            exact ⟨_, rfl, ⟨A, n, c, rfl⟩, hset _ _ (W2KA.c3 hB q6 hr6 h6a h6b)⟩
          try simp only [Act.put, sA, sZ, sS]
          obtain ⟨A6a, n6a, c6a, rfl⟩ := hVv6a
          refine Ps.one (k := 5) (d := some 6) rfl rfl (by kernel_rfl) (TurnS.value (V := fun v => ∃ g, v = .pointer (some ⟨g, 0, none⟩)) [] (by kernel_rfl) (by rfl) (fun L9 m9 w9 hSh hAt hDn hS => ?cwg1_42)) (fun v5a hVv5a => ?rwg1_42)
          case cwg1_42 =>
            exact ⟨.pointer (some ⟨w9.heap.size, 0, none⟩), w9.alloc (.cells #[.slice none 0 0] 30), (by clear hS; go_simp), ⟨_, rfl⟩, W2A.made5 hDn (post_no (post := [6]) hSh hDn (by kernel_rfl) 6 (by simp)) (post_no (post := [7]) hSh hDn (by kernel_rfl) 7 (by simp)) rfl (W2KA.m5) hS⟩
          try simp only [Act.put, sA, sZ, sS]
          obtain ⟨h8a, rfl⟩ := hVv5a
          refine Ps.st (i := 6) (d := none) (u := undef) rfl rfl ?ywg1_43 ?rwg1_43
          case ywg1_43 =>
            refine StepS.store [1, 3, 4, 5] (by kernel_rfl) (by rfl) (fun L9 m9 w9 hSh hAt hDn hS => ?_)
            obtain ⟨g, k, hm, hk, hB, hset⟩ := W2A.on6 (hAt 1 (by simp)).1 (hAt 3 (by simp)).1 (hAt 4 (by simp)).1 (hAt 5 (by simp)).1 hDn (post_no (post := [7]) hSh hDn (by kernel_rfl) 7 (by simp)) hS
            obtain rfl : g8a = g := by have h9 : Value.pointer (some ⟨g8a, 0, none⟩) = .pointer (some ⟨g, 0, none⟩) := (hAt 4 (by simp)).2.symm.trans hm; simpa using h9
            obtain rfl : h8a = k := by have h9 : Value.pointer (some ⟨h8a, 0, none⟩) = .pointer (some ⟨k, 0, none⟩) := (hAt 5 (by simp)).2.symm.trans hk; simpa using h9
            obtain ⟨_, ⟨hA, hb2⟩, _⟩ := id hB
            have hBk := (hA g8a rfl).2.2
            refine (exec_store_blk (w := w9) 30 (.tmp 5) (.tmp 14) (by rfl) g8a 30 #[.slice none 0 0] #[.slice A5a n5a c5a] (by rfl) (by rfl) hBk rfl treeI (by simp [Value.oneCell'])).imp fun w7 hx => ⟨hx.1, hset _ (W2KA.st6 hB (hAt 1 (by simp)).2 hx.2.1 hx.2.2)⟩
          try simp only [Act.put]
          refine Ps.st (i := 7) (d := none) (u := undef) rfl rfl ?ywg1_44 ?rwg1_44
          case ywg1_44 =>
            refine StepS.store [1, 3, 4, 5, 6] (by kernel_rfl) (by rfl) (fun L9 m9 w9 hSh hAt hDn hS => ?_)
            obtain ⟨g, k, hm, hk, hB, hset⟩ := W2A.on7 (hAt 1 (by simp)).1 (hAt 3 (by simp)).1 (hAt 4 (by simp)).1 (hAt 5 (by simp)).1 (hAt 6 (by simp)).1 hDn  hS
            obtain rfl : g8a = g := by have h9 : Value.pointer (some ⟨g8a, 0, none⟩) = .pointer (some ⟨g, 0, none⟩) := (hAt 4 (by simp)).2.symm.trans hm; simpa using h9
            obtain rfl : h8a = k := by have h9 : Value.pointer (some ⟨h8a, 0, none⟩) = .pointer (some ⟨k, 0, none⟩) := (hAt 5 (by simp)).2.symm.trans hk; simpa using h9
            obtain ⟨_, A1, n1, c1, hA, hb2, _⟩ := id hB
            have hBk := (hb2 h8a rfl).2
            refine (exec_store_blk (w := w9) 30 (.tmp 6) (.tmp 16) (by rfl) h8a 30 #[.slice none 0 0] #[.slice A6a n6a c6a] (by rfl) (by rfl) hBk rfl treeI (by simp [Value.oneCell'])).imp fun w7 hx => ⟨hx.1, hset _ (W2KA.st7 hB (hAt 3 (by simp)).2 hx.2.1 hx.2.2)⟩
          try simp only [Act.put]
          refine Ps.done (by kernel_rfl) (fun wg1 hS => ?_) _
          obtain ⟨g, k, hm, hk, hB⟩ := W2A.fin (by rfl) (by rfl) (by rfl) hS
          clear hS
          obtain rfl : g8a = g := by have h9 : Value.pointer (some ⟨g8a, 0, none⟩) = .pointer (some ⟨g, 0, none⟩) := hm; simpa using h9
          obtain rfl : h8a = k := by have h9 : Value.pointer (some ⟨h8a, 0, none⟩) = .pointer (some ⟨k, 0, none⟩) := hk; simpa using h9
          have hB := W2KA.pair (A := A5a) (n := n5a) (c := c5a) (A' := A6a) (n' := n6a) (c' := c6a) hB rfl rfl
          refine ⟨g8a, h8a, A5a, n5a, c5a, A6a, n6a, c6a, ⟨.agg #[.slice A n c], .agg #[.slice A5a n5a c5a], .agg #[.slice B m d], .agg #[.slice A6a n6a c6a], ?_⟩, hB⟩
          clear hB hm hk
          rfl
        case bwg1_40_5 =>
          refine Turns.mk (i := 5) (d := some 6) rfl rfl (TurnS.value (V := fun v => ∃ g, v = .pointer (some ⟨g, 0, none⟩)) [] (by kernel_rfl) (by rfl) (fun L9 m9 w9 hSh hAt hDn hS => ?cwg1_45)) (fun v5a hVv5a => ?rwg1_45)
          case cwg1_45 =>
            exact ⟨.pointer (some ⟨w9.heap.size, 0, none⟩), w9.alloc (.cells #[.slice none 0 0] 30), (by clear hS; go_simp), ⟨_, rfl⟩, W2A.made5 hDn (post_no (post := [6]) hSh hDn (by kernel_rfl) 6 (by simp)) (post_no (post := [7]) hSh hDn (by kernel_rfl) 7 (by simp)) rfl (W2KA.m5) hS⟩
          try simp only [Act.put, sA, sZ, sS]
          obtain ⟨h8a, rfl⟩ := hVv5a
          refine Ps.one (k := 3) (d := some 16) rfl rfl (by kernel_rfl) (TurnS.call (V := fun v => ∃ A n c, v = .agg #[.slice A n c]) ?fwg1_46 ?awg1_46 [1] (by kernel_rfl) (by rfl) (fun w9 => ?hwg1_46) (fun L9 m9 w9 hSh hAt hDn hS => ?cwg1_46)) (fun v6a hVv6a => ?rwg1_46)
          case hwg1_46 => go_simp; refine ⟨?_, ?_⟩ <;> rfl
          case cwg1_46 =>
            obtain ⟨al, bl, hB, hset⟩ := W2A.on3 (hAt 1 (by simp)).1 hDn (post_no (post := [6]) hSh hDn (by kernel_rfl) 6 (by simp)) (post_no (post := [7]) hSh hDn (by kernel_rfl) 7 (by simp)) hS
            have hT := hB.1
            refine (short_any AllB ys B m d w9 (Lay.rd_below HY2.out hT) HN.out.2 HSX.out.2).mono ?_
            rintro e w6 ⟨A, n, c, rfl, hr6, h6a, h6b, q6⟩
            exact ⟨_, rfl, ⟨A, n, c, rfl⟩, hset _ _ (W2KA.c3 hB q6 hr6 h6a h6b)⟩
          try simp only [Act.put, sA, sZ, sS]
          obtain ⟨A6a, n6a, c6a, rfl⟩ := hVv6a
          refine Ps.st (i := 6) (d := none) (u := undef) rfl rfl ?ywg1_47 ?rwg1_47
          case ywg1_47 =>
            refine StepS.store [1, 3, 4, 5] (by kernel_rfl) (by rfl) (fun L9 m9 w9 hSh hAt hDn hS => ?_)
            obtain ⟨g, k, hm, hk, hB, hset⟩ := W2A.on6 (hAt 1 (by simp)).1 (hAt 3 (by simp)).1 (hAt 4 (by simp)).1 (hAt 5 (by simp)).1 hDn (post_no (post := [7]) hSh hDn (by kernel_rfl) 7 (by simp)) hS
            obtain rfl : g8a = g := by have h9 : Value.pointer (some ⟨g8a, 0, none⟩) = .pointer (some ⟨g, 0, none⟩) := (hAt 4 (by simp)).2.symm.trans hm; simpa using h9
            obtain rfl : h8a = k := by have h9 : Value.pointer (some ⟨h8a, 0, none⟩) = .pointer (some ⟨k, 0, none⟩) := (hAt 5 (by simp)).2.symm.trans hk; simpa using h9
            obtain ⟨_, ⟨hA, hb2⟩, _⟩ := id hB
            have hBk := (hA g8a rfl).2.2
            refine (exec_store_blk (w := w9) 30 (.tmp 5) (.tmp 14) (by rfl) g8a 30 #[.slice none 0 0] #[.slice A5a n5a c5a] (by rfl) (by rfl) hBk rfl treeI (by simp [Value.oneCell'])).imp fun w7 hx => ⟨hx.1, hset _ (W2KA.st6 hB (hAt 1 (by simp)).2 hx.2.1 hx.2.2)⟩
          try simp only [Act.put]
          refine Ps.st (i := 7) (d := none) (u := undef) rfl rfl ?ywg1_48 ?rwg1_48
          case ywg1_48 =>
            refine StepS.store [1, 3, 4, 5, 6] (by kernel_rfl) (by rfl) (fun L9 m9 w9 hSh hAt hDn hS => ?_)
            obtain ⟨g, k, hm, hk, hB, hset⟩ := W2A.on7 (hAt 1 (by simp)).1 (hAt 3 (by simp)).1 (hAt 4 (by simp)).1 (hAt 5 (by simp)).1 (hAt 6 (by simp)).1 hDn  hS
            obtain rfl : g8a = g := by have h9 : Value.pointer (some ⟨g8a, 0, none⟩) = .pointer (some ⟨g, 0, none⟩) := (hAt 4 (by simp)).2.symm.trans hm; simpa using h9
            obtain rfl : h8a = k := by have h9 : Value.pointer (some ⟨h8a, 0, none⟩) = .pointer (some ⟨k, 0, none⟩) := (hAt 5 (by simp)).2.symm.trans hk; simpa using h9
            obtain ⟨_, A1, n1, c1, hA, hb2, _⟩ := id hB
            have hBk := (hb2 h8a rfl).2
            refine (exec_store_blk (w := w9) 30 (.tmp 6) (.tmp 16) (by rfl) h8a 30 #[.slice none 0 0] #[.slice A6a n6a c6a] (by rfl) (by rfl) hBk rfl treeI (by simp [Value.oneCell'])).imp fun w7 hx => ⟨hx.1, hset _ (W2KA.st7 hB (hAt 3 (by simp)).2 hx.2.1 hx.2.2)⟩
          try simp only [Act.put]
          refine Ps.done (by kernel_rfl) (fun wg1 hS => ?_) _
          obtain ⟨g, k, hm, hk, hB⟩ := W2A.fin (by rfl) (by rfl) (by rfl) hS
          clear hS
          obtain rfl : g8a = g := by have h9 : Value.pointer (some ⟨g8a, 0, none⟩) = .pointer (some ⟨g, 0, none⟩) := hm; simpa using h9
          obtain rfl : h8a = k := by have h9 : Value.pointer (some ⟨h8a, 0, none⟩) = .pointer (some ⟨k, 0, none⟩) := hk; simpa using h9
          have hB := W2KA.pair (A := A5a) (n := n5a) (c := c5a) (A' := A6a) (n' := n6a) (c' := c6a) hB rfl rfl
          refine ⟨g8a, h8a, A5a, n5a, c5a, A6a, n6a, c6a, ⟨.agg #[.slice A n c], .agg #[.slice A5a n5a c5a], .agg #[.slice B m d], .agg #[.slice A6a n6a c6a], ?_⟩, hB⟩
          clear hB hm hk
          rfl
      case bwg1_38_5 =>
        refine Turns.mk (i := 5) (d := some 6) rfl rfl (TurnS.value (V := fun v => ∃ g, v = .pointer (some ⟨g, 0, none⟩)) [] (by kernel_rfl) (by rfl) (fun L9 m9 w9 hSh hAt hDn hS => ?cwg1_49)) (fun v5a hVv5a => ?rwg1_49)
        case cwg1_49 =>
          exact ⟨.pointer (some ⟨w9.heap.size, 0, none⟩), w9.alloc (.cells #[.slice none 0 0] 30), (by clear hS; go_simp), ⟨_, rfl⟩, W2A.made5 hDn (post_no (post := [6]) hSh hDn (by kernel_rfl) 6 (by simp)) (post_no (post := [7]) hSh hDn (by kernel_rfl) 7 (by simp)) rfl (W2KA.m5) hS⟩
        try simp only [Act.put, sA, sZ, sS]
        obtain ⟨h8a, rfl⟩ := hVv5a
        refine Ps.one (k := 1) (d := some 14) rfl rfl (by kernel_rfl) (TurnS.call (V := fun v => ∃ A n c, v = .agg #[.slice A n c]) ?fwg1_50 ?awg1_50 [] (by kernel_rfl) (by rfl) (fun w9 => ?hwg1_50) (fun L9 m9 w9 hSh hAt hDn hS => ?cwg1_50)) (fun v5a hVv5a => ?rwg1_50)
        case hwg1_50 => go_simp; refine ⟨?_, ?_⟩ <;> rfl
        case cwg1_50 =>
          obtain ⟨al, bl, hB, hset⟩ := W2A.on1 hDn (post_no (post := [3]) hSh hDn (by kernel_rfl) 3 (by simp)) (post_no (post := [6]) hSh hDn (by kernel_rfl) 6 (by simp)) (post_no (post := [7]) hSh hDn (by kernel_rfl) 7 (by simp)) hS
          have hT := hB.1
          refine (short_any AllB xs A n c w9 (Lay.rd_below HX2.out hT) HN.out.1 HSX.out.1).mono ?_
          rintro e w6 ⟨A, n, c, rfl, hr6, h6a, h6b, q6⟩
          exact ⟨_, rfl, ⟨A, n, c, rfl⟩, hset _ _ (W2KA.c1 hB q6 hr6 h6a h6b)⟩
        try simp only [Act.put, sA, sZ, sS]
        obtain ⟨A5a, n5a, c5a, rfl⟩ := hVv5a
        refine Ps.one (k := 3) (d := some 16) rfl rfl (by kernel_rfl) (TurnS.call (V := fun v => ∃ A n c, v = .agg #[.slice A n c]) ?fwg1_51 ?awg1_51 [1] (by kernel_rfl) (by rfl) (fun w9 => ?hwg1_51) (fun L9 m9 w9 hSh hAt hDn hS => ?cwg1_51)) (fun v6a hVv6a => ?rwg1_51)
        case hwg1_51 => go_simp; refine ⟨?_, ?_⟩ <;> rfl
        case cwg1_51 =>
          obtain ⟨al, bl, hB, hset⟩ := W2A.on3 (hAt 1 (by simp)).1 hDn (post_no (post := [6]) hSh hDn (by kernel_rfl) 6 (by simp)) (post_no (post := [7]) hSh hDn (by kernel_rfl) 7 (by simp)) hS
          have hT := hB.1
          refine (short_any AllB ys B m d w9 (Lay.rd_below HY2.out hT) HN.out.2 HSX.out.2).mono ?_
          rintro e w6 ⟨A, n, c, rfl, hr6, h6a, h6b, q6⟩
          exact ⟨_, rfl, ⟨A, n, c, rfl⟩, hset _ _ (W2KA.c3 hB q6 hr6 h6a h6b)⟩
        try simp only [Act.put, sA, sZ, sS]
        obtain ⟨A6a, n6a, c6a, rfl⟩ := hVv6a
        refine Ps.st (i := 6) (d := none) (u := undef) rfl rfl ?ywg1_52 ?rwg1_52
        case ywg1_52 =>
          refine StepS.store [1, 3, 4, 5] (by kernel_rfl) (by rfl) (fun L9 m9 w9 hSh hAt hDn hS => ?_)
          obtain ⟨g, k, hm, hk, hB, hset⟩ := W2A.on6 (hAt 1 (by simp)).1 (hAt 3 (by simp)).1 (hAt 4 (by simp)).1 (hAt 5 (by simp)).1 hDn (post_no (post := [7]) hSh hDn (by kernel_rfl) 7 (by simp)) hS
          obtain rfl : g8a = g := by have h9 : Value.pointer (some ⟨g8a, 0, none⟩) = .pointer (some ⟨g, 0, none⟩) := (hAt 4 (by simp)).2.symm.trans hm; simpa using h9
          obtain rfl : h8a = k := by have h9 : Value.pointer (some ⟨h8a, 0, none⟩) = .pointer (some ⟨k, 0, none⟩) := (hAt 5 (by simp)).2.symm.trans hk; simpa using h9
          obtain ⟨_, ⟨hA, hb2⟩, _⟩ := id hB
          have hBk := (hA g8a rfl).2.2
          refine (exec_store_blk (w := w9) 30 (.tmp 5) (.tmp 14) (by rfl) g8a 30 #[.slice none 0 0] #[.slice A5a n5a c5a] (by rfl) (by rfl) hBk rfl treeI (by simp [Value.oneCell'])).imp fun w7 hx => ⟨hx.1, hset _ (W2KA.st6 hB (hAt 1 (by simp)).2 hx.2.1 hx.2.2)⟩
        try simp only [Act.put]
        refine Ps.st (i := 7) (d := none) (u := undef) rfl rfl ?ywg1_53 ?rwg1_53
        case ywg1_53 =>
          refine StepS.store [1, 3, 4, 5, 6] (by kernel_rfl) (by rfl) (fun L9 m9 w9 hSh hAt hDn hS => ?_)
          obtain ⟨g, k, hm, hk, hB, hset⟩ := W2A.on7 (hAt 1 (by simp)).1 (hAt 3 (by simp)).1 (hAt 4 (by simp)).1 (hAt 5 (by simp)).1 (hAt 6 (by simp)).1 hDn  hS
          obtain rfl : g8a = g := by have h9 : Value.pointer (some ⟨g8a, 0, none⟩) = .pointer (some ⟨g, 0, none⟩) := (hAt 4 (by simp)).2.symm.trans hm; simpa using h9
          obtain rfl : h8a = k := by have h9 : Value.pointer (some ⟨h8a, 0, none⟩) = .pointer (some ⟨k, 0, none⟩) := (hAt 5 (by simp)).2.symm.trans hk; simpa using h9
          obtain ⟨_, A1, n1, c1, hA, hb2, _⟩ := id hB
          have hBk := (hb2 h8a rfl).2
          refine (exec_store_blk (w := w9) 30 (.tmp 6) (.tmp 16) (by rfl) h8a 30 #[.slice none 0 0] #[.slice A6a n6a c6a] (by rfl) (by rfl) hBk rfl treeI (by simp [Value.oneCell'])).imp fun w7 hx => ⟨hx.1, hset _ (W2KA.st7 hB (hAt 3 (by simp)).2 hx.2.1 hx.2.2)⟩
        try simp only [Act.put]
        refine Ps.done (by kernel_rfl) (fun wg1 hS => ?_) _
        obtain ⟨g, k, hm, hk, hB⟩ := W2A.fin (by rfl) (by rfl) (by rfl) hS
        clear hS
        obtain rfl : g8a = g := by have h9 : Value.pointer (some ⟨g8a, 0, none⟩) = .pointer (some ⟨g, 0, none⟩) := hm; simpa using h9
        obtain rfl : h8a = k := by have h9 : Value.pointer (some ⟨h8a, 0, none⟩) = .pointer (some ⟨k, 0, none⟩) := hk; simpa using h9
        have hB := W2KA.pair (A := A5a) (n := n5a) (c := c5a) (A' := A6a) (n' := n6a) (c' := c6a) hB rfl rfl
        refine ⟨g8a, h8a, A5a, n5a, c5a, A6a, n6a, c6a, ⟨.agg #[.slice A n c], .agg #[.slice A5a n5a c5a], .agg #[.slice B m d], .agg #[.slice A6a n6a c6a], ?_⟩, hB⟩
        clear hB hm hk
        rfl
    case bwg1_4_5 =>
      refine Turns.mk (i := 5) (d := some 6) rfl rfl (TurnS.value (V := fun v => ∃ g, v = .pointer (some ⟨g, 0, none⟩)) [] (by kernel_rfl) (by rfl) (fun L9 m9 w9 hSh hAt hDn hS => ?cwg1_54)) (fun v5a hVv5a => ?rwg1_54)
      case cwg1_54 =>
        exact ⟨.pointer (some ⟨w9.heap.size, 0, none⟩), w9.alloc (.cells #[.slice none 0 0] 30), (by clear hS; go_simp), ⟨_, rfl⟩, W2A.made5 hDn (post_no (post := [6]) hSh hDn (by kernel_rfl) 6 (by simp)) (post_no (post := [7]) hSh hDn (by kernel_rfl) 7 (by simp)) rfl (W2KA.m5) hS⟩
      try simp only [Act.put, sA, sZ, sS]
      obtain ⟨h8a, rfl⟩ := hVv5a
      refine Ps.some2 (i := 1) (j := 4) (by kernel_rfl) ?bwg1_55_1 ?bwg1_55_4
      case bwg1_55_1 =>
        refine Turns.mk (i := 1) (d := some 14) rfl rfl (TurnS.call (V := fun v => ∃ A n c, v = .agg #[.slice A n c]) ?fwg1_56 ?awg1_56 [] (by kernel_rfl) (by rfl) (fun w9 => ?hwg1_56) (fun L9 m9 w9 hSh hAt hDn hS => ?cwg1_56)) (fun v5a hVv5a => ?rwg1_56)
        case hwg1_56 => go_simp; refine ⟨?_, ?_⟩ <;> rfl
        case cwg1_56 =>
          obtain ⟨al, bl, hB, hset⟩ := W2A.on1 hDn (post_no (post := [3]) hSh hDn (by kernel_rfl) 3 (by simp)) (post_no (post := [6]) hSh hDn (by kernel_rfl) 6 (by simp)) (post_no (post := [7]) hSh hDn (by kernel_rfl) 7 (by simp)) hS
          have hT := hB.1
          refine (short_any AllB xs A n c w9 (Lay.rd_below HX2.out hT) HN.out.1 HSX.out.1).mono ?_
          rintro e w6 ⟨A, n, c, rfl, hr6, h6a, h6b, q6⟩
          exact ⟨_, rfl, ⟨A, n, c, rfl⟩, hset _ _ (W2KA.c1 hB q6 hr6 h6a h6b)⟩
        try simp only [Act.put, sA, sZ, sS]
        obtain ⟨A5a, n5a, c5a, rfl⟩ := hVv5a
        refine Ps.some2 (i := 3) (j := 4) (by kernel_rfl) ?bwg1_57_3 ?bwg1_57_4
        case bwg1_57_3 =>
          refine Turns.mk (i := 3) (d := some 16) rfl rfl (TurnS.call (V := fun v => ∃ A n c, v = .agg #[.slice A n c]) ?fwg1_58 ?awg1_58 [1] (by kernel_rfl) (by rfl) (fun w9 => ?hwg1_58) (fun L9 m9 w9 hSh hAt hDn hS => ?cwg1_58)) (fun v6a hVv6a => ?rwg1_58)
          case hwg1_58 => go_simp; refine ⟨?_, ?_⟩ <;> rfl
          case cwg1_58 =>
            obtain ⟨al, bl, hB, hset⟩ := W2A.on3 (hAt 1 (by simp)).1 hDn (post_no (post := [6]) hSh hDn (by kernel_rfl) 6 (by simp)) (post_no (post := [7]) hSh hDn (by kernel_rfl) 7 (by simp)) hS
            have hT := hB.1
            refine (short_any AllB ys B m d w9 (Lay.rd_below HY2.out hT) HN.out.2 HSX.out.2).mono ?_
            rintro e w6 ⟨A, n, c, rfl, hr6, h6a, h6b, q6⟩
            exact ⟨_, rfl, ⟨A, n, c, rfl⟩, hset _ _ (W2KA.c3 hB q6 hr6 h6a h6b)⟩
          try simp only [Act.put, sA, sZ, sS]
          obtain ⟨A6a, n6a, c6a, rfl⟩ := hVv6a
          refine Ps.one (k := 4) (d := some 5) rfl rfl (by kernel_rfl) (TurnS.value (V := fun v => ∃ g, v = .pointer (some ⟨g, 0, none⟩)) [] (by kernel_rfl) (by rfl) (fun L9 m9 w9 hSh hAt hDn hS => ?cwg1_59)) (fun v4a hVv4a => ?rwg1_59)
          case cwg1_59 =>
            exact ⟨.pointer (some ⟨w9.heap.size, 0, none⟩), w9.alloc (.cells #[.slice none 0 0] 30), (by clear hS; go_simp), ⟨_, rfl⟩, W2A.made4 hDn (post_no (post := [6]) hSh hDn (by kernel_rfl) 6 (by simp)) (post_no (post := [7]) hSh hDn (by kernel_rfl) 7 (by simp)) rfl (W2KA.m4) hS⟩
          try simp only [Act.put, sA, sZ, sS]
          obtain ⟨g8a, rfl⟩ := hVv4a
          refine Ps.st (i := 6) (d := none) (u := undef) rfl rfl ?ywg1_60 ?rwg1_60
          case ywg1_60 =>
            refine StepS.store [1, 3, 4, 5] (by kernel_rfl) (by rfl) (fun L9 m9 w9 hSh hAt hDn hS => ?_)
            obtain ⟨g, k, hm, hk, hB, hset⟩ := W2A.on6 (hAt 1 (by simp)).1 (hAt 3 (by simp)).1 (hAt 4 (by simp)).1 (hAt 5 (by simp)).1 hDn (post_no (post := [7]) hSh hDn (by kernel_rfl) 7 (by simp)) hS
            obtain rfl : g8a = g := by have h9 : Value.pointer (some ⟨g8a, 0, none⟩) = .pointer (some ⟨g, 0, none⟩) := (hAt 4 (by simp)).2.symm.trans hm; simpa using h9
            obtain rfl : h8a = k := by have h9 : Value.pointer (some ⟨h8a, 0, none⟩) = .pointer (some ⟨k, 0, none⟩) := (hAt 5 (by simp)).2.symm.trans hk; simpa using h9
            obtain ⟨_, ⟨hA, hb2⟩, _⟩ := id hB
            have hBk := (hA g8a rfl).2.2
            refine (exec_store_blk (w := w9) 30 (.tmp 5) (.tmp 14) (by rfl) g8a 30 #[.slice none 0 0] #[.slice A5a n5a c5a] (by rfl) (by rfl) hBk rfl treeI (by simp [Value.oneCell'])).imp fun w7 hx => ⟨hx.1, hset _ (W2KA.st6 hB (hAt 1 (by simp)).2 hx.2.1 hx.2.2)⟩
          try simp only [Act.put]
          refine Ps.st (i := 7) (d := none) (u := undef) rfl rfl ?ywg1_61 ?rwg1_61
          case ywg1_61 =>
            refine StepS.store [1, 3, 4, 5, 6] (by kernel_rfl) (by rfl) (fun L9 m9 w9 hSh hAt hDn hS => ?_)
            obtain ⟨g, k, hm, hk, hB, hset⟩ := W2A.on7 (hAt 1 (by simp)).1 (hAt 3 (by simp)).1 (hAt 4 (by simp)).1 (hAt 5 (by simp)).1 (hAt 6 (by simp)).1 hDn  hS
            obtain rfl : g8a = g := by have h9 : Value.pointer (some ⟨g8a, 0, none⟩) = .pointer (some ⟨g, 0, none⟩) := (hAt 4 (by simp)).2.symm.trans hm; simpa using h9
            obtain rfl : h8a = k := by have h9 : Value.pointer (some ⟨h8a, 0, none⟩) = .pointer (some ⟨k, 0, none⟩) := (hAt 5 (by simp)).2.symm.trans hk; simpa using h9
            obtain ⟨_, A1, n1, c1, hA, hb2, _⟩ := id hB
            have hBk := (hb2 h8a rfl).2
            refine (exec_store_blk (w := w9) 30 (.tmp 6) (.tmp 16) (by rfl) h8a 30 #[.slice none 0 0] #[.slice A6a n6a c6a] (by rfl) (by rfl) hBk rfl treeI (by simp [Value.oneCell'])).imp fun w7 hx => ⟨hx.1, hset _ (W2KA.st7 hB (hAt 3 (by simp)).2 hx.2.1 hx.2.2)⟩
          try simp only [Act.put]
          refine Ps.done (by kernel_rfl) (fun wg1 hS => ?_) _
          obtain ⟨g, k, hm, hk, hB⟩ := W2A.fin (by rfl) (by rfl) (by rfl) hS
          clear hS
          obtain rfl : g8a = g := by have h9 : Value.pointer (some ⟨g8a, 0, none⟩) = .pointer (some ⟨g, 0, none⟩) := hm; simpa using h9
          obtain rfl : h8a = k := by have h9 : Value.pointer (some ⟨h8a, 0, none⟩) = .pointer (some ⟨k, 0, none⟩) := hk; simpa using h9
          have hB := W2KA.pair (A := A5a) (n := n5a) (c := c5a) (A' := A6a) (n' := n6a) (c' := c6a) hB rfl rfl
          refine ⟨g8a, h8a, A5a, n5a, c5a, A6a, n6a, c6a, ⟨.agg #[.slice A n c], .agg #[.slice A5a n5a c5a], .agg #[.slice B m d], .agg #[.slice A6a n6a c6a], ?_⟩, hB⟩
          clear hB hm hk
          rfl
        case bwg1_57_4 =>
          refine Turns.mk (i := 4) (d := some 5) rfl rfl (TurnS.value (V := fun v => ∃ g, v = .pointer (some ⟨g, 0, none⟩)) [] (by kernel_rfl) (by rfl) (fun L9 m9 w9 hSh hAt hDn hS => ?cwg1_62)) (fun v4a hVv4a => ?rwg1_62)
          case cwg1_62 =>
            exact ⟨.pointer (some ⟨w9.heap.size, 0, none⟩), w9.alloc (.cells #[.slice none 0 0] 30), (by clear hS; go_simp), ⟨_, rfl⟩, W2A.made4 hDn (post_no (post := [6]) hSh hDn (by kernel_rfl) 6 (by simp)) (post_no (post := [7]) hSh hDn (by kernel_rfl) 7 (by simp)) rfl (W2KA.m4) hS⟩
          try simp only [Act.put, sA, sZ, sS]
          obtain ⟨g8a, rfl⟩ := hVv4a
          refine Ps.one (k := 3) (d := some 16) rfl rfl (by kernel_rfl) (TurnS.call (V := fun v => ∃ A n c, v = .agg #[.slice A n c]) ?fwg1_63 ?awg1_63 [1] (by kernel_rfl) (by rfl) (fun w9 => ?hwg1_63) (fun L9 m9 w9 hSh hAt hDn hS => ?cwg1_63)) (fun v6a hVv6a => ?rwg1_63)
          case hwg1_63 => go_simp; refine ⟨?_, ?_⟩ <;> rfl
          case cwg1_63 =>
            obtain ⟨al, bl, hB, hset⟩ := W2A.on3 (hAt 1 (by simp)).1 hDn (post_no (post := [6]) hSh hDn (by kernel_rfl) 6 (by simp)) (post_no (post := [7]) hSh hDn (by kernel_rfl) 7 (by simp)) hS
            have hT := hB.1
            refine (short_any AllB ys B m d w9 (Lay.rd_below HY2.out hT) HN.out.2 HSX.out.2).mono ?_
            rintro e w6 ⟨A, n, c, rfl, hr6, h6a, h6b, q6⟩
            exact ⟨_, rfl, ⟨A, n, c, rfl⟩, hset _ _ (W2KA.c3 hB q6 hr6 h6a h6b)⟩
          try simp only [Act.put, sA, sZ, sS]
          obtain ⟨A6a, n6a, c6a, rfl⟩ := hVv6a
          refine Ps.st (i := 6) (d := none) (u := undef) rfl rfl ?ywg1_64 ?rwg1_64
          case ywg1_64 =>
            refine StepS.store [1, 3, 4, 5] (by kernel_rfl) (by rfl) (fun L9 m9 w9 hSh hAt hDn hS => ?_)
            obtain ⟨g, k, hm, hk, hB, hset⟩ := W2A.on6 (hAt 1 (by simp)).1 (hAt 3 (by simp)).1 (hAt 4 (by simp)).1 (hAt 5 (by simp)).1 hDn (post_no (post := [7]) hSh hDn (by kernel_rfl) 7 (by simp)) hS
            obtain rfl : g8a = g := by have h9 : Value.pointer (some ⟨g8a, 0, none⟩) = .pointer (some ⟨g, 0, none⟩) := (hAt 4 (by simp)).2.symm.trans hm; simpa using h9
            obtain rfl : h8a = k := by have h9 : Value.pointer (some ⟨h8a, 0, none⟩) = .pointer (some ⟨k, 0, none⟩) := (hAt 5 (by simp)).2.symm.trans hk; simpa using h9
            obtain ⟨_, ⟨hA, hb2⟩, _⟩ := id hB
            have hBk := (hA g8a rfl).2.2
            refine (exec_store_blk (w := w9) 30 (.tmp 5) (.tmp 14) (by rfl) g8a 30 #[.slice none 0 0] #[.slice A5a n5a c5a] (by rfl) (by rfl) hBk rfl treeI (by simp [Value.oneCell'])).imp fun w7 hx => ⟨hx.1, hset _ (W2KA.st6 hB (hAt 1 (by simp)).2 hx.2.1 hx.2.2)⟩
          try simp only [Act.put]
          refine Ps.st (i := 7) (d := none) (u := undef) rfl rfl ?ywg1_65 ?rwg1_65
          case ywg1_65 =>
            refine StepS.store [1, 3, 4, 5, 6] (by kernel_rfl) (by rfl) (fun L9 m9 w9 hSh hAt hDn hS => ?_)
            obtain ⟨g, k, hm, hk, hB, hset⟩ := W2A.on7 (hAt 1 (by simp)).1 (hAt 3 (by simp)).1 (hAt 4 (by simp)).1 (hAt 5 (by simp)).1 (hAt 6 (by simp)).1 hDn  hS
            obtain rfl : g8a = g := by have h9 : Value.pointer (some ⟨g8a, 0, none⟩) = .pointer (some ⟨g, 0, none⟩) := (hAt 4 (by simp)).2.symm.trans hm; simpa using h9
            obtain rfl : h8a = k := by have h9 : Value.pointer (some ⟨h8a, 0, none⟩) = .pointer (some ⟨k, 0, none⟩) := (hAt 5 (by simp)).2.symm.trans hk; simpa using h9
            obtain ⟨_, A1, n1, c1, hA, hb2, _⟩ := id hB
            have hBk := (hb2 h8a rfl).2
            refine (exec_store_blk (w := w9) 30 (.tmp 6) (.tmp 16) (by rfl) h8a 30 #[.slice none 0 0] #[.slice A6a n6a c6a] (by rfl) (by rfl) hBk rfl treeI (by simp [Value.oneCell'])).imp fun w7 hx => ⟨hx.1, hset _ (W2KA.st7 hB (hAt 3 (by simp)).2 hx.2.1 hx.2.2)⟩
          try simp only [Act.put]
          refine Ps.done (by kernel_rfl) (fun wg1 hS => ?_) _
          obtain ⟨g, k, hm, hk, hB⟩ := W2A.fin (by rfl) (by rfl) (by rfl) hS
          clear hS
          obtain rfl : g8a = g := by have h9 : Value.pointer (some ⟨g8a, 0, none⟩) = .pointer (some ⟨g, 0, none⟩) := hm; simpa using h9
          obtain rfl : h8a = k := by have h9 : Value.pointer (some ⟨h8a, 0, none⟩) = .pointer (some ⟨k, 0, none⟩) := hk; simpa using h9
          have hB := W2KA.pair (A := A5a) (n := n5a) (c := c5a) (A' := A6a) (n' := n6a) (c' := c6a) hB rfl rfl
          refine ⟨g8a, h8a, A5a, n5a, c5a, A6a, n6a, c6a, ⟨.agg #[.slice A n c], .agg #[.slice A5a n5a c5a], .agg #[.slice B m d], .agg #[.slice A6a n6a c6a], ?_⟩, hB⟩
          clear hB hm hk
          rfl
      case bwg1_55_4 =>
        refine Turns.mk (i := 4) (d := some 5) rfl rfl (TurnS.value (V := fun v => ∃ g, v = .pointer (some ⟨g, 0, none⟩)) [] (by kernel_rfl) (by rfl) (fun L9 m9 w9 hSh hAt hDn hS => ?cwg1_66)) (fun v4a hVv4a => ?rwg1_66)
        case cwg1_66 =>
          exact ⟨.pointer (some ⟨w9.heap.size, 0, none⟩), w9.alloc (.cells #[.slice none 0 0] 30), (by clear hS; go_simp), ⟨_, rfl⟩, W2A.made4 hDn (post_no (post := [6]) hSh hDn (by kernel_rfl) 6 (by simp)) (post_no (post := [7]) hSh hDn (by kernel_rfl) 7 (by simp)) rfl (W2KA.m4) hS⟩
        try simp only [Act.put, sA, sZ, sS]
        obtain ⟨g8a, rfl⟩ := hVv4a
        refine Ps.one (k := 1) (d := some 14) rfl rfl (by kernel_rfl) (TurnS.call (V := fun v => ∃ A n c, v = .agg #[.slice A n c]) ?fwg1_67 ?awg1_67 [] (by kernel_rfl) (by rfl) (fun w9 => ?hwg1_67) (fun L9 m9 w9 hSh hAt hDn hS => ?cwg1_67)) (fun v5a hVv5a => ?rwg1_67)
        case hwg1_67 => go_simp; refine ⟨?_, ?_⟩ <;> rfl
        case cwg1_67 =>
          obtain ⟨al, bl, hB, hset⟩ := W2A.on1 hDn (post_no (post := [3]) hSh hDn (by kernel_rfl) 3 (by simp)) (post_no (post := [6]) hSh hDn (by kernel_rfl) 6 (by simp)) (post_no (post := [7]) hSh hDn (by kernel_rfl) 7 (by simp)) hS
          have hT := hB.1
          refine (short_any AllB xs A n c w9 (Lay.rd_below HX2.out hT) HN.out.1 HSX.out.1).mono ?_
          rintro e w6 ⟨A, n, c, rfl, hr6, h6a, h6b, q6⟩
          exact ⟨_, rfl, ⟨A, n, c, rfl⟩, hset _ _ (W2KA.c1 hB q6 hr6 h6a h6b)⟩
        try simp only [Act.put, sA, sZ, sS]
        obtain ⟨A5a, n5a, c5a, rfl⟩ := hVv5a
        refine Ps.one (k := 3) (d := some 16) rfl rfl (by kernel_rfl) (TurnS.call (V := fun v => ∃ A n c, v = .agg #[.slice A n c]) ?fwg1_68 ?awg1_68 [1] (by kernel_rfl) (by rfl) (fun w9 => ?hwg1_68) (fun L9 m9 w9 hSh hAt hDn hS => ?cwg1_68)) (fun v6a hVv6a => ?rwg1_68)
        case hwg1_68 => go_simp; refine ⟨?_, ?_⟩ <;> rfl
        case cwg1_68 =>
          obtain ⟨al, bl, hB, hset⟩ := W2A.on3 (hAt 1 (by simp)).1 hDn (post_no (post := [6]) hSh hDn (by kernel_rfl) 6 (by simp)) (post_no (post := [7]) hSh hDn (by kernel_rfl) 7 (by simp)) hS
          have hT := hB.1
          refine (short_any AllB ys B m d w9 (Lay.rd_below HY2.out hT) HN.out.2 HSX.out.2).mono ?_
          rintro e w6 ⟨A, n, c, rfl, hr6, h6a, h6b, q6⟩
          exact ⟨_, rfl, ⟨A, n, c, rfl⟩, hset _ _ (W2KA.c3 hB q6 hr6 h6a h6b)⟩
        try simp only [Act.put, sA, sZ, sS]
        obtain ⟨A6a, n6a, c6a, rfl⟩ := hVv6a
        refine Ps.st (i := 6) (d := none) (u := undef) rfl rfl ?ywg1_69 ?rwg1_69
        case ywg1_69 =>
          refine StepS.store [1, 3, 4, 5] (by kernel_rfl) (by rfl) (fun L9 m9 w9 hSh hAt hDn hS => ?_)
          obtain ⟨g, k, hm, hk, hB, hset⟩ := W2A.on6 (hAt 1 (by simp)).1 (hAt 3 (by simp)).1 (hAt 4 (by simp)).1 (hAt 5 (by simp)).1 hDn (post_no (post := [7]) hSh hDn (by kernel_rfl) 7 (by simp)) hS
          obtain rfl : g8a = g := by have h9 : Value.pointer (some ⟨g8a, 0, none⟩) = .pointer (some ⟨g, 0, none⟩) := (hAt 4 (by simp)).2.symm.trans hm; simpa using h9
          obtain rfl : h8a = k := by have h9 : Value.pointer (some ⟨h8a, 0, none⟩) = .pointer (some ⟨k, 0, none⟩) := (hAt 5 (by simp)).2.symm.trans hk; simpa using h9
          obtain ⟨_, ⟨hA, hb2⟩, _⟩ := id hB
          have hBk := (hA g8a rfl).2.2
          refine (exec_store_blk (w := w9) 30 (.tmp 5) (.tmp 14) (by rfl) g8a 30 #[.slice none 0 0] #[.slice A5a n5a c5a] (by rfl) (by rfl) hBk rfl treeI (by simp [Value.oneCell'])).imp fun w7 hx => ⟨hx.1, hset _ (W2KA.st6 hB (hAt 1 (by simp)).2 hx.2.1 hx.2.2)⟩
        try simp only [Act.put]
        refine Ps.st (i := 7) (d := none) (u := undef) rfl rfl ?ywg1_70 ?rwg1_70
        case ywg1_70 =>
          refine StepS.store [1, 3, 4, 5, 6] (by kernel_rfl) (by rfl) (fun L9 m9 w9 hSh hAt hDn hS => ?_)
          obtain ⟨g, k, hm, hk, hB, hset⟩ := W2A.on7 (hAt 1 (by simp)).1 (hAt 3 (by simp)).1 (hAt 4 (by simp)).1 (hAt 5 (by simp)).1 (hAt 6 (by simp)).1 hDn  hS
          obtain rfl : g8a = g := by have h9 : Value.pointer (some ⟨g8a, 0, none⟩) = .pointer (some ⟨g, 0, none⟩) := (hAt 4 (by simp)).2.symm.trans hm; simpa using h9
          obtain rfl : h8a = k := by have h9 : Value.pointer (some ⟨h8a, 0, none⟩) = .pointer (some ⟨k, 0, none⟩) := (hAt 5 (by simp)).2.symm.trans hk; simpa using h9
          obtain ⟨_, A1, n1, c1, hA, hb2, _⟩ := id hB
          have hBk := (hb2 h8a rfl).2
          refine (exec_store_blk (w := w9) 30 (.tmp 6) (.tmp 16) (by rfl) h8a 30 #[.slice none 0 0] #[.slice A6a n6a c6a] (by rfl) (by rfl) hBk rfl treeI (by simp [Value.oneCell'])).imp fun w7 hx => ⟨hx.1, hset _ (W2KA.st7 hB (hAt 3 (by simp)).2 hx.2.1 hx.2.2)⟩
        try simp only [Act.put]
        refine Ps.done (by kernel_rfl) (fun wg1 hS => ?_) _
        obtain ⟨g, k, hm, hk, hB⟩ := W2A.fin (by rfl) (by rfl) (by rfl) hS
        clear hS
        obtain rfl : g8a = g := by have h9 : Value.pointer (some ⟨g8a, 0, none⟩) = .pointer (some ⟨g, 0, none⟩) := hm; simpa using h9
        obtain rfl : h8a = k := by have h9 : Value.pointer (some ⟨h8a, 0, none⟩) = .pointer (some ⟨k, 0, none⟩) := hk; simpa using h9
        have hB := W2KA.pair (A := A5a) (n := n5a) (c := c5a) (A' := A6a) (n' := n6a) (c' := c6a) hB rfl rfl
        refine ⟨g8a, h8a, A5a, n5a, c5a, A6a, n6a, c6a, ⟨.agg #[.slice A n c], .agg #[.slice A5a n5a c5a], .agg #[.slice B m d], .agg #[.slice A6a n6a c6a], ?_⟩, hB⟩
        clear hB hm hk
        rfl
  case kpswg1 =>
    intro a' w1a hF
    obtain ⟨g8a, h8a, A5a, n5a, c5a, A6a, n6a, c6a, ⟨v13, v14, v15, v16, rfl⟩, hT, hg9, hbk, hbk2, hr, hr2, hc1, hc2⟩ := hF
    have HT1a := Lib.hid hT
    have HGa := Lib.hid hg9
    have HVa := Lib.hid hbk
    have HUa := Lib.hid hbk2
    have HRVa := Lib.hid hr
    have HRUa := Lib.hid hr2
    have HCVa := Lib.hid hc1
    have HCUa := Lib.hid hc2
    clear hT hg9 hbk hbk2 hr hr2 hc1 hc2
    simp only [Act.put, List.setIfInBounds_toArray, List.set_cons_zero, List.set_cons_succ]
    have HT3 := Lib.hid (HT2.out.below HT1a.out)
    have HQ3 := Lib.hid (bl_ca HQ2.out HT1a.out)
    have x5 : w1a.cell? ⟨g8a, 0, none⟩ = some (.slice A5a n5a c5a) := HVa.out.cell 0
    have HPA := Lib.hid (printtree_any _ (shortN xs) A5a n5a c5a w1a HRVa.out (short_n HRVa.out) HT3.out short_sm (short_rg HRX.out.1))
    have HOX := Lib.hid (chk_or (shortN xs))
    have HOY := Lib.hid (chk_or (shortN ys))
    obtain ⟨E1, hE1⟩ : ∃ E, E = chkE (shortN xs) := ⟨_, rfl⟩
    obtain ⟨E2, hE2⟩ : ∃ E, E = chkE (shortN ys) := ⟨_, rfl⟩
    obtain ⟨P1, hP1⟩ : ∃ E, E = prF (shortN xs) := ⟨_, rfl⟩
    obtain ⟨P2, hP2⟩ : ∃ E, E = prF (shortN ys) := ⟨_, rfl⟩
    rw [← hE1, ← hP1] at HPA
    rw [← hE1] at HOX
    rw [← hE2] at HOY
    rw [← hP1, ← hP2] at HLAW
    have HEP := Lib.hid (And.intro hE2 hP2)
    clear hE1 hE2 hP1 hP2
    have HNA := Lib.hid (And.intro (short_n HRVa.out) (short_n HRUa.out))
    go_wp2_with fail
    refine HPA.out.mono ?_
    rintro e w3 ⟨rfl, q3⟩
    have HRA3 := Lib.hid (Lay.rd_below HRVa.out q3)
    have HRB3 := Lib.hid (Lay.rd_below HRUa.out q3)
    have HT4 := Lib.hid (HT3.out.below q3)
    have HQ4 := Lib.hid (bl_ca HQ3.out q3)
    have HV3 := Lib.hid (HVa.out.ca q3)
    have HU3 := Lib.hid (HUa.out.ca q3)
    have x6 : w3.cell? ⟨h8a, 0, none⟩ = some (.slice A6a n6a c6a) := HU3.out.cell 0
    have HPB := Lib.hid (printtree_any _ (shortN ys) A6a n6a c6a w3 HRB3.out HNA.out.2 HT4.out short_sm (short_rg HRX.out.2))
    rw [← HEP.out.1, ← HEP.out.2] at HPB
    clear q3 x5 HPA
    go_wp2_with fail
    refine HPB.out.mono ?_
    rintro e w4 ⟨rfl, q4⟩
    have HRA4 := Lib.hid (Lay.rd_below HRA3.out q4)
    have HRB4 := Lib.hid (Lay.rd_below HRB3.out q4)
    have HQ5 := Lib.hid (bl_ca HQ4.out q4)
    have x5 : w4.cell? ⟨g8a, 0, none⟩ = some (.slice A5a n5a c5a) := (HV3.out.ca q4).cell 0
    have y6 : w4.cell? ⟨h8a, 0, none⟩ = some (.slice A6a n6a c6a) := (HU3.out.ca q4).cell 0
    clear q4 x6 HPB
    rcases HOX.out with ⟨rfl, ox⟩ | ⟨rfl, ox⟩
    case inr =>
      clear ox
      go_wp2
      go_ret
      exact ⟨rfl, HQ5.out⟩
    rcases HOY.out with ⟨rfl, oy⟩ | ⟨rfl, oy⟩
    case inr =>
      clear ox oy
      go_wp2
      go_ret
      exact ⟨rfl, HQ5.out⟩
    have HL := Lib.hid (HLAW.out ox oy)
    have HSM := Lib.hid (sametree_any _ _ (shortN xs) (shortN ys) A5a n5a c5a A6a n6a c6a w4 HRA4.out HRB4.out (by have := HNA.out.1; omega))
    clear ox oy
    obtain ⟨b, hb⟩ : ∃ b, b = decide (shortN xs = shortN ys) := ⟨_, rfl⟩
    rw [← hb] at HSM
    have HB := Lib.hid (show b = true ↔ P1 = P2 from by rw [hb, decide_eq_true_eq, HL.out])
    clear hb
    go_wp2_with fail
    refine HSM.out.mono ?_
    rintro e w5 ⟨rfl, q5⟩
    have HQ6 := Lib.hid (bl_ca HQ5.out q5)
    clear q5 x5 y6
    cases b
    · have hne : ¬ P1 = P2 := fun h => by have := HB.out.2 h; cases this
      have h1 : (P1.toList == P2.toList) = false := by rw [toList_data, toList_data, beq_eq_false_iff_ne]; exact fun h => hne (ba_of h)
      have h2 : decide (P1.toList = P2.toList) = false := decide_eq_false (fun h => hne (ba_list.1 h))
      have h3 : ¬ P1.toList = P2.toList := fun h => hne (ba_list.1 h)
      clear hne
      go_wp2
      go_ret
      exact ⟨rfl, HQ6.out⟩
    · have he := HB.out.1 rfl
      subst he
      go_wp2
      go_ret
      exact ⟨rfl, HQ6.out⟩
theorem apart_walkF (x : List Nd) (A : Option Addr) (n c : Nat) (y : List Nd) (B : Option Addr) (m d : Nat) (w : World) (h : LN.rd w AllB A n x) (ha : n ≤ c) (hb : c ≤ 9223372036854775807) (hs : ∀ z ∈ x, SmP z.p ∧ RgP z.p) (k : LN.rd w AllB B m y) (ka : m ≤ d) (kb : d ≤ 9223372036854775807) (ks : ∀ z ∈ y, SmP z.p ∧ RgP z.p) (hT : Tab w) :
    Calls Tryd.prog 5 #[.agg #[.slice A n c], .agg #[.slice B m d]] w fun e w' => e = .returned (.bool true) ∧ Below w.heap.size w w' :=
  apart_walk x y A n c B m d w h k (Nat.le_trans ha hb) (Nat.le_trans ka kb) hT (fun z hz => (hs z hz).1) (fun z hz => (ks z hz).1) (fun z hz => (hs z hz).2) (fun z hz => (ks z hz).2)
end Go.Proofs.YtoaggmldekejoaaDoor
