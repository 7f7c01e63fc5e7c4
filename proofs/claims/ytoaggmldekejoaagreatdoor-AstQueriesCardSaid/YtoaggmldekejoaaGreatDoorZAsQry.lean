/- AstQueries: which queries may be, are the same, how they are written. Conditions: the rows of queries read so; what the tables hold. -/
import Derived.Test.YtoaggmldekejoaaGreatDoorPkQ26
namespace Go.Proofs.YtoaggmldekejoaaGreatDoor
open Go.RowKit
theorem addr_zero3 (ad : Addr) : ad.add (0 * 3) = ad := by unfold Addr.add; rw [if_pos (by decide)]
set_option maxRecDepth 100000 in
set_option maxHeartbeats 32000000 in
theorem queries_walk (ls : List QC) (A : Option Addr) (n c : Nat) (w : World) (h : LQC.rd w AllB A n ls) (hn : n ≤ 9223372036854775807) (hT : Tab w) (hS : ∀ x ∈ ls, AQ x) :
 Calls Tryz.prog 4 #[.slice A n c] w fun e w' => e = .returned (.bool true) ∧ Below w.heap.size w w' := by
 have HX := Lib.hid h
 have HT := Lib.hid hT
 have HS := Lib.hid hS
 clear h hT hS
 go_enter Tryz.func4, Tryz.ntmps4
 go_wp2_with fail
 refine (wakes_any w HT.out).mono ?_
 rintro e w0 ⟨rfl, q0⟩
 have HQ0 := Lib.hid q0
 clear q0
 go_wp2_with fail
 go_loopg [15] n (fun g a wr => ∃ i : Nat, i + g = n ∧ i ≤ 6 ∧ a = .int .i64 (i : Int) ∧ Hid (Below w.heap.size w wr))
 case atStart => exact ⟨0, by omega, by omega, rfl, HQ0⟩
 case round =>
  obtain ⟨i, hig, hi8, rfl, HQR⟩ := hrel
  by_cases hlt : i < n
  · have hi1 : (i : Int) < (n : Int) := by omega
    obtain ⟨ad, x, B, m, mc, K, k, kc, hAe, hx, ⟨x0, x1, x2⟩, hmc, hrx, hkc, hrk⟩ := LQC_at (Lay.rd_below HX.out HQR.out) hlt
    obtain rfl : A = some ad := hAe
    obtain ⟨ad2, y, B2, m2, mc2, K2, k2, kc2, hAe2, hy, ⟨y0, y1, y2⟩, hmc2, hry, hkc2, hrk2⟩ := LQC_at (Lay.rd_below HX.out HQR.out) (show 0 < n by omega)
    obtain rfl : ad = ad2 := by injection hAe2
    rw [addr_zero3] at y0 y1 y2
    have HAX := Lib.hid (HS.out x (List.mem_of_getElem? hx))
    have HAY := Lib.hid (HS.out y (List.mem_of_getElem? hy))
    have HBX := Lib.hid (Blk.new wr 43 #[.slice B m mc, .slice K k kc, .int .i64 x.lim])
    have HQX := Lib.hid (bl_al HQR.out (.cells #[.slice B m mc, .slice K k kc, .int .i64 x.lim] 43))
    have ral := bl_al (Below.refl wr.heap.size wr) (.cells #[.slice B m mc, .slice K k kc, .int .i64 x.lim] 43)
    have HRX := Lib.hid (show RQ AllB _ x B m mc K k kc from RQ.below ⟨hrx, hmc, hrk, hkc⟩ ral)
    have HRY := Lib.hid (show RQ AllB _ y B2 m2 mc2 K2 k2 kc2 from RQ.below ⟨hry, hmc2, hrk2, hkc2⟩ ral)
    have HY0 := Lib.hid (ce y0 ral)
    have HY1 := Lib.hid (ce y1 ral)
    have HY2 := Lib.hid (ce y2 ral)
    clear hx hy hrx hry hmc hkc hmc2 hkc2 hrk hrk2 ral y0 y1 y2 hAe2
    by_cases h8 : i = 6
    · have h8' : ((i : Int) == 6) = true := by simp; omega
      clear h8
      go_wp2
      go_ret
      exact ⟨rfl, HQX.out⟩
    have hi8' : ((i : Int) == 6) = false := by simp; omega
    have hi9 : i ≤ 5 := by omega
    clear h8
    go_upto_region 7 with fail
    generalize wr.alloc (.cells #[.slice B m mc, .slice K k kc, .int .i64 x.lim] 43) = w1 at *
    clear x0 x1 x2
    obtain ⟨gx, hgx⟩ : ∃ g, g = wr.heap.size := ⟨_, rfl⟩
    rw [← hgx] at HBX ⊢
    clear hgx
    have hn0 : ¬ n = 0 := by omega
    refine wp_region_psF (F := fun a1 a' w' => ∃ (g8a h8a : Nat) (V5a V6a : Array Value), (∃ v22 v23 v24 v25 v26 v27, a' = ((((((((a1.put (some 22) v22).put (some 23) v23).put (some 24) v24).put (some 25) v25).put (some 26) v26).put (some 27) v27).put (some 5) (.pointer (some ⟨g8a, 0, none⟩))).put (some 6) (.pointer (some ⟨h8a, 0, none⟩)))) ∧ Below w1.heap.size w1 w' ∧ (w1.heap.size ≤ g8a ∧ w1.heap.size ≤ h8a ∧ g8a ≠ h8a) ∧ Blk w' g8a 43 V5a ∧ Blk w' h8a 43 V6a ∧ LQC.rep w' AllB (fewQ x) V5a.toList ∧ LQC.rep w' AllB (fewQ y) V6a.toList) (S := WQB (WQKB (fewQ x) (fewQ y) 43 w1)) (by kernel_rfl) ?spswg121 ?ppswg121 ?kpswg121
    case spswg121 =>
     exact WQB.start (by decide) ⟨(Below.refl w1.heap.size w1).drew, (fun g e => by cases e), (fun g e => by cases e)⟩
    case ppswg121 =>
     refine Pz 0 (some 22) (.agg #[.slice B m mc, .slice K k kc, .int .i64 (x.lim)]) rfl rfl ?ywg121_122 ?rwg121_122
     case ywg121_122 =>
      refine StepS.read [] (by kernel_rfl) (WQB.pass (by decide) (by decide) (by decide)) (by rfl) (fun L9 m9 w9 hSh hAt hDn hS => ?_)
      have hT : Below w1.heap.size w1 w9 := WQB.any (T := fun w9 => Below w1.heap.size w1 w9) (fun _ _ _ _ _ h => h.1) hS
      have x0 : w9.cell? ⟨gx, 0, none⟩ = some (.slice B m mc) := (HBX.out.ca hT).cell 0
      have x1 : w9.cell? ⟨gx, 1, none⟩ = some (.slice K k kc) := (HBX.out.ca hT).cell 1
      have x2 : w9.cell? ⟨gx, 2, none⟩ = some (.int .i64 (x.lim)) := (HBX.out.ca hT).cell 2
      clear hT hS
      go_simp
      try rfl
     try simp only [Act.put, sA, sZ, sS]
     refine Pz 2 (some 24) (.slice (some ad) n c) rfl rfl (by exact StepS.pure (WQB.pass (by decide) (by decide) (by decide)) rfl fun _ => rfl) ?_
     try simp only [Act.put, sA, sZ, sS]
     refine Pz 3 (some 25) (.pointer (some (ad))) rfl rfl (by exact StepS.pure (WQB.pass (by decide) (by decide) (by decide)) rfl fun _ => by first | rfl | (go_simp; done) | (go_simp; rfl)) ?_
     try simp only [Act.put, sA, sZ, sS]
     refine Pz 4 (some 26) (.agg #[.slice B2 m2 mc2, .slice K2 k2 kc2, .int .i64 (y.lim)]) rfl rfl ?ywg121_125 ?rwg121_125
     case ywg121_125 =>
      refine StepS.read [] (by kernel_rfl) (WQB.pass (by decide) (by decide) (by decide)) (by rfl) (fun L9 m9 w9 hSh hAt hDn hS => ?_)
      have hT : Below w1.heap.size w1 w9 := WQB.any (T := fun w9 => Below w1.heap.size w1 w9) (fun _ _ _ _ _ h => h.1) hS
      have x0 : w9.cell? (ad) = some (.slice B2 m2 mc2) := ce HY0.out hT
      have x1 : w9.cell? ⟨(ad).block, (ad).off + 1, none⟩ = some (.slice K2 k2 kc2) := ce HY1.out hT
      have x2 : w9.cell? ⟨(ad).block, (ad).off + 2, none⟩ = some (.int .i64 (y.lim)) := ce HY2.out hT
      clear hT hS
      go_simp
      try rfl
     try simp only [Act.put, sA, sZ, sS]
     refine Ps.some3 (i := 1) (j := 6) (k := 7) (by kernel_rfl) ?bwg121_126_1 ?bwg121_126_6 ?bwg121_126_7
     case bwg121_126_1 =>
      refine Turns.mk (i := 1) (d := some 23) rfl rfl (TurnS.call (V := fun v => ∃ V : Array Value, v = .agg V) ?fwg121_127 ?awg121_127 [] (by kernel_rfl) (by rfl) (fun w9 => ?hwg121_127) (fun L9 m9 w9 hSh hAt hDn hS => ?cwg121_127)) (fun v5a hVv5a => ?rwg121_127)
      case hwg121_127 => go_simp; refine ⟨?_, ?_⟩ <;> rfl
      case cwg121_127 =>
       obtain ⟨al, bl, hB, hset⟩ := WQB.on1 hDn (post_no (post := [5]) hSh hDn (by kernel_rfl) 5 (by simp)) (post_no (post := [8]) hSh hDn (by kernel_rfl) 8 (by simp)) (post_no (post := [9]) hSh hDn (by kernel_rfl) 9 (by simp)) hS
       have hT := hB.1
       refine (fewq_any AllB x B m mc K k kc w9 (HRX.out.below hT) HAX.out).mono ?_
       rintro e w6 ⟨V, rfl, hr6, q6⟩
       exact ⟨_, rfl, ⟨V, rfl⟩, hset _ _ (WQKB.c1 hB q6 hr6)⟩
      try simp only [Act.put, sA, sZ, sS]
      obtain ⟨V5a, rfl⟩ := hVv5a
      refine Ps.some3 (i := 5) (j := 6) (k := 7) (by kernel_rfl) ?bwg121_128_5 ?bwg121_128_6 ?bwg121_128_7
      case bwg121_128_5 =>
       refine Turns.mk (i := 5) (d := some 27) rfl rfl (TurnS.call (V := fun v => ∃ V : Array Value, v = .agg V) ?fwg121_129 ?awg121_129 [1] (by kernel_rfl) (by rfl) (fun w9 => ?hwg121_129) (fun L9 m9 w9 hSh hAt hDn hS => ?cwg121_129)) (fun v6a hVv6a => ?rwg121_129)
       case hwg121_129 => go_simp; refine ⟨?_, ?_⟩ <;> rfl
       case cwg121_129 =>
        obtain ⟨al, bl, hB, hset⟩ := WQB.on3 (hAt 1 (by simp)).1 hDn (post_no (post := [8]) hSh hDn (by kernel_rfl) 8 (by simp)) (post_no (post := [9]) hSh hDn (by kernel_rfl) 9 (by simp)) hS
        have hT := hB.1
        refine (fewq_any AllB y B2 m2 mc2 K2 k2 kc2 w9 (HRY.out.below hT) HAY.out).mono ?_
        rintro e w6 ⟨V, rfl, hr6, q6⟩
        exact ⟨_, rfl, ⟨V, rfl⟩, hset _ _ (WQKB.c3 hB q6 hr6)⟩
       try simp only [Act.put, sA, sZ, sS]
       obtain ⟨V6a, rfl⟩ := hVv6a
       refine Ps.some2 (i := 6) (j := 7) (by kernel_rfl) ?bwg121_130_6 ?bwg121_130_7
       case bwg121_130_6 =>
        refine Turns.mk (i := 6) (d := some 5) rfl rfl (TurnS.value (V := fun v => ∃ g, v = .pointer (some ⟨g, 0, none⟩)) [] (by kernel_rfl) (by rfl) (fun L9 m9 w9 hSh hAt hDn hS => ?cwg121_131)) (fun v6a hVv6a => ?rwg121_131)
        case cwg121_131 =>
         exact ⟨.pointer (some ⟨w9.heap.size, 0, none⟩), w9.alloc (.cells zQ 43), (by clear hS; go_simp), ⟨_, rfl⟩, WQB.made4 hDn (post_no (post := [8]) hSh hDn (by kernel_rfl) 8 (by simp)) (post_no (post := [9]) hSh hDn (by kernel_rfl) 9 (by simp)) rfl (WQKB.m4) hS⟩
        try simp only [Act.put, sA, sZ, sS]
        obtain ⟨g8a, rfl⟩ := hVv6a
        refine Ps.one (k := 7) (d := some 6) rfl rfl (by kernel_rfl) (TurnS.value (V := fun v => ∃ g, v = .pointer (some ⟨g, 0, none⟩)) [] (by kernel_rfl) (by rfl) (fun L9 m9 w9 hSh hAt hDn hS => ?cwg121_132)) (fun v7a hVv7a => ?rwg121_132)
        case cwg121_132 =>
         exact ⟨.pointer (some ⟨w9.heap.size, 0, none⟩), w9.alloc (.cells zQ 43), (by clear hS; go_simp), ⟨_, rfl⟩, WQB.made5 hDn (post_no (post := [8]) hSh hDn (by kernel_rfl) 8 (by simp)) (post_no (post := [9]) hSh hDn (by kernel_rfl) 9 (by simp)) rfl (WQKB.m5) hS⟩
        try simp only [Act.put, sA, sZ, sS]
        obtain ⟨h8a, rfl⟩ := hVv7a
        refine Pz 8 none undef rfl rfl ?ywg121_133 ?rwg121_133
        case ywg121_133 =>
         refine StepS.store [1, 5, 6, 7] (by kernel_rfl) (by rfl) (fun L9 m9 w9 hSh hAt hDn hS => ?_)
         obtain ⟨g, k, hm, hk, hB, hset⟩ := WQB.on6 (hAt 1 (by simp)).1 (hAt 5 (by simp)).1 (hAt 6 (by simp)).1 (hAt 7 (by simp)).1 hDn (post_no (post := [9]) hSh hDn (by kernel_rfl) 9 (by simp)) hS
         obtain rfl : g8a = g := by have h9 : Value.pointer (some ⟨g8a, 0, none⟩) = .pointer (some ⟨g, 0, none⟩) := (hAt 6 (by simp)).2.symm.trans hm; simpa using h9
         obtain rfl : h8a = k := by have h9 : Value.pointer (some ⟨h8a, 0, none⟩) = .pointer (some ⟨k, 0, none⟩) := (hAt 7 (by simp)).2.symm.trans hk; simpa using h9
         obtain ⟨_, ⟨hA, hb2⟩, _⟩ := id hB
         have hBk := (hA g8a rfl).2.2
         obtain ⟨hz3, hz1⟩ := WQKB.sz6 hB (hAt 1 (by simp)).2
         refine (exec_store_blk (w := w9) 43 (.tmp 5) (.tmp 23) (by rfl) g8a 43 zQ V5a (by rfl) (by rfl) hBk (by rw [hz3]; rfl) (by rw [hz3]; exact qIB) hz1).imp fun w7 hx => ⟨hx.1, hset _ (WQKB.st6 hB (hAt 1 (by simp)).2 hx.2.1 hx.2.2)⟩
        try simp only [Act.put]
        refine Pz 9 none undef rfl rfl ?ywg121_134 ?rwg121_134
        case ywg121_134 =>
         refine StepS.store [1, 5, 6, 7, 8] (by kernel_rfl) (by rfl) (fun L9 m9 w9 hSh hAt hDn hS => ?_)
         obtain ⟨g, k, hm, hk, hB, hset⟩ := WQB.on7 (hAt 1 (by simp)).1 (hAt 5 (by simp)).1 (hAt 6 (by simp)).1 (hAt 7 (by simp)).1 (hAt 8 (by simp)).1 hDn  hS
         obtain rfl : g8a = g := by have h9 : Value.pointer (some ⟨g8a, 0, none⟩) = .pointer (some ⟨g, 0, none⟩) := (hAt 6 (by simp)).2.symm.trans hm; simpa using h9
         obtain rfl : h8a = k := by have h9 : Value.pointer (some ⟨h8a, 0, none⟩) = .pointer (some ⟨k, 0, none⟩) := (hAt 7 (by simp)).2.symm.trans hk; simpa using h9
         obtain ⟨_, A1, hA, hb2, _⟩ := id hB
         have hBk := (hb2 h8a rfl).2
         obtain ⟨hz3, hz1⟩ := WQKB.sz7 hB (hAt 5 (by simp)).2
         refine (exec_store_blk (w := w9) 43 (.tmp 6) (.tmp 27) (by rfl) h8a 43 zQ V6a (by rfl) (by rfl) hBk (by rw [hz3]; rfl) (by rw [hz3]; exact qIB) hz1).imp fun w7 hx => ⟨hx.1, hset _ (WQKB.st7 hB (hAt 5 (by simp)).2 hx.2.1 hx.2.2)⟩
        try simp only [Act.put]
        refine Ps.done (by kernel_rfl) (fun wg121 hS => ?_) _
        obtain ⟨g, k, hm, hk, hB⟩ := WQB.fin (by rfl) (by rfl) (by rfl) hS
        clear hS
        obtain rfl : g8a = g := by have h9 : Value.pointer (some ⟨g8a, 0, none⟩) = .pointer (some ⟨g, 0, none⟩) := hm; simpa using h9
        obtain rfl : h8a = k := by have h9 : Value.pointer (some ⟨h8a, 0, none⟩) = .pointer (some ⟨k, 0, none⟩) := hk; simpa using h9
        have hB := WQKB.pair (V := V5a) (V' := V6a) hB rfl rfl
        refine ⟨g8a, h8a, V5a, V6a, ⟨.agg #[.slice B m mc, .slice K k kc, .int .i64 x.lim], .agg V5a, .slice (some ad) n c, .pointer (some ad), .agg #[.slice B2 m2 mc2, .slice K2 k2 kc2, .int .i64 y.lim], .agg V6a, ?_⟩, hB⟩
        clear hB hm hk
        rfl
       case bwg121_130_7 =>
        refine Turns.mk (i := 7) (d := some 6) rfl rfl (TurnS.value (V := fun v => ∃ g, v = .pointer (some ⟨g, 0, none⟩)) [] (by kernel_rfl) (by rfl) (fun L9 m9 w9 hSh hAt hDn hS => ?cwg121_135)) (fun v7a hVv7a => ?rwg121_135)
        case cwg121_135 =>
         exact ⟨.pointer (some ⟨w9.heap.size, 0, none⟩), w9.alloc (.cells zQ 43), (by clear hS; go_simp), ⟨_, rfl⟩, WQB.made5 hDn (post_no (post := [8]) hSh hDn (by kernel_rfl) 8 (by simp)) (post_no (post := [9]) hSh hDn (by kernel_rfl) 9 (by simp)) rfl (WQKB.m5) hS⟩
        try simp only [Act.put, sA, sZ, sS]
        obtain ⟨h8a, rfl⟩ := hVv7a
        refine Ps.one (k := 6) (d := some 5) rfl rfl (by kernel_rfl) (TurnS.value (V := fun v => ∃ g, v = .pointer (some ⟨g, 0, none⟩)) [] (by kernel_rfl) (by rfl) (fun L9 m9 w9 hSh hAt hDn hS => ?cwg121_136)) (fun v6a hVv6a => ?rwg121_136)
        case cwg121_136 =>
         exact ⟨.pointer (some ⟨w9.heap.size, 0, none⟩), w9.alloc (.cells zQ 43), (by clear hS; go_simp), ⟨_, rfl⟩, WQB.made4 hDn (post_no (post := [8]) hSh hDn (by kernel_rfl) 8 (by simp)) (post_no (post := [9]) hSh hDn (by kernel_rfl) 9 (by simp)) rfl (WQKB.m4) hS⟩
        try simp only [Act.put, sA, sZ, sS]
        obtain ⟨g8a, rfl⟩ := hVv6a
        refine Pz 8 none undef rfl rfl ?ywg121_137 ?rwg121_137
        case ywg121_137 =>
         refine StepS.store [1, 5, 6, 7] (by kernel_rfl) (by rfl) (fun L9 m9 w9 hSh hAt hDn hS => ?_)
         obtain ⟨g, k, hm, hk, hB, hset⟩ := WQB.on6 (hAt 1 (by simp)).1 (hAt 5 (by simp)).1 (hAt 6 (by simp)).1 (hAt 7 (by simp)).1 hDn (post_no (post := [9]) hSh hDn (by kernel_rfl) 9 (by simp)) hS
         obtain rfl : g8a = g := by have h9 : Value.pointer (some ⟨g8a, 0, none⟩) = .pointer (some ⟨g, 0, none⟩) := (hAt 6 (by simp)).2.symm.trans hm; simpa using h9
         obtain rfl : h8a = k := by have h9 : Value.pointer (some ⟨h8a, 0, none⟩) = .pointer (some ⟨k, 0, none⟩) := (hAt 7 (by simp)).2.symm.trans hk; simpa using h9
         obtain ⟨_, ⟨hA, hb2⟩, _⟩ := id hB
         have hBk := (hA g8a rfl).2.2
         obtain ⟨hz3, hz1⟩ := WQKB.sz6 hB (hAt 1 (by simp)).2
         refine (exec_store_blk (w := w9) 43 (.tmp 5) (.tmp 23) (by rfl) g8a 43 zQ V5a (by rfl) (by rfl) hBk (by rw [hz3]; rfl) (by rw [hz3]; exact qIB) hz1).imp fun w7 hx => ⟨hx.1, hset _ (WQKB.st6 hB (hAt 1 (by simp)).2 hx.2.1 hx.2.2)⟩
        try simp only [Act.put]
        refine Pz 9 none undef rfl rfl ?ywg121_138 ?rwg121_138
        case ywg121_138 =>
         refine StepS.store [1, 5, 6, 7, 8] (by kernel_rfl) (by rfl) (fun L9 m9 w9 hSh hAt hDn hS => ?_)
         obtain ⟨g, k, hm, hk, hB, hset⟩ := WQB.on7 (hAt 1 (by simp)).1 (hAt 5 (by simp)).1 (hAt 6 (by simp)).1 (hAt 7 (by simp)).1 (hAt 8 (by simp)).1 hDn  hS
         obtain rfl : g8a = g := by have h9 : Value.pointer (some ⟨g8a, 0, none⟩) = .pointer (some ⟨g, 0, none⟩) := (hAt 6 (by simp)).2.symm.trans hm; simpa using h9
         obtain rfl : h8a = k := by have h9 : Value.pointer (some ⟨h8a, 0, none⟩) = .pointer (some ⟨k, 0, none⟩) := (hAt 7 (by simp)).2.symm.trans hk; simpa using h9
         obtain ⟨_, A1, hA, hb2, _⟩ := id hB
         have hBk := (hb2 h8a rfl).2
         obtain ⟨hz3, hz1⟩ := WQKB.sz7 hB (hAt 5 (by simp)).2
         refine (exec_store_blk (w := w9) 43 (.tmp 6) (.tmp 27) (by rfl) h8a 43 zQ V6a (by rfl) (by rfl) hBk (by rw [hz3]; rfl) (by rw [hz3]; exact qIB) hz1).imp fun w7 hx => ⟨hx.1, hset _ (WQKB.st7 hB (hAt 5 (by simp)).2 hx.2.1 hx.2.2)⟩
        try simp only [Act.put]
        refine Ps.done (by kernel_rfl) (fun wg121 hS => ?_) _
        obtain ⟨g, k, hm, hk, hB⟩ := WQB.fin (by rfl) (by rfl) (by rfl) hS
        clear hS
        obtain rfl : g8a = g := by have h9 : Value.pointer (some ⟨g8a, 0, none⟩) = .pointer (some ⟨g, 0, none⟩) := hm; simpa using h9
        obtain rfl : h8a = k := by have h9 : Value.pointer (some ⟨h8a, 0, none⟩) = .pointer (some ⟨k, 0, none⟩) := hk; simpa using h9
        have hB := WQKB.pair (V := V5a) (V' := V6a) hB rfl rfl
        refine ⟨g8a, h8a, V5a, V6a, ⟨.agg #[.slice B m mc, .slice K k kc, .int .i64 x.lim], .agg V5a, .slice (some ad) n c, .pointer (some ad), .agg #[.slice B2 m2 mc2, .slice K2 k2 kc2, .int .i64 y.lim], .agg V6a, ?_⟩, hB⟩
        clear hB hm hk
        rfl
      case bwg121_128_6 =>
       refine Turns.mk (i := 6) (d := some 5) rfl rfl (TurnS.value (V := fun v => ∃ g, v = .pointer (some ⟨g, 0, none⟩)) [] (by kernel_rfl) (by rfl) (fun L9 m9 w9 hSh hAt hDn hS => ?cwg121_139)) (fun v6a hVv6a => ?rwg121_139)
       case cwg121_139 =>
        exact ⟨.pointer (some ⟨w9.heap.size, 0, none⟩), w9.alloc (.cells zQ 43), (by clear hS; go_simp), ⟨_, rfl⟩, WQB.made4 hDn (post_no (post := [8]) hSh hDn (by kernel_rfl) 8 (by simp)) (post_no (post := [9]) hSh hDn (by kernel_rfl) 9 (by simp)) rfl (WQKB.m4) hS⟩
       try simp only [Act.put, sA, sZ, sS]
       obtain ⟨g8a, rfl⟩ := hVv6a
       refine Ps.some2 (i := 5) (j := 7) (by kernel_rfl) ?bwg121_140_5 ?bwg121_140_7
       case bwg121_140_5 =>
        refine Turns.mk (i := 5) (d := some 27) rfl rfl (TurnS.call (V := fun v => ∃ V : Array Value, v = .agg V) ?fwg121_141 ?awg121_141 [1] (by kernel_rfl) (by rfl) (fun w9 => ?hwg121_141) (fun L9 m9 w9 hSh hAt hDn hS => ?cwg121_141)) (fun v6a hVv6a => ?rwg121_141)
        case hwg121_141 => go_simp; refine ⟨?_, ?_⟩ <;> rfl
        case cwg121_141 =>
         obtain ⟨al, bl, hB, hset⟩ := WQB.on3 (hAt 1 (by simp)).1 hDn (post_no (post := [8]) hSh hDn (by kernel_rfl) 8 (by simp)) (post_no (post := [9]) hSh hDn (by kernel_rfl) 9 (by simp)) hS
         have hT := hB.1
         refine (fewq_any AllB y B2 m2 mc2 K2 k2 kc2 w9 (HRY.out.below hT) HAY.out).mono ?_
         rintro e w6 ⟨V, rfl, hr6, q6⟩
         exact ⟨_, rfl, ⟨V, rfl⟩, hset _ _ (WQKB.c3 hB q6 hr6)⟩
        try simp only [Act.put, sA, sZ, sS]
        obtain ⟨V6a, rfl⟩ := hVv6a
        refine Ps.one (k := 7) (d := some 6) rfl rfl (by kernel_rfl) (TurnS.value (V := fun v => ∃ g, v = .pointer (some ⟨g, 0, none⟩)) [] (by kernel_rfl) (by rfl) (fun L9 m9 w9 hSh hAt hDn hS => ?cwg121_142)) (fun v7a hVv7a => ?rwg121_142)
        case cwg121_142 =>
         exact ⟨.pointer (some ⟨w9.heap.size, 0, none⟩), w9.alloc (.cells zQ 43), (by clear hS; go_simp), ⟨_, rfl⟩, WQB.made5 hDn (post_no (post := [8]) hSh hDn (by kernel_rfl) 8 (by simp)) (post_no (post := [9]) hSh hDn (by kernel_rfl) 9 (by simp)) rfl (WQKB.m5) hS⟩
        try simp only [Act.put, sA, sZ, sS]
        obtain ⟨h8a, rfl⟩ := hVv7a
        refine Pz 8 none undef rfl rfl ?ywg121_143 ?rwg121_143
        case ywg121_143 =>
         refine StepS.store [1, 5, 6, 7] (by kernel_rfl) (by rfl) (fun L9 m9 w9 hSh hAt hDn hS => ?_)
         obtain ⟨g, k, hm, hk, hB, hset⟩ := WQB.on6 (hAt 1 (by simp)).1 (hAt 5 (by simp)).1 (hAt 6 (by simp)).1 (hAt 7 (by simp)).1 hDn (post_no (post := [9]) hSh hDn (by kernel_rfl) 9 (by simp)) hS
         obtain rfl : g8a = g := by have h9 : Value.pointer (some ⟨g8a, 0, none⟩) = .pointer (some ⟨g, 0, none⟩) := (hAt 6 (by simp)).2.symm.trans hm; simpa using h9
         obtain rfl : h8a = k := by have h9 : Value.pointer (some ⟨h8a, 0, none⟩) = .pointer (some ⟨k, 0, none⟩) := (hAt 7 (by simp)).2.symm.trans hk; simpa using h9
         obtain ⟨_, ⟨hA, hb2⟩, _⟩ := id hB
         have hBk := (hA g8a rfl).2.2
         obtain ⟨hz3, hz1⟩ := WQKB.sz6 hB (hAt 1 (by simp)).2
         refine (exec_store_blk (w := w9) 43 (.tmp 5) (.tmp 23) (by rfl) g8a 43 zQ V5a (by rfl) (by rfl) hBk (by rw [hz3]; rfl) (by rw [hz3]; exact qIB) hz1).imp fun w7 hx => ⟨hx.1, hset _ (WQKB.st6 hB (hAt 1 (by simp)).2 hx.2.1 hx.2.2)⟩
        try simp only [Act.put]
        refine Pz 9 none undef rfl rfl ?ywg121_144 ?rwg121_144
        case ywg121_144 =>
         refine StepS.store [1, 5, 6, 7, 8] (by kernel_rfl) (by rfl) (fun L9 m9 w9 hSh hAt hDn hS => ?_)
         obtain ⟨g, k, hm, hk, hB, hset⟩ := WQB.on7 (hAt 1 (by simp)).1 (hAt 5 (by simp)).1 (hAt 6 (by simp)).1 (hAt 7 (by simp)).1 (hAt 8 (by simp)).1 hDn  hS
         obtain rfl : g8a = g := by have h9 : Value.pointer (some ⟨g8a, 0, none⟩) = .pointer (some ⟨g, 0, none⟩) := (hAt 6 (by simp)).2.symm.trans hm; simpa using h9
         obtain rfl : h8a = k := by have h9 : Value.pointer (some ⟨h8a, 0, none⟩) = .pointer (some ⟨k, 0, none⟩) := (hAt 7 (by simp)).2.symm.trans hk; simpa using h9
         obtain ⟨_, A1, hA, hb2, _⟩ := id hB
         have hBk := (hb2 h8a rfl).2
         obtain ⟨hz3, hz1⟩ := WQKB.sz7 hB (hAt 5 (by simp)).2
         refine (exec_store_blk (w := w9) 43 (.tmp 6) (.tmp 27) (by rfl) h8a 43 zQ V6a (by rfl) (by rfl) hBk (by rw [hz3]; rfl) (by rw [hz3]; exact qIB) hz1).imp fun w7 hx => ⟨hx.1, hset _ (WQKB.st7 hB (hAt 5 (by simp)).2 hx.2.1 hx.2.2)⟩
        try simp only [Act.put]
        refine Ps.done (by kernel_rfl) (fun wg121 hS => ?_) _
        obtain ⟨g, k, hm, hk, hB⟩ := WQB.fin (by rfl) (by rfl) (by rfl) hS
        clear hS
        obtain rfl : g8a = g := by have h9 : Value.pointer (some ⟨g8a, 0, none⟩) = .pointer (some ⟨g, 0, none⟩) := hm; simpa using h9
        obtain rfl : h8a = k := by have h9 : Value.pointer (some ⟨h8a, 0, none⟩) = .pointer (some ⟨k, 0, none⟩) := hk; simpa using h9
        have hB := WQKB.pair (V := V5a) (V' := V6a) hB rfl rfl
        refine ⟨g8a, h8a, V5a, V6a, ⟨.agg #[.slice B m mc, .slice K k kc, .int .i64 x.lim], .agg V5a, .slice (some ad) n c, .pointer (some ad), .agg #[.slice B2 m2 mc2, .slice K2 k2 kc2, .int .i64 y.lim], .agg V6a, ?_⟩, hB⟩
        clear hB hm hk
        rfl
       case bwg121_140_7 =>
        refine Turns.mk (i := 7) (d := some 6) rfl rfl (TurnS.value (V := fun v => ∃ g, v = .pointer (some ⟨g, 0, none⟩)) [] (by kernel_rfl) (by rfl) (fun L9 m9 w9 hSh hAt hDn hS => ?cwg121_145)) (fun v7a hVv7a => ?rwg121_145)
        case cwg121_145 =>
         exact ⟨.pointer (some ⟨w9.heap.size, 0, none⟩), w9.alloc (.cells zQ 43), (by clear hS; go_simp), ⟨_, rfl⟩, WQB.made5 hDn (post_no (post := [8]) hSh hDn (by kernel_rfl) 8 (by simp)) (post_no (post := [9]) hSh hDn (by kernel_rfl) 9 (by simp)) rfl (WQKB.m5) hS⟩
        try simp only [Act.put, sA, sZ, sS]
        obtain ⟨h8a, rfl⟩ := hVv7a
        refine Ps.one (k := 5) (d := some 27) rfl rfl (by kernel_rfl) (TurnS.call (V := fun v => ∃ V : Array Value, v = .agg V) ?fwg121_146 ?awg121_146 [1] (by kernel_rfl) (by rfl) (fun w9 => ?hwg121_146) (fun L9 m9 w9 hSh hAt hDn hS => ?cwg121_146)) (fun v6a hVv6a => ?rwg121_146)
        case hwg121_146 => go_simp; refine ⟨?_, ?_⟩ <;> rfl
        case cwg121_146 =>
         obtain ⟨al, bl, hB, hset⟩ := WQB.on3 (hAt 1 (by simp)).1 hDn (post_no (post := [8]) hSh hDn (by kernel_rfl) 8 (by simp)) (post_no (post := [9]) hSh hDn (by kernel_rfl) 9 (by simp)) hS
         have hT := hB.1
         refine (fewq_any AllB y B2 m2 mc2 K2 k2 kc2 w9 (HRY.out.below hT) HAY.out).mono ?_
         rintro e w6 ⟨V, rfl, hr6, q6⟩
         exact ⟨_, rfl, ⟨V, rfl⟩, hset _ _ (WQKB.c3 hB q6 hr6)⟩
        try simp only [Act.put, sA, sZ, sS]
        obtain ⟨V6a, rfl⟩ := hVv6a
        refine Pz 8 none undef rfl rfl ?ywg121_147 ?rwg121_147
        case ywg121_147 =>
         refine StepS.store [1, 5, 6, 7] (by kernel_rfl) (by rfl) (fun L9 m9 w9 hSh hAt hDn hS => ?_)
         obtain ⟨g, k, hm, hk, hB, hset⟩ := WQB.on6 (hAt 1 (by simp)).1 (hAt 5 (by simp)).1 (hAt 6 (by simp)).1 (hAt 7 (by simp)).1 hDn (post_no (post := [9]) hSh hDn (by kernel_rfl) 9 (by simp)) hS
         obtain rfl : g8a = g := by have h9 : Value.pointer (some ⟨g8a, 0, none⟩) = .pointer (some ⟨g, 0, none⟩) := (hAt 6 (by simp)).2.symm.trans hm; simpa using h9
         obtain rfl : h8a = k := by have h9 : Value.pointer (some ⟨h8a, 0, none⟩) = .pointer (some ⟨k, 0, none⟩) := (hAt 7 (by simp)).2.symm.trans hk; simpa using h9
         obtain ⟨_, ⟨hA, hb2⟩, _⟩ := id hB
         have hBk := (hA g8a rfl).2.2
         obtain ⟨hz3, hz1⟩ := WQKB.sz6 hB (hAt 1 (by simp)).2
         refine (exec_store_blk (w := w9) 43 (.tmp 5) (.tmp 23) (by rfl) g8a 43 zQ V5a (by rfl) (by rfl) hBk (by rw [hz3]; rfl) (by rw [hz3]; exact qIB) hz1).imp fun w7 hx => ⟨hx.1, hset _ (WQKB.st6 hB (hAt 1 (by simp)).2 hx.2.1 hx.2.2)⟩
        try simp only [Act.put]
        refine Pz 9 none undef rfl rfl ?ywg121_148 ?rwg121_148
        case ywg121_148 =>
         refine StepS.store [1, 5, 6, 7, 8] (by kernel_rfl) (by rfl) (fun L9 m9 w9 hSh hAt hDn hS => ?_)
         obtain ⟨g, k, hm, hk, hB, hset⟩ := WQB.on7 (hAt 1 (by simp)).1 (hAt 5 (by simp)).1 (hAt 6 (by simp)).1 (hAt 7 (by simp)).1 (hAt 8 (by simp)).1 hDn  hS
         obtain rfl : g8a = g := by have h9 : Value.pointer (some ⟨g8a, 0, none⟩) = .pointer (some ⟨g, 0, none⟩) := (hAt 6 (by simp)).2.symm.trans hm; simpa using h9
         obtain rfl : h8a = k := by have h9 : Value.pointer (some ⟨h8a, 0, none⟩) = .pointer (some ⟨k, 0, none⟩) := (hAt 7 (by simp)).2.symm.trans hk; simpa using h9
         obtain ⟨_, A1, hA, hb2, _⟩ := id hB
         have hBk := (hb2 h8a rfl).2
         obtain ⟨hz3, hz1⟩ := WQKB.sz7 hB (hAt 5 (by simp)).2
         refine (exec_store_blk (w := w9) 43 (.tmp 6) (.tmp 27) (by rfl) h8a 43 zQ V6a (by rfl) (by rfl) hBk (by rw [hz3]; rfl) (by rw [hz3]; exact qIB) hz1).imp fun w7 hx => ⟨hx.1, hset _ (WQKB.st7 hB (hAt 5 (by simp)).2 hx.2.1 hx.2.2)⟩
        try simp only [Act.put]
        refine Ps.done (by kernel_rfl) (fun wg121 hS => ?_) _
        obtain ⟨g, k, hm, hk, hB⟩ := WQB.fin (by rfl) (by rfl) (by rfl) hS
        clear hS
        obtain rfl : g8a = g := by have h9 : Value.pointer (some ⟨g8a, 0, none⟩) = .pointer (some ⟨g, 0, none⟩) := hm; simpa using h9
        obtain rfl : h8a = k := by have h9 : Value.pointer (some ⟨h8a, 0, none⟩) = .pointer (some ⟨k, 0, none⟩) := hk; simpa using h9
        have hB := WQKB.pair (V := V5a) (V' := V6a) hB rfl rfl
        refine ⟨g8a, h8a, V5a, V6a, ⟨.agg #[.slice B m mc, .slice K k kc, .int .i64 x.lim], .agg V5a, .slice (some ad) n c, .pointer (some ad), .agg #[.slice B2 m2 mc2, .slice K2 k2 kc2, .int .i64 y.lim], .agg V6a, ?_⟩, hB⟩
        clear hB hm hk
        rfl
      case bwg121_128_7 =>
       refine Turns.mk (i := 7) (d := some 6) rfl rfl (TurnS.value (V := fun v => ∃ g, v = .pointer (some ⟨g, 0, none⟩)) [] (by kernel_rfl) (by rfl) (fun L9 m9 w9 hSh hAt hDn hS => ?cwg121_149)) (fun v7a hVv7a => ?rwg121_149)
       case cwg121_149 =>
        exact ⟨.pointer (some ⟨w9.heap.size, 0, none⟩), w9.alloc (.cells zQ 43), (by clear hS; go_simp), ⟨_, rfl⟩, WQB.made5 hDn (post_no (post := [8]) hSh hDn (by kernel_rfl) 8 (by simp)) (post_no (post := [9]) hSh hDn (by kernel_rfl) 9 (by simp)) rfl (WQKB.m5) hS⟩
       try simp only [Act.put, sA, sZ, sS]
       obtain ⟨h8a, rfl⟩ := hVv7a
       refine Ps.some2 (i := 5) (j := 6) (by kernel_rfl) ?bwg121_150_5 ?bwg121_150_6
       case bwg121_150_5 =>
        refine Turns.mk (i := 5) (d := some 27) rfl rfl (TurnS.call (V := fun v => ∃ V : Array Value, v = .agg V) ?fwg121_151 ?awg121_151 [1] (by kernel_rfl) (by rfl) (fun w9 => ?hwg121_151) (fun L9 m9 w9 hSh hAt hDn hS => ?cwg121_151)) (fun v6a hVv6a => ?rwg121_151)
        case hwg121_151 => go_simp; refine ⟨?_, ?_⟩ <;> rfl
        case cwg121_151 =>
         obtain ⟨al, bl, hB, hset⟩ := WQB.on3 (hAt 1 (by simp)).1 hDn (post_no (post := [8]) hSh hDn (by kernel_rfl) 8 (by simp)) (post_no (post := [9]) hSh hDn (by kernel_rfl) 9 (by simp)) hS
         have hT := hB.1
         refine (fewq_any AllB y B2 m2 mc2 K2 k2 kc2 w9 (HRY.out.below hT) HAY.out).mono ?_
         rintro e w6 ⟨V, rfl, hr6, q6⟩
         exact ⟨_, rfl, ⟨V, rfl⟩, hset _ _ (WQKB.c3 hB q6 hr6)⟩
        try simp only [Act.put, sA, sZ, sS]
        obtain ⟨V6a, rfl⟩ := hVv6a
        refine Ps.one (k := 6) (d := some 5) rfl rfl (by kernel_rfl) (TurnS.value (V := fun v => ∃ g, v = .pointer (some ⟨g, 0, none⟩)) [] (by kernel_rfl) (by rfl) (fun L9 m9 w9 hSh hAt hDn hS => ?cwg121_152)) (fun v6a hVv6a => ?rwg121_152)
        case cwg121_152 =>
         exact ⟨.pointer (some ⟨w9.heap.size, 0, none⟩), w9.alloc (.cells zQ 43), (by clear hS; go_simp), ⟨_, rfl⟩, WQB.made4 hDn (post_no (post := [8]) hSh hDn (by kernel_rfl) 8 (by simp)) (post_no (post := [9]) hSh hDn (by kernel_rfl) 9 (by simp)) rfl (WQKB.m4) hS⟩
        try simp only [Act.put, sA, sZ, sS]
        obtain ⟨g8a, rfl⟩ := hVv6a
        refine Pz 8 none undef rfl rfl ?ywg121_153 ?rwg121_153
        case ywg121_153 =>
         refine StepS.store [1, 5, 6, 7] (by kernel_rfl) (by rfl) (fun L9 m9 w9 hSh hAt hDn hS => ?_)
         obtain ⟨g, k, hm, hk, hB, hset⟩ := WQB.on6 (hAt 1 (by simp)).1 (hAt 5 (by simp)).1 (hAt 6 (by simp)).1 (hAt 7 (by simp)).1 hDn (post_no (post := [9]) hSh hDn (by kernel_rfl) 9 (by simp)) hS
         obtain rfl : g8a = g := by have h9 : Value.pointer (some ⟨g8a, 0, none⟩) = .pointer (some ⟨g, 0, none⟩) := (hAt 6 (by simp)).2.symm.trans hm; simpa using h9
         obtain rfl : h8a = k := by have h9 : Value.pointer (some ⟨h8a, 0, none⟩) = .pointer (some ⟨k, 0, none⟩) := (hAt 7 (by simp)).2.symm.trans hk; simpa using h9
         obtain ⟨_, ⟨hA, hb2⟩, _⟩ := id hB
         have hBk := (hA g8a rfl).2.2
         obtain ⟨hz3, hz1⟩ := WQKB.sz6 hB (hAt 1 (by simp)).2
         refine (exec_store_blk (w := w9) 43 (.tmp 5) (.tmp 23) (by rfl) g8a 43 zQ V5a (by rfl) (by rfl) hBk (by rw [hz3]; rfl) (by rw [hz3]; exact qIB) hz1).imp fun w7 hx => ⟨hx.1, hset _ (WQKB.st6 hB (hAt 1 (by simp)).2 hx.2.1 hx.2.2)⟩
        try simp only [Act.put]
        refine Pz 9 none undef rfl rfl ?ywg121_154 ?rwg121_154
        case ywg121_154 =>
         refine StepS.store [1, 5, 6, 7, 8] (by kernel_rfl) (by rfl) (fun L9 m9 w9 hSh hAt hDn hS => ?_)
         obtain ⟨g, k, hm, hk, hB, hset⟩ := WQB.on7 (hAt 1 (by simp)).1 (hAt 5 (by simp)).1 (hAt 6 (by simp)).1 (hAt 7 (by simp)).1 (hAt 8 (by simp)).1 hDn  hS
         obtain rfl : g8a = g := by have h9 : Value.pointer (some ⟨g8a, 0, none⟩) = .pointer (some ⟨g, 0, none⟩) := (hAt 6 (by simp)).2.symm.trans hm; simpa using h9
         obtain rfl : h8a = k := by have h9 : Value.pointer (some ⟨h8a, 0, none⟩) = .pointer (some ⟨k, 0, none⟩) := (hAt 7 (by simp)).2.symm.trans hk; simpa using h9
         obtain ⟨_, A1, hA, hb2, _⟩ := id hB
         have hBk := (hb2 h8a rfl).2
         obtain ⟨hz3, hz1⟩ := WQKB.sz7 hB (hAt 5 (by simp)).2
         refine (exec_store_blk (w := w9) 43 (.tmp 6) (.tmp 27) (by rfl) h8a 43 zQ V6a (by rfl) (by rfl) hBk (by rw [hz3]; rfl) (by rw [hz3]; exact qIB) hz1).imp fun w7 hx => ⟨hx.1, hset _ (WQKB.st7 hB (hAt 5 (by simp)).2 hx.2.1 hx.2.2)⟩
        try simp only [Act.put]
        refine Ps.done (by kernel_rfl) (fun wg121 hS => ?_) _
        obtain ⟨g, k, hm, hk, hB⟩ := WQB.fin (by rfl) (by rfl) (by rfl) hS
        clear hS
        obtain rfl : g8a = g := by have h9 : Value.pointer (some ⟨g8a, 0, none⟩) = .pointer (some ⟨g, 0, none⟩) := hm; simpa using h9
        obtain rfl : h8a = k := by have h9 : Value.pointer (some ⟨h8a, 0, none⟩) = .pointer (some ⟨k, 0, none⟩) := hk; simpa using h9
        have hB := WQKB.pair (V := V5a) (V' := V6a) hB rfl rfl
        refine ⟨g8a, h8a, V5a, V6a, ⟨.agg #[.slice B m mc, .slice K k kc, .int .i64 x.lim], .agg V5a, .slice (some ad) n c, .pointer (some ad), .agg #[.slice B2 m2 mc2, .slice K2 k2 kc2, .int .i64 y.lim], .agg V6a, ?_⟩, hB⟩
        clear hB hm hk
        rfl
       case bwg121_150_6 =>
        refine Turns.mk (i := 6) (d := some 5) rfl rfl (TurnS.value (V := fun v => ∃ g, v = .pointer (some ⟨g, 0, none⟩)) [] (by kernel_rfl) (by rfl) (fun L9 m9 w9 hSh hAt hDn hS => ?cwg121_155)) (fun v6a hVv6a => ?rwg121_155)
        case cwg121_155 =>
         exact ⟨.pointer (some ⟨w9.heap.size, 0, none⟩), w9.alloc (.cells zQ 43), (by clear hS; go_simp), ⟨_, rfl⟩, WQB.made4 hDn (post_no (post := [8]) hSh hDn (by kernel_rfl) 8 (by simp)) (post_no (post := [9]) hSh hDn (by kernel_rfl) 9 (by simp)) rfl (WQKB.m4) hS⟩
        try simp only [Act.put, sA, sZ, sS]
        obtain ⟨g8a, rfl⟩ := hVv6a
        refine Ps.one (k := 5) (d := some 27) rfl rfl (by kernel_rfl) (TurnS.call (V := fun v => ∃ V : Array Value, v = .agg V) ?fwg121_156 ?awg121_156 [1] (by kernel_rfl) (by rfl) (fun w9 => ?hwg121_156) (fun L9 m9 w9 hSh hAt hDn hS => ?cwg121_156)) (fun v6a hVv6a => ?rwg121_156)
        case hwg121_156 => go_simp; refine ⟨?_, ?_⟩ <;> rfl
        case cwg121_156 =>
         obtain ⟨al, bl, hB, hset⟩ := WQB.on3 (hAt 1 (by simp)).1 hDn (post_no (post := [8]) hSh hDn (by kernel_rfl) 8 (by simp)) (post_no (post := [9]) hSh hDn (by kernel_rfl) 9 (by simp)) hS
         have hT := hB.1
         refine (fewq_any AllB y B2 m2 mc2 K2 k2 kc2 w9 (HRY.out.below hT) HAY.out).mono ?_
         rintro e w6 ⟨V, rfl, hr6, q6⟩
         exact ⟨_, rfl, ⟨V, rfl⟩, hset _ _ (WQKB.c3 hB q6 hr6)⟩
        try simp only [Act.put, sA, sZ, sS]
        obtain ⟨V6a, rfl⟩ := hVv6a
        refine Pz 8 none undef rfl rfl ?ywg121_157 ?rwg121_157
        case ywg121_157 =>
         refine StepS.store [1, 5, 6, 7] (by kernel_rfl) (by rfl) (fun L9 m9 w9 hSh hAt hDn hS => ?_)
         obtain ⟨g, k, hm, hk, hB, hset⟩ := WQB.on6 (hAt 1 (by simp)).1 (hAt 5 (by simp)).1 (hAt 6 (by simp)).1 (hAt 7 (by simp)).1 hDn (post_no (post := [9]) hSh hDn (by kernel_rfl) 9 (by simp)) hS
         obtain rfl : g8a = g := by have h9 : Value.pointer (some ⟨g8a, 0, none⟩) = .pointer (some ⟨g, 0, none⟩) := (hAt 6 (by simp)).2.symm.trans hm; simpa using h9
         obtain rfl : h8a = k := by have h9 : Value.pointer (some ⟨h8a, 0, none⟩) = .pointer (some ⟨k, 0, none⟩) := (hAt 7 (by simp)).2.symm.trans hk; simpa using h9
         obtain ⟨_, ⟨hA, hb2⟩, _⟩ := id hB
         have hBk := (hA g8a rfl).2.2
         obtain ⟨hz3, hz1⟩ := WQKB.sz6 hB (hAt 1 (by simp)).2
         refine (exec_store_blk (w := w9) 43 (.tmp 5) (.tmp 23) (by rfl) g8a 43 zQ V5a (by rfl) (by rfl) hBk (by rw [hz3]; rfl) (by rw [hz3]; exact qIB) hz1).imp fun w7 hx => ⟨hx.1, hset _ (WQKB.st6 hB (hAt 1 (by simp)).2 hx.2.1 hx.2.2)⟩
        try simp only [Act.put]
        refine Pz 9 none undef rfl rfl ?ywg121_158 ?rwg121_158
        case ywg121_158 =>
         refine StepS.store [1, 5, 6, 7, 8] (by kernel_rfl) (by rfl) (fun L9 m9 w9 hSh hAt hDn hS => ?_)
         obtain ⟨g, k, hm, hk, hB, hset⟩ := WQB.on7 (hAt 1 (by simp)).1 (hAt 5 (by simp)).1 (hAt 6 (by simp)).1 (hAt 7 (by simp)).1 (hAt 8 (by simp)).1 hDn  hS
         obtain rfl : g8a = g := by have h9 : Value.pointer (some ⟨g8a, 0, none⟩) = .pointer (some ⟨g, 0, none⟩) := (hAt 6 (by simp)).2.symm.trans hm; simpa using h9
         obtain rfl : h8a = k := by have h9 : Value.pointer (some ⟨h8a, 0, none⟩) = .pointer (some ⟨k, 0, none⟩) := (hAt 7 (by simp)).2.symm.trans hk; simpa using h9
         obtain ⟨_, A1, hA, hb2, _⟩ := id hB
         have hBk := (hb2 h8a rfl).2
         obtain ⟨hz3, hz1⟩ := WQKB.sz7 hB (hAt 5 (by simp)).2
         refine (exec_store_blk (w := w9) 43 (.tmp 6) (.tmp 27) (by rfl) h8a 43 zQ V6a (by rfl) (by rfl) hBk (by rw [hz3]; rfl) (by rw [hz3]; exact qIB) hz1).imp fun w7 hx => ⟨hx.1, hset _ (WQKB.st7 hB (hAt 5 (by simp)).2 hx.2.1 hx.2.2)⟩
        try simp only [Act.put]
        refine Ps.done (by kernel_rfl) (fun wg121 hS => ?_) _
        obtain ⟨g, k, hm, hk, hB⟩ := WQB.fin (by rfl) (by rfl) (by rfl) hS
        clear hS
        obtain rfl : g8a = g := by have h9 : Value.pointer (some ⟨g8a, 0, none⟩) = .pointer (some ⟨g, 0, none⟩) := hm; simpa using h9
        obtain rfl : h8a = k := by have h9 : Value.pointer (some ⟨h8a, 0, none⟩) = .pointer (some ⟨k, 0, none⟩) := hk; simpa using h9
        have hB := WQKB.pair (V := V5a) (V' := V6a) hB rfl rfl
        refine ⟨g8a, h8a, V5a, V6a, ⟨.agg #[.slice B m mc, .slice K k kc, .int .i64 x.lim], .agg V5a, .slice (some ad) n c, .pointer (some ad), .agg #[.slice B2 m2 mc2, .slice K2 k2 kc2, .int .i64 y.lim], .agg V6a, ?_⟩, hB⟩
        clear hB hm hk
        rfl
     case bwg121_126_6 =>
      refine Turns.mk (i := 6) (d := some 5) rfl rfl (TurnS.value (V := fun v => ∃ g, v = .pointer (some ⟨g, 0, none⟩)) [] (by kernel_rfl) (by rfl) (fun L9 m9 w9 hSh hAt hDn hS => ?cwg121_159)) (fun v6a hVv6a => ?rwg121_159)
      case cwg121_159 =>
       exact ⟨.pointer (some ⟨w9.heap.size, 0, none⟩), w9.alloc (.cells zQ 43), (by clear hS; go_simp), ⟨_, rfl⟩, WQB.made4 hDn (post_no (post := [8]) hSh hDn (by kernel_rfl) 8 (by simp)) (post_no (post := [9]) hSh hDn (by kernel_rfl) 9 (by simp)) rfl (WQKB.m4) hS⟩
      try simp only [Act.put, sA, sZ, sS]
      obtain ⟨g8a, rfl⟩ := hVv6a
      refine Ps.some2 (i := 1) (j := 7) (by kernel_rfl) ?bwg121_160_1 ?bwg121_160_7
      case bwg121_160_1 =>
       refine Turns.mk (i := 1) (d := some 23) rfl rfl (TurnS.call (V := fun v => ∃ V : Array Value, v = .agg V) ?fwg121_161 ?awg121_161 [] (by kernel_rfl) (by rfl) (fun w9 => ?hwg121_161) (fun L9 m9 w9 hSh hAt hDn hS => ?cwg121_161)) (fun v5a hVv5a => ?rwg121_161)
       case hwg121_161 => go_simp; refine ⟨?_, ?_⟩ <;> rfl
       case cwg121_161 =>
        obtain ⟨al, bl, hB, hset⟩ := WQB.on1 hDn (post_no (post := [5]) hSh hDn (by kernel_rfl) 5 (by simp)) (post_no (post := [8]) hSh hDn (by kernel_rfl) 8 (by simp)) (post_no (post := [9]) hSh hDn (by kernel_rfl) 9 (by simp)) hS
        have hT := hB.1
        refine (fewq_any AllB x B m mc K k kc w9 (HRX.out.below hT) HAX.out).mono ?_
        rintro e w6 ⟨V, rfl, hr6, q6⟩
        exact ⟨_, rfl, ⟨V, rfl⟩, hset _ _ (WQKB.c1 hB q6 hr6)⟩
       try simp only [Act.put, sA, sZ, sS]
       obtain ⟨V5a, rfl⟩ := hVv5a
       refine Ps.some2 (i := 5) (j := 7) (by kernel_rfl) ?bwg121_162_5 ?bwg121_162_7
       case bwg121_162_5 =>
        refine Turns.mk (i := 5) (d := some 27) rfl rfl (TurnS.call (V := fun v => ∃ V : Array Value, v = .agg V) ?fwg121_163 ?awg121_163 [1] (by kernel_rfl) (by rfl) (fun w9 => ?hwg121_163) (fun L9 m9 w9 hSh hAt hDn hS => ?cwg121_163)) (fun v6a hVv6a => ?rwg121_163)
        case hwg121_163 => go_simp; refine ⟨?_, ?_⟩ <;> rfl
        case cwg121_163 =>
         obtain ⟨al, bl, hB, hset⟩ := WQB.on3 (hAt 1 (by simp)).1 hDn (post_no (post := [8]) hSh hDn (by kernel_rfl) 8 (by simp)) (post_no (post := [9]) hSh hDn (by kernel_rfl) 9 (by simp)) hS
         have hT := hB.1
         refine (fewq_any AllB y B2 m2 mc2 K2 k2 kc2 w9 (HRY.out.below hT) HAY.out).mono ?_
         rintro e w6 ⟨V, rfl, hr6, q6⟩
         exact ⟨_, rfl, ⟨V, rfl⟩, hset _ _ (WQKB.c3 hB q6 hr6)⟩
        try simp only [Act.put, sA, sZ, sS]
        obtain ⟨V6a, rfl⟩ := hVv6a
        refine Ps.one (k := 7) (d := some 6) rfl rfl (by kernel_rfl) (TurnS.value (V := fun v => ∃ g, v = .pointer (some ⟨g, 0, none⟩)) [] (by kernel_rfl) (by rfl) (fun L9 m9 w9 hSh hAt hDn hS => ?cwg121_164)) (fun v7a hVv7a => ?rwg121_164)
        case cwg121_164 =>
         exact ⟨.pointer (some ⟨w9.heap.size, 0, none⟩), w9.alloc (.cells zQ 43), (by clear hS; go_simp), ⟨_, rfl⟩, WQB.made5 hDn (post_no (post := [8]) hSh hDn (by kernel_rfl) 8 (by simp)) (post_no (post := [9]) hSh hDn (by kernel_rfl) 9 (by simp)) rfl (WQKB.m5) hS⟩
        try simp only [Act.put, sA, sZ, sS]
        obtain ⟨h8a, rfl⟩ := hVv7a
        refine Pz 8 none undef rfl rfl ?ywg121_165 ?rwg121_165
        case ywg121_165 =>
         refine StepS.store [1, 5, 6, 7] (by kernel_rfl) (by rfl) (fun L9 m9 w9 hSh hAt hDn hS => ?_)
         obtain ⟨g, k, hm, hk, hB, hset⟩ := WQB.on6 (hAt 1 (by simp)).1 (hAt 5 (by simp)).1 (hAt 6 (by simp)).1 (hAt 7 (by simp)).1 hDn (post_no (post := [9]) hSh hDn (by kernel_rfl) 9 (by simp)) hS
         obtain rfl : g8a = g := by have h9 : Value.pointer (some ⟨g8a, 0, none⟩) = .pointer (some ⟨g, 0, none⟩) := (hAt 6 (by simp)).2.symm.trans hm; simpa using h9
         obtain rfl : h8a = k := by have h9 : Value.pointer (some ⟨h8a, 0, none⟩) = .pointer (some ⟨k, 0, none⟩) := (hAt 7 (by simp)).2.symm.trans hk; simpa using h9
         obtain ⟨_, ⟨hA, hb2⟩, _⟩ := id hB
         have hBk := (hA g8a rfl).2.2
         obtain ⟨hz3, hz1⟩ := WQKB.sz6 hB (hAt 1 (by simp)).2
         refine (exec_store_blk (w := w9) 43 (.tmp 5) (.tmp 23) (by rfl) g8a 43 zQ V5a (by rfl) (by rfl) hBk (by rw [hz3]; rfl) (by rw [hz3]; exact qIB) hz1).imp fun w7 hx => ⟨hx.1, hset _ (WQKB.st6 hB (hAt 1 (by simp)).2 hx.2.1 hx.2.2)⟩
        try simp only [Act.put]
        refine Pz 9 none undef rfl rfl ?ywg121_166 ?rwg121_166
        case ywg121_166 =>
         refine StepS.store [1, 5, 6, 7, 8] (by kernel_rfl) (by rfl) (fun L9 m9 w9 hSh hAt hDn hS => ?_)
         obtain ⟨g, k, hm, hk, hB, hset⟩ := WQB.on7 (hAt 1 (by simp)).1 (hAt 5 (by simp)).1 (hAt 6 (by simp)).1 (hAt 7 (by simp)).1 (hAt 8 (by simp)).1 hDn  hS
         obtain rfl : g8a = g := by have h9 : Value.pointer (some ⟨g8a, 0, none⟩) = .pointer (some ⟨g, 0, none⟩) := (hAt 6 (by simp)).2.symm.trans hm; simpa using h9
         obtain rfl : h8a = k := by have h9 : Value.pointer (some ⟨h8a, 0, none⟩) = .pointer (some ⟨k, 0, none⟩) := (hAt 7 (by simp)).2.symm.trans hk; simpa using h9
         obtain ⟨_, A1, hA, hb2, _⟩ := id hB
         have hBk := (hb2 h8a rfl).2
         obtain ⟨hz3, hz1⟩ := WQKB.sz7 hB (hAt 5 (by simp)).2
         refine (exec_store_blk (w := w9) 43 (.tmp 6) (.tmp 27) (by rfl) h8a 43 zQ V6a (by rfl) (by rfl) hBk (by rw [hz3]; rfl) (by rw [hz3]; exact qIB) hz1).imp fun w7 hx => ⟨hx.1, hset _ (WQKB.st7 hB (hAt 5 (by simp)).2 hx.2.1 hx.2.2)⟩
        try simp only [Act.put]
        refine Ps.done (by kernel_rfl) (fun wg121 hS => ?_) _
        obtain ⟨g, k, hm, hk, hB⟩ := WQB.fin (by rfl) (by rfl) (by rfl) hS
        clear hS
        obtain rfl : g8a = g := by have h9 : Value.pointer (some ⟨g8a, 0, none⟩) = .pointer (some ⟨g, 0, none⟩) := hm; simpa using h9
        obtain rfl : h8a = k := by have h9 : Value.pointer (some ⟨h8a, 0, none⟩) = .pointer (some ⟨k, 0, none⟩) := hk; simpa using h9
        have hB := WQKB.pair (V := V5a) (V' := V6a) hB rfl rfl
        refine ⟨g8a, h8a, V5a, V6a, ⟨.agg #[.slice B m mc, .slice K k kc, .int .i64 x.lim], .agg V5a, .slice (some ad) n c, .pointer (some ad), .agg #[.slice B2 m2 mc2, .slice K2 k2 kc2, .int .i64 y.lim], .agg V6a, ?_⟩, hB⟩
        clear hB hm hk
        rfl
       case bwg121_162_7 =>
        refine Turns.mk (i := 7) (d := some 6) rfl rfl (TurnS.value (V := fun v => ∃ g, v = .pointer (some ⟨g, 0, none⟩)) [] (by kernel_rfl) (by rfl) (fun L9 m9 w9 hSh hAt hDn hS => ?cwg121_167)) (fun v7a hVv7a => ?rwg121_167)
        case cwg121_167 =>
         exact ⟨.pointer (some ⟨w9.heap.size, 0, none⟩), w9.alloc (.cells zQ 43), (by clear hS; go_simp), ⟨_, rfl⟩, WQB.made5 hDn (post_no (post := [8]) hSh hDn (by kernel_rfl) 8 (by simp)) (post_no (post := [9]) hSh hDn (by kernel_rfl) 9 (by simp)) rfl (WQKB.m5) hS⟩
        try simp only [Act.put, sA, sZ, sS]
        obtain ⟨h8a, rfl⟩ := hVv7a
        refine Ps.one (k := 5) (d := some 27) rfl rfl (by kernel_rfl) (TurnS.call (V := fun v => ∃ V : Array Value, v = .agg V) ?fwg121_168 ?awg121_168 [1] (by kernel_rfl) (by rfl) (fun w9 => ?hwg121_168) (fun L9 m9 w9 hSh hAt hDn hS => ?cwg121_168)) (fun v6a hVv6a => ?rwg121_168)
        case hwg121_168 => go_simp; refine ⟨?_, ?_⟩ <;> rfl
        case cwg121_168 =>
         obtain ⟨al, bl, hB, hset⟩ := WQB.on3 (hAt 1 (by simp)).1 hDn (post_no (post := [8]) hSh hDn (by kernel_rfl) 8 (by simp)) (post_no (post := [9]) hSh hDn (by kernel_rfl) 9 (by simp)) hS
         have hT := hB.1
         refine (fewq_any AllB y B2 m2 mc2 K2 k2 kc2 w9 (HRY.out.below hT) HAY.out).mono ?_
         rintro e w6 ⟨V, rfl, hr6, q6⟩
         exact ⟨_, rfl, ⟨V, rfl⟩, hset _ _ (WQKB.c3 hB q6 hr6)⟩
        try simp only [Act.put, sA, sZ, sS]
        obtain ⟨V6a, rfl⟩ := hVv6a
        refine Pz 8 none undef rfl rfl ?ywg121_169 ?rwg121_169
        case ywg121_169 =>
         refine StepS.store [1, 5, 6, 7] (by kernel_rfl) (by rfl) (fun L9 m9 w9 hSh hAt hDn hS => ?_)
         obtain ⟨g, k, hm, hk, hB, hset⟩ := WQB.on6 (hAt 1 (by simp)).1 (hAt 5 (by simp)).1 (hAt 6 (by simp)).1 (hAt 7 (by simp)).1 hDn (post_no (post := [9]) hSh hDn (by kernel_rfl) 9 (by simp)) hS
         obtain rfl : g8a = g := by have h9 : Value.pointer (some ⟨g8a, 0, none⟩) = .pointer (some ⟨g, 0, none⟩) := (hAt 6 (by simp)).2.symm.trans hm; simpa using h9
         obtain rfl : h8a = k := by have h9 : Value.pointer (some ⟨h8a, 0, none⟩) = .pointer (some ⟨k, 0, none⟩) := (hAt 7 (by simp)).2.symm.trans hk; simpa using h9
         obtain ⟨_, ⟨hA, hb2⟩, _⟩ := id hB
         have hBk := (hA g8a rfl).2.2
         obtain ⟨hz3, hz1⟩ := WQKB.sz6 hB (hAt 1 (by simp)).2
         refine (exec_store_blk (w := w9) 43 (.tmp 5) (.tmp 23) (by rfl) g8a 43 zQ V5a (by rfl) (by rfl) hBk (by rw [hz3]; rfl) (by rw [hz3]; exact qIB) hz1).imp fun w7 hx => ⟨hx.1, hset _ (WQKB.st6 hB (hAt 1 (by simp)).2 hx.2.1 hx.2.2)⟩
        try simp only [Act.put]
        refine Pz 9 none undef rfl rfl ?ywg121_170 ?rwg121_170
        case ywg121_170 =>
         refine StepS.store [1, 5, 6, 7, 8] (by kernel_rfl) (by rfl) (fun L9 m9 w9 hSh hAt hDn hS => ?_)
         obtain ⟨g, k, hm, hk, hB, hset⟩ := WQB.on7 (hAt 1 (by simp)).1 (hAt 5 (by simp)).1 (hAt 6 (by simp)).1 (hAt 7 (by simp)).1 (hAt 8 (by simp)).1 hDn  hS
         obtain rfl : g8a = g := by have h9 : Value.pointer (some ⟨g8a, 0, none⟩) = .pointer (some ⟨g, 0, none⟩) := (hAt 6 (by simp)).2.symm.trans hm; simpa using h9
         obtain rfl : h8a = k := by have h9 : Value.pointer (some ⟨h8a, 0, none⟩) = .pointer (some ⟨k, 0, none⟩) := (hAt 7 (by simp)).2.symm.trans hk; simpa using h9
         obtain ⟨_, A1, hA, hb2, _⟩ := id hB
         have hBk := (hb2 h8a rfl).2
         obtain ⟨hz3, hz1⟩ := WQKB.sz7 hB (hAt 5 (by simp)).2
         refine (exec_store_blk (w := w9) 43 (.tmp 6) (.tmp 27) (by rfl) h8a 43 zQ V6a (by rfl) (by rfl) hBk (by rw [hz3]; rfl) (by rw [hz3]; exact qIB) hz1).imp fun w7 hx => ⟨hx.1, hset _ (WQKB.st7 hB (hAt 5 (by simp)).2 hx.2.1 hx.2.2)⟩
        try simp only [Act.put]
        refine Ps.done (by kernel_rfl) (fun wg121 hS => ?_) _
        obtain ⟨g, k, hm, hk, hB⟩ := WQB.fin (by rfl) (by rfl) (by rfl) hS
        clear hS
        obtain rfl : g8a = g := by have h9 : Value.pointer (some ⟨g8a, 0, none⟩) = .pointer (some ⟨g, 0, none⟩) := hm; simpa using h9
        obtain rfl : h8a = k := by have h9 : Value.pointer (some ⟨h8a, 0, none⟩) = .pointer (some ⟨k, 0, none⟩) := hk; simpa using h9
        have hB := WQKB.pair (V := V5a) (V' := V6a) hB rfl rfl
        refine ⟨g8a, h8a, V5a, V6a, ⟨.agg #[.slice B m mc, .slice K k kc, .int .i64 x.lim], .agg V5a, .slice (some ad) n c, .pointer (some ad), .agg #[.slice B2 m2 mc2, .slice K2 k2 kc2, .int .i64 y.lim], .agg V6a, ?_⟩, hB⟩
        clear hB hm hk
        rfl
      case bwg121_160_7 =>
       refine Turns.mk (i := 7) (d := some 6) rfl rfl (TurnS.value (V := fun v => ∃ g, v = .pointer (some ⟨g, 0, none⟩)) [] (by kernel_rfl) (by rfl) (fun L9 m9 w9 hSh hAt hDn hS => ?cwg121_171)) (fun v7a hVv7a => ?rwg121_171)
       case cwg121_171 =>
        exact ⟨.pointer (some ⟨w9.heap.size, 0, none⟩), w9.alloc (.cells zQ 43), (by clear hS; go_simp), ⟨_, rfl⟩, WQB.made5 hDn (post_no (post := [8]) hSh hDn (by kernel_rfl) 8 (by simp)) (post_no (post := [9]) hSh hDn (by kernel_rfl) 9 (by simp)) rfl (WQKB.m5) hS⟩
       try simp only [Act.put, sA, sZ, sS]
       obtain ⟨h8a, rfl⟩ := hVv7a
       refine Ps.one (k := 1) (d := some 23) rfl rfl (by kernel_rfl) (TurnS.call (V := fun v => ∃ V : Array Value, v = .agg V) ?fwg121_172 ?awg121_172 [] (by kernel_rfl) (by rfl) (fun w9 => ?hwg121_172) (fun L9 m9 w9 hSh hAt hDn hS => ?cwg121_172)) (fun v5a hVv5a => ?rwg121_172)
       case hwg121_172 => go_simp; refine ⟨?_, ?_⟩ <;> rfl
       case cwg121_172 =>
        obtain ⟨al, bl, hB, hset⟩ := WQB.on1 hDn (post_no (post := [5]) hSh hDn (by kernel_rfl) 5 (by simp)) (post_no (post := [8]) hSh hDn (by kernel_rfl) 8 (by simp)) (post_no (post := [9]) hSh hDn (by kernel_rfl) 9 (by simp)) hS
        have hT := hB.1
        refine (fewq_any AllB x B m mc K k kc w9 (HRX.out.below hT) HAX.out).mono ?_
        rintro e w6 ⟨V, rfl, hr6, q6⟩
        exact ⟨_, rfl, ⟨V, rfl⟩, hset _ _ (WQKB.c1 hB q6 hr6)⟩
       try simp only [Act.put, sA, sZ, sS]
       obtain ⟨V5a, rfl⟩ := hVv5a
       refine Ps.one (k := 5) (d := some 27) rfl rfl (by kernel_rfl) (TurnS.call (V := fun v => ∃ V : Array Value, v = .agg V) ?fwg121_173 ?awg121_173 [1] (by kernel_rfl) (by rfl) (fun w9 => ?hwg121_173) (fun L9 m9 w9 hSh hAt hDn hS => ?cwg121_173)) (fun v6a hVv6a => ?rwg121_173)
       case hwg121_173 => go_simp; refine ⟨?_, ?_⟩ <;> rfl
       case cwg121_173 =>
        obtain ⟨al, bl, hB, hset⟩ := WQB.on3 (hAt 1 (by simp)).1 hDn (post_no (post := [8]) hSh hDn (by kernel_rfl) 8 (by simp)) (post_no (post := [9]) hSh hDn (by kernel_rfl) 9 (by simp)) hS
        have hT := hB.1
        refine (fewq_any AllB y B2 m2 mc2 K2 k2 kc2 w9 (HRY.out.below hT) HAY.out).mono ?_
        rintro e w6 ⟨V, rfl, hr6, q6⟩
        exact ⟨_, rfl, ⟨V, rfl⟩, hset _ _ (WQKB.c3 hB q6 hr6)⟩
       try simp only [Act.put, sA, sZ, sS]
       obtain ⟨V6a, rfl⟩ := hVv6a
       refine Pz 8 none undef rfl rfl ?ywg121_174 ?rwg121_174
       case ywg121_174 =>
        refine StepS.store [1, 5, 6, 7] (by kernel_rfl) (by rfl) (fun L9 m9 w9 hSh hAt hDn hS => ?_)
        obtain ⟨g, k, hm, hk, hB, hset⟩ := WQB.on6 (hAt 1 (by simp)).1 (hAt 5 (by simp)).1 (hAt 6 (by simp)).1 (hAt 7 (by simp)).1 hDn (post_no (post := [9]) hSh hDn (by kernel_rfl) 9 (by simp)) hS
        obtain rfl : g8a = g := by have h9 : Value.pointer (some ⟨g8a, 0, none⟩) = .pointer (some ⟨g, 0, none⟩) := (hAt 6 (by simp)).2.symm.trans hm; simpa using h9
        obtain rfl : h8a = k := by have h9 : Value.pointer (some ⟨h8a, 0, none⟩) = .pointer (some ⟨k, 0, none⟩) := (hAt 7 (by simp)).2.symm.trans hk; simpa using h9
        obtain ⟨_, ⟨hA, hb2⟩, _⟩ := id hB
        have hBk := (hA g8a rfl).2.2
        obtain ⟨hz3, hz1⟩ := WQKB.sz6 hB (hAt 1 (by simp)).2
        refine (exec_store_blk (w := w9) 43 (.tmp 5) (.tmp 23) (by rfl) g8a 43 zQ V5a (by rfl) (by rfl) hBk (by rw [hz3]; rfl) (by rw [hz3]; exact qIB) hz1).imp fun w7 hx => ⟨hx.1, hset _ (WQKB.st6 hB (hAt 1 (by simp)).2 hx.2.1 hx.2.2)⟩
       try simp only [Act.put]
       refine Pz 9 none undef rfl rfl ?ywg121_175 ?rwg121_175
       case ywg121_175 =>
        refine StepS.store [1, 5, 6, 7, 8] (by kernel_rfl) (by rfl) (fun L9 m9 w9 hSh hAt hDn hS => ?_)
        obtain ⟨g, k, hm, hk, hB, hset⟩ := WQB.on7 (hAt 1 (by simp)).1 (hAt 5 (by simp)).1 (hAt 6 (by simp)).1 (hAt 7 (by simp)).1 (hAt 8 (by simp)).1 hDn  hS
        obtain rfl : g8a = g := by have h9 : Value.pointer (some ⟨g8a, 0, none⟩) = .pointer (some ⟨g, 0, none⟩) := (hAt 6 (by simp)).2.symm.trans hm; simpa using h9
        obtain rfl : h8a = k := by have h9 : Value.pointer (some ⟨h8a, 0, none⟩) = .pointer (some ⟨k, 0, none⟩) := (hAt 7 (by simp)).2.symm.trans hk; simpa using h9
        obtain ⟨_, A1, hA, hb2, _⟩ := id hB
        have hBk := (hb2 h8a rfl).2
        obtain ⟨hz3, hz1⟩ := WQKB.sz7 hB (hAt 5 (by simp)).2
        refine (exec_store_blk (w := w9) 43 (.tmp 6) (.tmp 27) (by rfl) h8a 43 zQ V6a (by rfl) (by rfl) hBk (by rw [hz3]; rfl) (by rw [hz3]; exact qIB) hz1).imp fun w7 hx => ⟨hx.1, hset _ (WQKB.st7 hB (hAt 5 (by simp)).2 hx.2.1 hx.2.2)⟩
       try simp only [Act.put]
       refine Ps.done (by kernel_rfl) (fun wg121 hS => ?_) _
       obtain ⟨g, k, hm, hk, hB⟩ := WQB.fin (by rfl) (by rfl) (by rfl) hS
       clear hS
       obtain rfl : g8a = g := by have h9 : Value.pointer (some ⟨g8a, 0, none⟩) = .pointer (some ⟨g, 0, none⟩) := hm; simpa using h9
       obtain rfl : h8a = k := by have h9 : Value.pointer (some ⟨h8a, 0, none⟩) = .pointer (some ⟨k, 0, none⟩) := hk; simpa using h9
       have hB := WQKB.pair (V := V5a) (V' := V6a) hB rfl rfl
       refine ⟨g8a, h8a, V5a, V6a, ⟨.agg #[.slice B m mc, .slice K k kc, .int .i64 x.lim], .agg V5a, .slice (some ad) n c, .pointer (some ad), .agg #[.slice B2 m2 mc2, .slice K2 k2 kc2, .int .i64 y.lim], .agg V6a, ?_⟩, hB⟩
       clear hB hm hk
       rfl
     case bwg121_126_7 =>
      refine Turns.mk (i := 7) (d := some 6) rfl rfl (TurnS.value (V := fun v => ∃ g, v = .pointer (some ⟨g, 0, none⟩)) [] (by kernel_rfl) (by rfl) (fun L9 m9 w9 hSh hAt hDn hS => ?cwg121_176)) (fun v7a hVv7a => ?rwg121_176)
      case cwg121_176 =>
       exact ⟨.pointer (some ⟨w9.heap.size, 0, none⟩), w9.alloc (.cells zQ 43), (by clear hS; go_simp), ⟨_, rfl⟩, WQB.made5 hDn (post_no (post := [8]) hSh hDn (by kernel_rfl) 8 (by simp)) (post_no (post := [9]) hSh hDn (by kernel_rfl) 9 (by simp)) rfl (WQKB.m5) hS⟩
      try simp only [Act.put, sA, sZ, sS]
      obtain ⟨h8a, rfl⟩ := hVv7a
      refine Ps.some2 (i := 1) (j := 6) (by kernel_rfl) ?bwg121_177_1 ?bwg121_177_6
      case bwg121_177_1 =>
       refine Turns.mk (i := 1) (d := some 23) rfl rfl (TurnS.call (V := fun v => ∃ V : Array Value, v = .agg V) ?fwg121_178 ?awg121_178 [] (by kernel_rfl) (by rfl) (fun w9 => ?hwg121_178) (fun L9 m9 w9 hSh hAt hDn hS => ?cwg121_178)) (fun v5a hVv5a => ?rwg121_178)
       case hwg121_178 => go_simp; refine ⟨?_, ?_⟩ <;> rfl
       case cwg121_178 =>
        obtain ⟨al, bl, hB, hset⟩ := WQB.on1 hDn (post_no (post := [5]) hSh hDn (by kernel_rfl) 5 (by simp)) (post_no (post := [8]) hSh hDn (by kernel_rfl) 8 (by simp)) (post_no (post := [9]) hSh hDn (by kernel_rfl) 9 (by simp)) hS
        have hT := hB.1
        refine (fewq_any AllB x B m mc K k kc w9 (HRX.out.below hT) HAX.out).mono ?_
        rintro e w6 ⟨V, rfl, hr6, q6⟩
        exact ⟨_, rfl, ⟨V, rfl⟩, hset _ _ (WQKB.c1 hB q6 hr6)⟩
       try simp only [Act.put, sA, sZ, sS]
       obtain ⟨V5a, rfl⟩ := hVv5a
       refine Ps.some2 (i := 5) (j := 6) (by kernel_rfl) ?bwg121_179_5 ?bwg121_179_6
       case bwg121_179_5 =>
        refine Turns.mk (i := 5) (d := some 27) rfl rfl (TurnS.call (V := fun v => ∃ V : Array Value, v = .agg V) ?fwg121_180 ?awg121_180 [1] (by kernel_rfl) (by rfl) (fun w9 => ?hwg121_180) (fun L9 m9 w9 hSh hAt hDn hS => ?cwg121_180)) (fun v6a hVv6a => ?rwg121_180)
        case hwg121_180 => go_simp; refine ⟨?_, ?_⟩ <;> rfl
        case cwg121_180 =>
         obtain ⟨al, bl, hB, hset⟩ := WQB.on3 (hAt 1 (by simp)).1 hDn (post_no (post := [8]) hSh hDn (by kernel_rfl) 8 (by simp)) (post_no (post := [9]) hSh hDn (by kernel_rfl) 9 (by simp)) hS
         have hT := hB.1
         refine (fewq_any AllB y B2 m2 mc2 K2 k2 kc2 w9 (HRY.out.below hT) HAY.out).mono ?_
         rintro e w6 ⟨V, rfl, hr6, q6⟩
         exact ⟨_, rfl, ⟨V, rfl⟩, hset _ _ (WQKB.c3 hB q6 hr6)⟩
        try simp only [Act.put, sA, sZ, sS]
        obtain ⟨V6a, rfl⟩ := hVv6a
        refine Ps.one (k := 6) (d := some 5) rfl rfl (by kernel_rfl) (TurnS.value (V := fun v => ∃ g, v = .pointer (some ⟨g, 0, none⟩)) [] (by kernel_rfl) (by rfl) (fun L9 m9 w9 hSh hAt hDn hS => ?cwg121_181)) (fun v6a hVv6a => ?rwg121_181)
        case cwg121_181 =>
         exact ⟨.pointer (some ⟨w9.heap.size, 0, none⟩), w9.alloc (.cells zQ 43), (by clear hS; go_simp), ⟨_, rfl⟩, WQB.made4 hDn (post_no (post := [8]) hSh hDn (by kernel_rfl) 8 (by simp)) (post_no (post := [9]) hSh hDn (by kernel_rfl) 9 (by simp)) rfl (WQKB.m4) hS⟩
        try simp only [Act.put, sA, sZ, sS]
        obtain ⟨g8a, rfl⟩ := hVv6a
        refine Pz 8 none undef rfl rfl ?ywg121_182 ?rwg121_182
        case ywg121_182 =>
         refine StepS.store [1, 5, 6, 7] (by kernel_rfl) (by rfl) (fun L9 m9 w9 hSh hAt hDn hS => ?_)
         obtain ⟨g, k, hm, hk, hB, hset⟩ := WQB.on6 (hAt 1 (by simp)).1 (hAt 5 (by simp)).1 (hAt 6 (by simp)).1 (hAt 7 (by simp)).1 hDn (post_no (post := [9]) hSh hDn (by kernel_rfl) 9 (by simp)) hS
         obtain rfl : g8a = g := by have h9 : Value.pointer (some ⟨g8a, 0, none⟩) = .pointer (some ⟨g, 0, none⟩) := (hAt 6 (by simp)).2.symm.trans hm; simpa using h9
         obtain rfl : h8a = k := by have h9 : Value.pointer (some ⟨h8a, 0, none⟩) = .pointer (some ⟨k, 0, none⟩) := (hAt 7 (by simp)).2.symm.trans hk; simpa using h9
         obtain ⟨_, ⟨hA, hb2⟩, _⟩ := id hB
         have hBk := (hA g8a rfl).2.2
         obtain ⟨hz3, hz1⟩ := WQKB.sz6 hB (hAt 1 (by simp)).2
         refine (exec_store_blk (w := w9) 43 (.tmp 5) (.tmp 23) (by rfl) g8a 43 zQ V5a (by rfl) (by rfl) hBk (by rw [hz3]; rfl) (by rw [hz3]; exact qIB) hz1).imp fun w7 hx => ⟨hx.1, hset _ (WQKB.st6 hB (hAt 1 (by simp)).2 hx.2.1 hx.2.2)⟩
        try simp only [Act.put]
        refine Pz 9 none undef rfl rfl ?ywg121_183 ?rwg121_183
        case ywg121_183 =>
         refine StepS.store [1, 5, 6, 7, 8] (by kernel_rfl) (by rfl) (fun L9 m9 w9 hSh hAt hDn hS => ?_)
         obtain ⟨g, k, hm, hk, hB, hset⟩ := WQB.on7 (hAt 1 (by simp)).1 (hAt 5 (by simp)).1 (hAt 6 (by simp)).1 (hAt 7 (by simp)).1 (hAt 8 (by simp)).1 hDn  hS
         obtain rfl : g8a = g := by have h9 : Value.pointer (some ⟨g8a, 0, none⟩) = .pointer (some ⟨g, 0, none⟩) := (hAt 6 (by simp)).2.symm.trans hm; simpa using h9
         obtain rfl : h8a = k := by have h9 : Value.pointer (some ⟨h8a, 0, none⟩) = .pointer (some ⟨k, 0, none⟩) := (hAt 7 (by simp)).2.symm.trans hk; simpa using h9
         obtain ⟨_, A1, hA, hb2, _⟩ := id hB
         have hBk := (hb2 h8a rfl).2
         obtain ⟨hz3, hz1⟩ := WQKB.sz7 hB (hAt 5 (by simp)).2
         refine (exec_store_blk (w := w9) 43 (.tmp 6) (.tmp 27) (by rfl) h8a 43 zQ V6a (by rfl) (by rfl) hBk (by rw [hz3]; rfl) (by rw [hz3]; exact qIB) hz1).imp fun w7 hx => ⟨hx.1, hset _ (WQKB.st7 hB (hAt 5 (by simp)).2 hx.2.1 hx.2.2)⟩
        try simp only [Act.put]
        refine Ps.done (by kernel_rfl) (fun wg121 hS => ?_) _
        obtain ⟨g, k, hm, hk, hB⟩ := WQB.fin (by rfl) (by rfl) (by rfl) hS
        clear hS
        obtain rfl : g8a = g := by have h9 : Value.pointer (some ⟨g8a, 0, none⟩) = .pointer (some ⟨g, 0, none⟩) := hm; simpa using h9
        obtain rfl : h8a = k := by have h9 : Value.pointer (some ⟨h8a, 0, none⟩) = .pointer (some ⟨k, 0, none⟩) := hk; simpa using h9
        have hB := WQKB.pair (V := V5a) (V' := V6a) hB rfl rfl
        refine ⟨g8a, h8a, V5a, V6a, ⟨.agg #[.slice B m mc, .slice K k kc, .int .i64 x.lim], .agg V5a, .slice (some ad) n c, .pointer (some ad), .agg #[.slice B2 m2 mc2, .slice K2 k2 kc2, .int .i64 y.lim], .agg V6a, ?_⟩, hB⟩
        clear hB hm hk
        rfl
       case bwg121_179_6 =>
        refine Turns.mk (i := 6) (d := some 5) rfl rfl (TurnS.value (V := fun v => ∃ g, v = .pointer (some ⟨g, 0, none⟩)) [] (by kernel_rfl) (by rfl) (fun L9 m9 w9 hSh hAt hDn hS => ?cwg121_184)) (fun v6a hVv6a => ?rwg121_184)
        case cwg121_184 =>
         exact ⟨.pointer (some ⟨w9.heap.size, 0, none⟩), w9.alloc (.cells zQ 43), (by clear hS; go_simp), ⟨_, rfl⟩, WQB.made4 hDn (post_no (post := [8]) hSh hDn (by kernel_rfl) 8 (by simp)) (post_no (post := [9]) hSh hDn (by kernel_rfl) 9 (by simp)) rfl (WQKB.m4) hS⟩
        try simp only [Act.put, sA, sZ, sS]
        obtain ⟨g8a, rfl⟩ := hVv6a
        refine Ps.one (k := 5) (d := some 27) rfl rfl (by kernel_rfl) (TurnS.call (V := fun v => ∃ V : Array Value, v = .agg V) ?fwg121_185 ?awg121_185 [1] (by kernel_rfl) (by rfl) (fun w9 => ?hwg121_185) (fun L9 m9 w9 hSh hAt hDn hS => ?cwg121_185)) (fun v6a hVv6a => ?rwg121_185)
        case hwg121_185 => go_simp; refine ⟨?_, ?_⟩ <;> rfl
        case cwg121_185 =>
         obtain ⟨al, bl, hB, hset⟩ := WQB.on3 (hAt 1 (by simp)).1 hDn (post_no (post := [8]) hSh hDn (by kernel_rfl) 8 (by simp)) (post_no (post := [9]) hSh hDn (by kernel_rfl) 9 (by simp)) hS
         have hT := hB.1
         refine (fewq_any AllB y B2 m2 mc2 K2 k2 kc2 w9 (HRY.out.below hT) HAY.out).mono ?_
         rintro e w6 ⟨V, rfl, hr6, q6⟩
         exact ⟨_, rfl, ⟨V, rfl⟩, hset _ _ (WQKB.c3 hB q6 hr6)⟩
        try simp only [Act.put, sA, sZ, sS]
        obtain ⟨V6a, rfl⟩ := hVv6a
        refine Pz 8 none undef rfl rfl ?ywg121_186 ?rwg121_186
        case ywg121_186 =>
         refine StepS.store [1, 5, 6, 7] (by kernel_rfl) (by rfl) (fun L9 m9 w9 hSh hAt hDn hS => ?_)
         obtain ⟨g, k, hm, hk, hB, hset⟩ := WQB.on6 (hAt 1 (by simp)).1 (hAt 5 (by simp)).1 (hAt 6 (by simp)).1 (hAt 7 (by simp)).1 hDn (post_no (post := [9]) hSh hDn (by kernel_rfl) 9 (by simp)) hS
         obtain rfl : g8a = g := by have h9 : Value.pointer (some ⟨g8a, 0, none⟩) = .pointer (some ⟨g, 0, none⟩) := (hAt 6 (by simp)).2.symm.trans hm; simpa using h9
         obtain rfl : h8a = k := by have h9 : Value.pointer (some ⟨h8a, 0, none⟩) = .pointer (some ⟨k, 0, none⟩) := (hAt 7 (by simp)).2.symm.trans hk; simpa using h9
         obtain ⟨_, ⟨hA, hb2⟩, _⟩ := id hB
         have hBk := (hA g8a rfl).2.2
         obtain ⟨hz3, hz1⟩ := WQKB.sz6 hB (hAt 1 (by simp)).2
         refine (exec_store_blk (w := w9) 43 (.tmp 5) (.tmp 23) (by rfl) g8a 43 zQ V5a (by rfl) (by rfl) hBk (by rw [hz3]; rfl) (by rw [hz3]; exact qIB) hz1).imp fun w7 hx => ⟨hx.1, hset _ (WQKB.st6 hB (hAt 1 (by simp)).2 hx.2.1 hx.2.2)⟩
        try simp only [Act.put]
        refine Pz 9 none undef rfl rfl ?ywg121_187 ?rwg121_187
        case ywg121_187 =>
         refine StepS.store [1, 5, 6, 7, 8] (by kernel_rfl) (by rfl) (fun L9 m9 w9 hSh hAt hDn hS => ?_)
         obtain ⟨g, k, hm, hk, hB, hset⟩ := WQB.on7 (hAt 1 (by simp)).1 (hAt 5 (by simp)).1 (hAt 6 (by simp)).1 (hAt 7 (by simp)).1 (hAt 8 (by simp)).1 hDn  hS
         obtain rfl : g8a = g := by have h9 : Value.pointer (some ⟨g8a, 0, none⟩) = .pointer (some ⟨g, 0, none⟩) := (hAt 6 (by simp)).2.symm.trans hm; simpa using h9
         obtain rfl : h8a = k := by have h9 : Value.pointer (some ⟨h8a, 0, none⟩) = .pointer (some ⟨k, 0, none⟩) := (hAt 7 (by simp)).2.symm.trans hk; simpa using h9
         obtain ⟨_, A1, hA, hb2, _⟩ := id hB
         have hBk := (hb2 h8a rfl).2
         obtain ⟨hz3, hz1⟩ := WQKB.sz7 hB (hAt 5 (by simp)).2
         refine (exec_store_blk (w := w9) 43 (.tmp 6) (.tmp 27) (by rfl) h8a 43 zQ V6a (by rfl) (by rfl) hBk (by rw [hz3]; rfl) (by rw [hz3]; exact qIB) hz1).imp fun w7 hx => ⟨hx.1, hset _ (WQKB.st7 hB (hAt 5 (by simp)).2 hx.2.1 hx.2.2)⟩
        try simp only [Act.put]
        refine Ps.done (by kernel_rfl) (fun wg121 hS => ?_) _
        obtain ⟨g, k, hm, hk, hB⟩ := WQB.fin (by rfl) (by rfl) (by rfl) hS
        clear hS
        obtain rfl : g8a = g := by have h9 : Value.pointer (some ⟨g8a, 0, none⟩) = .pointer (some ⟨g, 0, none⟩) := hm; simpa using h9
        obtain rfl : h8a = k := by have h9 : Value.pointer (some ⟨h8a, 0, none⟩) = .pointer (some ⟨k, 0, none⟩) := hk; simpa using h9
        have hB := WQKB.pair (V := V5a) (V' := V6a) hB rfl rfl
        refine ⟨g8a, h8a, V5a, V6a, ⟨.agg #[.slice B m mc, .slice K k kc, .int .i64 x.lim], .agg V5a, .slice (some ad) n c, .pointer (some ad), .agg #[.slice B2 m2 mc2, .slice K2 k2 kc2, .int .i64 y.lim], .agg V6a, ?_⟩, hB⟩
        clear hB hm hk
        rfl
      case bwg121_177_6 =>
       refine Turns.mk (i := 6) (d := some 5) rfl rfl (TurnS.value (V := fun v => ∃ g, v = .pointer (some ⟨g, 0, none⟩)) [] (by kernel_rfl) (by rfl) (fun L9 m9 w9 hSh hAt hDn hS => ?cwg121_188)) (fun v6a hVv6a => ?rwg121_188)
       case cwg121_188 =>
        exact ⟨.pointer (some ⟨w9.heap.size, 0, none⟩), w9.alloc (.cells zQ 43), (by clear hS; go_simp), ⟨_, rfl⟩, WQB.made4 hDn (post_no (post := [8]) hSh hDn (by kernel_rfl) 8 (by simp)) (post_no (post := [9]) hSh hDn (by kernel_rfl) 9 (by simp)) rfl (WQKB.m4) hS⟩
       try simp only [Act.put, sA, sZ, sS]
       obtain ⟨g8a, rfl⟩ := hVv6a
       refine Ps.one (k := 1) (d := some 23) rfl rfl (by kernel_rfl) (TurnS.call (V := fun v => ∃ V : Array Value, v = .agg V) ?fwg121_189 ?awg121_189 [] (by kernel_rfl) (by rfl) (fun w9 => ?hwg121_189) (fun L9 m9 w9 hSh hAt hDn hS => ?cwg121_189)) (fun v5a hVv5a => ?rwg121_189)
       case hwg121_189 => go_simp; refine ⟨?_, ?_⟩ <;> rfl
       case cwg121_189 =>
        obtain ⟨al, bl, hB, hset⟩ := WQB.on1 hDn (post_no (post := [5]) hSh hDn (by kernel_rfl) 5 (by simp)) (post_no (post := [8]) hSh hDn (by kernel_rfl) 8 (by simp)) (post_no (post := [9]) hSh hDn (by kernel_rfl) 9 (by simp)) hS
        have hT := hB.1
        refine (fewq_any AllB x B m mc K k kc w9 (HRX.out.below hT) HAX.out).mono ?_
        rintro e w6 ⟨V, rfl, hr6, q6⟩
        exact ⟨_, rfl, ⟨V, rfl⟩, hset _ _ (WQKB.c1 hB q6 hr6)⟩
       try simp only [Act.put, sA, sZ, sS]
       obtain ⟨V5a, rfl⟩ := hVv5a
       refine Ps.one (k := 5) (d := some 27) rfl rfl (by kernel_rfl) (TurnS.call (V := fun v => ∃ V : Array Value, v = .agg V) ?fwg121_190 ?awg121_190 [1] (by kernel_rfl) (by rfl) (fun w9 => ?hwg121_190) (fun L9 m9 w9 hSh hAt hDn hS => ?cwg121_190)) (fun v6a hVv6a => ?rwg121_190)
       case hwg121_190 => go_simp; refine ⟨?_, ?_⟩ <;> rfl
       case cwg121_190 =>
        obtain ⟨al, bl, hB, hset⟩ := WQB.on3 (hAt 1 (by simp)).1 hDn (post_no (post := [8]) hSh hDn (by kernel_rfl) 8 (by simp)) (post_no (post := [9]) hSh hDn (by kernel_rfl) 9 (by simp)) hS
        have hT := hB.1
        refine (fewq_any AllB y B2 m2 mc2 K2 k2 kc2 w9 (HRY.out.below hT) HAY.out).mono ?_
        rintro e w6 ⟨V, rfl, hr6, q6⟩
        exact ⟨_, rfl, ⟨V, rfl⟩, hset _ _ (WQKB.c3 hB q6 hr6)⟩
       try simp only [Act.put, sA, sZ, sS]
       obtain ⟨V6a, rfl⟩ := hVv6a
       refine Pz 8 none undef rfl rfl ?ywg121_191 ?rwg121_191
       case ywg121_191 =>
        refine StepS.store [1, 5, 6, 7] (by kernel_rfl) (by rfl) (fun L9 m9 w9 hSh hAt hDn hS => ?_)
        obtain ⟨g, k, hm, hk, hB, hset⟩ := WQB.on6 (hAt 1 (by simp)).1 (hAt 5 (by simp)).1 (hAt 6 (by simp)).1 (hAt 7 (by simp)).1 hDn (post_no (post := [9]) hSh hDn (by kernel_rfl) 9 (by simp)) hS
        obtain rfl : g8a = g := by have h9 : Value.pointer (some ⟨g8a, 0, none⟩) = .pointer (some ⟨g, 0, none⟩) := (hAt 6 (by simp)).2.symm.trans hm; simpa using h9
        obtain rfl : h8a = k := by have h9 : Value.pointer (some ⟨h8a, 0, none⟩) = .pointer (some ⟨k, 0, none⟩) := (hAt 7 (by simp)).2.symm.trans hk; simpa using h9
        obtain ⟨_, ⟨hA, hb2⟩, _⟩ := id hB
        have hBk := (hA g8a rfl).2.2
        obtain ⟨hz3, hz1⟩ := WQKB.sz6 hB (hAt 1 (by simp)).2
        refine (exec_store_blk (w := w9) 43 (.tmp 5) (.tmp 23) (by rfl) g8a 43 zQ V5a (by rfl) (by rfl) hBk (by rw [hz3]; rfl) (by rw [hz3]; exact qIB) hz1).imp fun w7 hx => ⟨hx.1, hset _ (WQKB.st6 hB (hAt 1 (by simp)).2 hx.2.1 hx.2.2)⟩
       try simp only [Act.put]
       refine Pz 9 none undef rfl rfl ?ywg121_192 ?rwg121_192
       case ywg121_192 =>
        refine StepS.store [1, 5, 6, 7, 8] (by kernel_rfl) (by rfl) (fun L9 m9 w9 hSh hAt hDn hS => ?_)
        obtain ⟨g, k, hm, hk, hB, hset⟩ := WQB.on7 (hAt 1 (by simp)).1 (hAt 5 (by simp)).1 (hAt 6 (by simp)).1 (hAt 7 (by simp)).1 (hAt 8 (by simp)).1 hDn  hS
        obtain rfl : g8a = g := by have h9 : Value.pointer (some ⟨g8a, 0, none⟩) = .pointer (some ⟨g, 0, none⟩) := (hAt 6 (by simp)).2.symm.trans hm; simpa using h9
        obtain rfl : h8a = k := by have h9 : Value.pointer (some ⟨h8a, 0, none⟩) = .pointer (some ⟨k, 0, none⟩) := (hAt 7 (by simp)).2.symm.trans hk; simpa using h9
        obtain ⟨_, A1, hA, hb2, _⟩ := id hB
        have hBk := (hb2 h8a rfl).2
        obtain ⟨hz3, hz1⟩ := WQKB.sz7 hB (hAt 5 (by simp)).2
        refine (exec_store_blk (w := w9) 43 (.tmp 6) (.tmp 27) (by rfl) h8a 43 zQ V6a (by rfl) (by rfl) hBk (by rw [hz3]; rfl) (by rw [hz3]; exact qIB) hz1).imp fun w7 hx => ⟨hx.1, hset _ (WQKB.st7 hB (hAt 5 (by simp)).2 hx.2.1 hx.2.2)⟩
       try simp only [Act.put]
       refine Ps.done (by kernel_rfl) (fun wg121 hS => ?_) _
       obtain ⟨g, k, hm, hk, hB⟩ := WQB.fin (by rfl) (by rfl) (by rfl) hS
       clear hS
       obtain rfl : g8a = g := by have h9 : Value.pointer (some ⟨g8a, 0, none⟩) = .pointer (some ⟨g, 0, none⟩) := hm; simpa using h9
       obtain rfl : h8a = k := by have h9 : Value.pointer (some ⟨h8a, 0, none⟩) = .pointer (some ⟨k, 0, none⟩) := hk; simpa using h9
       have hB := WQKB.pair (V := V5a) (V' := V6a) hB rfl rfl
       refine ⟨g8a, h8a, V5a, V6a, ⟨.agg #[.slice B m mc, .slice K k kc, .int .i64 x.lim], .agg V5a, .slice (some ad) n c, .pointer (some ad), .agg #[.slice B2 m2 mc2, .slice K2 k2 kc2, .int .i64 y.lim], .agg V6a, ?_⟩, hB⟩
       clear hB hm hk
       rfl
    case kpswg121 =>
     intro a' w1a hF
     obtain ⟨g8a, h8a, V5a, V6a, ⟨v22, v23, v24, v25, v26, v27, rfl⟩, hT, hg9, hbk, hbk2, hr, hr2⟩ := hF
     have HT1a := Lib.hid hT
     have HGa := Lib.hid hg9
     have HVa := Lib.hid hbk
     have HUa := Lib.hid hbk2
     have HRVa := Lib.hid hr
     have HRUa := Lib.hid hr2
     clear hT hg9 hbk hbk2 hr hr2
     simp only [Act.put, List.setIfInBounds_toArray, List.set_cons_zero, List.set_cons_succ]
     obtain ⟨A5, n5, c5, B5, m5, d5, hV5, hr5⟩ := LQC_rq HRVa.out
     obtain ⟨A6, n6, c6, B6, m6, d6, hV6, hr6⟩ := LQC_rq HRUa.out
     subst hV5 hV6
     have KRX := Lib.hid hr5
     have KRY := Lib.hid hr6
     clear hr5 hr6 HRVa HRUa
     have HQa := Lib.hid (bl_ca HQX.out HT1a.out)
     have KX := Lib.hid (HBX.out.ca HT1a.out)
     have KT := Lib.hid (HT.out.below HQa.out)
     have HFW := Lib.hid (fun w' (q : Below w1a.heap.size w1a w') => fewq_any AllB x B m mc K k kc w' (HRX.out.below (bl_ca HT1a.out q)) HAX.out)
     obtain ⟨hqc, hqr, hql⟩ := few_ok HAX.out
     have HQC := Lib.hid hqc
     have HQR2 := Lib.hid hqr
     have HQL := Lib.hid hql
     clear hqc hqr hql
     have KNN := Lib.hid (show n5 ≤ 1000 ∧ m5 ≤ 1000 from by have h8 := Lay.rd_len KRX.out.1; have h9 := Lay.rd_len KRX.out.2.2.1; have := few_len (q := x); omega)
     generalize fewQ x = X at *
     generalize fewQ y = Y at *
     clear HRX HRY HBX HY0 HY1 HY2
     have z0 := HVa.out.cell 0
     have z1 := HVa.out.cell 1
     have z2 := HVa.out.cell 2
     have HRT := Lib.hid (rRight_any AllB X A5 n5 c5 B5 m5 d5 w1a KRX.out.1 KRX.out.2.2.1 HQC.out KNN.out.1 KNN.out.2 HQL.out)
     obtain ⟨ok, hok⟩ : ∃ b, b = qryB X := ⟨_, rfl⟩
     rw [← hok] at HRT
     have HOK := Lib.hid hok
     clear hok
     go_wp2_with fail
     refine HRT.out.mono ?_
     rintro e wt ⟨rfl, qt⟩
     have HAt := Lib.hid qt
     clear qt z0 z1 z2 HRT
     have z0 := (HVa.out.ca HAt.out).cell 0
     have z1 := (HVa.out.ca HAt.out).cell 1
     have z2 := (HVa.out.ca HAt.out).cell 2
     have HCT := Lib.hid (Check_any AllB X A5 n5 c5 B5 m5 d5 wt (Lay.rd_below KRX.out.1 HAt.out) (Lay.rd_below KRX.out.2.2.1 HAt.out) HQC.out KNN.out.1 KNN.out.2 HQL.out (KT.out.below HAt.out))
     rw [← HOK.out] at HCT
     go_wp2_with fail
     refine HCT.out.mono ?_
     rintro e wv ⟨rfl, qv⟩
     have HAv := Lib.hid (bl_ca HAt.out qv)
     clear qv z0 z1 z2 HCT
     obtain ⟨dd, hdd⟩ : ∃ dd, dd = decide (X = Y) := ⟨_, rfl⟩
     have HDD := Lib.hid hdd
     clear hdd
     have KV := Lib.hid (HVa.out.ca HAv.out)
     have KU := Lib.hid (HUa.out.ca HAv.out)
     have KX := Lib.hid (KX.out.ca HAv.out)
     have KRX := Lib.hid (KRX.out.below HAv.out)
     have KRY := Lib.hid (KRY.out.below HAv.out)
     have KT := Lib.hid (KT.out.below HAv.out)
     have KFW := Lib.hid (fun w' (q : Below wv.heap.size wv w') => HFW.out w' (bl_ca HAv.out q))
     have KQ := Lib.hid (bl_ca HQa.out HAv.out)
     clear HFW HAt HVa HUa HAv HQa
     cases ok
     case false =>
      go_upto_region 10 with fail
      refine wp_region_ps (S := SeqN [15, 18, 24, 25] (fun z mm w' => match z with | 3 => Below wv.heap.size wv w' ∧ ∃ V : Array Value, mm 24 = .agg V ∧ LQC.rep w' AllB X V.toList | _ => Below wv.heap.size wv w')) (by kernel_rfl) ?spswg32 ?ppswg32
      case spswg32 =>
       exact SeqN.start (by decide) (Below.refl _ _).drew
      refine Pz 0 (some 32) (.int .i64 (180)) rfl rfl (by exact StepS.pure (SeqN.pass (by decide)) rfl fun _ => rfl) ?_
      try simp only [Act.put, sA, sZ, sS]
      refine Pz 1 (some 33) (.bool (false)) rfl rfl ?ywg32_34 ?rwg32_34
      case ywg32_34 =>
       refine StepS.pure (SeqN.pass (by decide)) (by rfl) (fun w9 => ?_)
       first | rfl | (go_simp; done) | (go_simp; rfl)
      try simp only [Act.put, sA, sZ, sS]
      refine Pz 2 (some 34) (.bool (false)) rfl rfl (by exact StepS.pure (SeqN.pass (by decide)) rfl fun _ => rfl) ?_
      try simp only [Act.put, sA, sZ, sS]
      refine Pz 3 (some 35) (.bool (false)) rfl rfl ?ywg32_36 ?rwg32_36
      case ywg32_36 =>
       refine StepS.pure (SeqN.pass (by decide)) (by rfl) (fun w9 => ?_)
       first | rfl | (go_simp; done) | (go_simp; rfl)
      try simp only [Act.put, sA, sZ, sS]
      refine Pz 4 (some 36) (.bool (false)) rfl rfl (by exact StepS.pure (SeqN.pass (by decide)) rfl fun _ => rfl) ?_
      try simp only [Act.put, sA, sZ, sS]
      refine Pz 5 (some 37) (.bool (false)) rfl rfl (by exact StepS.pure (SeqN.pass (by decide)) rfl fun _ => rfl) ?_
      try simp only [Act.put, sA, sZ, sS]
      refine Pz 6 (some 38) (.bool (true)) rfl rfl (by exact StepS.pure (SeqN.pass (by decide)) rfl fun _ => rfl) ?_
      try simp only [Act.put, sA, sZ, sS]
      refine Pz 7 (some 39) (.bool (true)) rfl rfl (by exact StepS.pure (SeqN.pass (by decide)) rfl fun _ => rfl) ?_
      try simp only [Act.put, sA, sZ, sS]
      refine Pz 8 (some 40) (.int .i64 (180)) rfl rfl (by exact StepS.pure (SeqN.pass (by decide)) rfl fun _ => rfl) ?_
      try simp only [Act.put, sA, sZ, sS]
      refine Pz 9 (some 41) (.bool (false)) rfl rfl ?ywg32_42 ?rwg32_42
      case ywg32_42 =>
       refine StepS.pure (SeqN.pass (by decide)) (by rfl) (fun w9 => ?_)
       first | rfl | (go_simp; done) | (go_simp; rfl)
      try simp only [Act.put, sA, sZ, sS]
      refine Pz 10 (some 42) (.bool (false)) rfl rfl (by exact StepS.pure (SeqN.pass (by decide)) rfl fun _ => rfl) ?_
      try simp only [Act.put, sA, sZ, sS]
      refine Pz 11 (some 43) (.bool (false)) rfl rfl (by exact StepS.pure (SeqN.pass (by decide)) rfl fun _ => rfl) ?_
      try simp only [Act.put, sA, sZ, sS]
      refine Pz 12 (some 44) (.bool (false)) rfl rfl (by exact StepS.pure (SeqN.pass (by decide)) rfl fun _ => rfl) ?_
      try simp only [Act.put, sA, sZ, sS]
      refine Pz 13 (some 45) (.agg #[.slice A5 n5 c5, .slice B5 m5 d5, .int .i64 (X.lim)]) rfl rfl ?ywg32_46 ?rwg32_46
      case ywg32_46 =>
       refine StepS.read [] (by kernel_rfl) (SeqN.pass (by decide)) (by rfl) (fun L9 m9 w9 hSh hAt hDn hS => ?_)
       have hT : Below wv.heap.size wv w9 := SeqN.lt (ks := [15, 18, 24, 25]) (k := 25) (by simp) (reach_no hSh (f := 28) (j := 25) (by kernel_rfl) hDn) (fun z _ _ hz h => by match z, hz, h with | 0, _, h => exact h | 1, _, h => exact h | 2, _, h => exact h | 3, _, h => exact h.1 | _ + 4, hz, _ => exact absurd hz (by simp)) hS
       have x0 : w9.cell? ⟨g8a, 0, none⟩ = some (.slice A5 n5 c5) := (KV.out.ca hT).cell 0
       have x1 : w9.cell? ⟨g8a, 1, none⟩ = some (.slice B5 m5 d5) := (KV.out.ca hT).cell 1
       have x2 : w9.cell? ⟨g8a, 2, none⟩ = some (.int .i64 (X.lim)) := (KV.out.ca hT).cell 2
       clear hT hS
       go_simp
       try rfl
      try simp only [Act.put, sA, sZ, sS]
      refine Pz 14 (some 46) (.agg #[.slice A6 n6 c6, .slice B6 m6 d6, .int .i64 (Y.lim)]) rfl rfl ?ywg32_47 ?rwg32_47
      case ywg32_47 =>
       refine StepS.read [] (by kernel_rfl) (SeqN.pass (by decide)) (by rfl) (fun L9 m9 w9 hSh hAt hDn hS => ?_)
       have hT : Below wv.heap.size wv w9 := SeqN.lt (ks := [15, 18, 24, 25]) (k := 25) (by simp) (reach_no hSh (f := 28) (j := 25) (by kernel_rfl) hDn) (fun z _ _ hz h => by match z, hz, h with | 0, _, h => exact h | 1, _, h => exact h | 2, _, h => exact h | 3, _, h => exact h.1 | _ + 4, hz, _ => exact absurd hz (by simp)) hS
       have x0 : w9.cell? ⟨h8a, 0, none⟩ = some (.slice A6 n6 c6) := (KU.out.ca hT).cell 0
       have x1 : w9.cell? ⟨h8a, 1, none⟩ = some (.slice B6 m6 d6) := (KU.out.ca hT).cell 1
       have x2 : w9.cell? ⟨h8a, 2, none⟩ = some (.int .i64 (Y.lim)) := (KU.out.ca hT).cell 2
       clear hT hS
       go_simp
       try rfl
      try simp only [Act.put, sA, sZ, sS]
      refine Pz 16 (some 48) (.agg #[.slice A5 n5 c5, .slice B5 m5 d5, .int .i64 (X.lim)]) rfl rfl ?ywg32_48 ?rwg32_48
      case ywg32_48 =>
       refine StepS.read [] (by kernel_rfl) (SeqN.pass (by decide)) (by rfl) (fun L9 m9 w9 hSh hAt hDn hS => ?_)
       have hT : Below wv.heap.size wv w9 := SeqN.lt (ks := [15, 18, 24, 25]) (k := 25) (by simp) (reach_no hSh (f := 28) (j := 25) (by kernel_rfl) hDn) (fun z _ _ hz h => by match z, hz, h with | 0, _, h => exact h | 1, _, h => exact h | 2, _, h => exact h | 3, _, h => exact h.1 | _ + 4, hz, _ => exact absurd hz (by simp)) hS
       have x0 : w9.cell? ⟨g8a, 0, none⟩ = some (.slice A5 n5 c5) := (KV.out.ca hT).cell 0
       have x1 : w9.cell? ⟨g8a, 1, none⟩ = some (.slice B5 m5 d5) := (KV.out.ca hT).cell 1
       have x2 : w9.cell? ⟨g8a, 2, none⟩ = some (.int .i64 (X.lim)) := (KV.out.ca hT).cell 2
       clear hT hS
       go_simp
       try rfl
      try simp only [Act.put, sA, sZ, sS]
      refine Pz 17 (some 49) (.agg #[.slice A6 n6 c6, .slice B6 m6 d6, .int .i64 (Y.lim)]) rfl rfl ?ywg32_49 ?rwg32_49
      case ywg32_49 =>
       refine StepS.read [] (by kernel_rfl) (SeqN.pass (by decide)) (by rfl) (fun L9 m9 w9 hSh hAt hDn hS => ?_)
       have hT : Below wv.heap.size wv w9 := SeqN.lt (ks := [15, 18, 24, 25]) (k := 25) (by simp) (reach_no hSh (f := 28) (j := 25) (by kernel_rfl) hDn) (fun z _ _ hz h => by match z, hz, h with | 0, _, h => exact h | 1, _, h => exact h | 2, _, h => exact h | 3, _, h => exact h.1 | _ + 4, hz, _ => exact absurd hz (by simp)) hS
       have x0 : w9.cell? ⟨h8a, 0, none⟩ = some (.slice A6 n6 c6) := (KU.out.ca hT).cell 0
       have x1 : w9.cell? ⟨h8a, 1, none⟩ = some (.slice B6 m6 d6) := (KU.out.ca hT).cell 1
       have x2 : w9.cell? ⟨h8a, 2, none⟩ = some (.int .i64 (Y.lim)) := (KU.out.ca hT).cell 2
       clear hT hS
       go_simp
       try rfl
      try simp only [Act.put, sA, sZ, sS]
      refine Ps.one (k := 15) (d := some 47) rfl rfl (by kernel_rfl) (TurnS.call (V := fun v => v = .bool dd) ?fwg32_50 ?awg32_50 [] (by kernel_rfl) (by rfl) (fun w9 => ?hwg32_50) (fun L9 m9 w9 hSh hAt hDn hS => ?cwg32_50)) (fun v15 hVv15 => ?rwg32_50)
      case hwg32_50 => go_simp; refine ⟨?_, ?_⟩ <;> rfl
      case cwg32_50 =>
       have hT := SeqN.at_ (m0 := m9) (m1 := m9) [] [18, 24, 25] hSh (fun d hd => by cases hd) hDn (by kernel_rfl) hS
       refine (same_any AllB AllB X Y A5 n5 c5 B5 m5 d5 A6 n6 c6 B6 m6 d6 w9 (Lay.rd_below KRX.out.1 hT) (Lay.rd_below KRX.out.2.2.1 hT) (Lay.rd_below KRY.out.1 hT) (Lay.rd_below KRY.out.2.2.1 hT) KNN.out.1 KNN.out.2).mono ?_
       rintro e w8 ⟨rfl, q8⟩
       exact ⟨_, rfl, by rw [HDD.out], SeqN.set_ (m0 := m9) (m1 := m9) [] [18, 24, 25] hSh (fun d hd => by cases hd) hDn (by kernel_rfl) (by decide) (by decide) (bl_ca hT q8)⟩
      try simp only [Act.put, sA, sZ, sS]
      subst hVv15
      refine Ps.one (k := 18) (d := some 50) rfl rfl (by kernel_rfl) (TurnS.call (V := fun v => v = .bool dd) ?fwg32_51 ?awg32_51 [15] (by kernel_rfl) (by rfl) (fun w9 => ?hwg32_51) (fun L9 m9 w9 hSh hAt hDn hS => ?cwg32_51)) (fun v18 hVv18 => ?rwg32_51)
      case hwg32_51 => go_simp; refine ⟨?_, ?_⟩ <;> rfl
      case cwg32_51 =>
       have hT := SeqN.at_ [15] [24, 25] hSh hAt hDn (by kernel_rfl) hS
       refine (rsameq_any AllB AllB X Y A5 n5 c5 B5 m5 d5 A6 n6 c6 B6 m6 d6 w9 (Lay.rd_below KRX.out.1 hT) (Lay.rd_below KRX.out.2.2.1 hT) (Lay.rd_below KRY.out.1 hT) (Lay.rd_below KRY.out.2.2.1 hT) KNN.out.1 KNN.out.2).mono ?_
       rintro e w8 ⟨rfl, q8⟩
       exact ⟨_, rfl, by rw [HDD.out], SeqN.set_ [15] [24, 25] hSh hAt hDn (by kernel_rfl) (by decide) (by decide) (bl_ca hT q8)⟩
      try simp only [Act.put, sA, sZ, sS]
      subst hVv18
      refine Pz 19 (some 51) (.bool (false)) rfl rfl ?ywg32_52 ?rwg32_52
      case ywg32_52 =>
       refine StepS.pure (SeqN.pass (by decide)) (by rfl) (fun w9 => ?_)
       cases dd
       · first | rfl | (go_simp; done) | (go_simp; rfl)
       · first | rfl | (go_simp; done) | (go_simp; rfl)
      try simp only [Act.put, sA, sZ, sS]
      refine Pz 20 (some 52) (.bool (false)) rfl rfl (by exact StepS.pure (SeqN.pass (by decide)) rfl fun _ => rfl) ?_
      try simp only [Act.put, sA, sZ, sS]
      refine Pz 21 (some 53) (.bool (false)) rfl rfl (by exact StepS.pure (SeqN.pass (by decide)) rfl fun _ => rfl) ?_
      try simp only [Act.put, sA, sZ, sS]
      refine Pz 22 (some 54) (.agg #[.slice A5 n5 c5, .slice B5 m5 d5, .int .i64 (X.lim)]) rfl rfl ?ywg32_55 ?rwg32_55
      case ywg32_55 =>
       refine StepS.read [] (by kernel_rfl) (SeqN.pass (by decide)) (by rfl) (fun L9 m9 w9 hSh hAt hDn hS => ?_)
       have hT : Below wv.heap.size wv w9 := SeqN.lt (ks := [15, 18, 24, 25]) (k := 25) (by simp) (reach_no hSh (f := 28) (j := 25) (by kernel_rfl) hDn) (fun z _ _ hz h => by match z, hz, h with | 0, _, h => exact h | 1, _, h => exact h | 2, _, h => exact h | 3, _, h => exact h.1 | _ + 4, hz, _ => exact absurd hz (by simp)) hS
       have x0 : w9.cell? ⟨g8a, 0, none⟩ = some (.slice A5 n5 c5) := (KV.out.ca hT).cell 0
       have x1 : w9.cell? ⟨g8a, 1, none⟩ = some (.slice B5 m5 d5) := (KV.out.ca hT).cell 1
       have x2 : w9.cell? ⟨g8a, 2, none⟩ = some (.int .i64 (X.lim)) := (KV.out.ca hT).cell 2
       clear hT hS
       go_simp
       try rfl
      try simp only [Act.put, sA, sZ, sS]
      refine Pz 23 (some 55) (.agg #[.slice B m mc, .slice K k kc, .int .i64 (x.lim)]) rfl rfl ?ywg32_56 ?rwg32_56
      case ywg32_56 =>
       refine StepS.read [] (by kernel_rfl) (SeqN.pass (by decide)) (by rfl) (fun L9 m9 w9 hSh hAt hDn hS => ?_)
       have hT : Below wv.heap.size wv w9 := SeqN.lt (ks := [15, 18, 24, 25]) (k := 25) (by simp) (reach_no hSh (f := 28) (j := 25) (by kernel_rfl) hDn) (fun z _ _ hz h => by match z, hz, h with | 0, _, h => exact h | 1, _, h => exact h | 2, _, h => exact h | 3, _, h => exact h.1 | _ + 4, hz, _ => exact absurd hz (by simp)) hS
       have x0 : w9.cell? ⟨gx, 0, none⟩ = some (.slice B m mc) := (KX.out.ca hT).cell 0
       have x1 : w9.cell? ⟨gx, 1, none⟩ = some (.slice K k kc) := (KX.out.ca hT).cell 1
       have x2 : w9.cell? ⟨gx, 2, none⟩ = some (.int .i64 (x.lim)) := (KX.out.ca hT).cell 2
       clear hT hS
       go_simp
       try rfl
      try simp only [Act.put, sA, sZ, sS]
      refine Ps.one (k := 24) (d := some 56) rfl rfl (by kernel_rfl) (TurnS.call (V := fun v => ∃ V : Array Value, v = .agg V) ?fwg32_57 ?awg32_57 [15, 18] (by kernel_rfl) (by rfl) (fun w9 => ?hwg32_57) (fun L9 m9 w9 hSh hAt hDn hS => ?cwg32_57)) (fun v24 hVv24 => ?rwg32_57)
      case hwg32_57 => go_simp; refine ⟨?_, ?_⟩ <;> rfl
      case cwg32_57 =>
       have hT := SeqN.at_ [15, 18] [25] hSh hAt hDn (by kernel_rfl) hS
       refine (KFW.out w9 hT).mono ?_
       rintro e w8 ⟨V3, rfl, hr, q8⟩
       exact ⟨_, rfl, ⟨V3, rfl⟩, SeqN.set_ [15, 18] [25] hSh hAt hDn (by kernel_rfl) (by decide) (by decide) ⟨bl_ca hT q8, V3, upd_same _ _ _, hr⟩⟩
      try simp only [Act.put, sA, sZ, sS]
      obtain ⟨V2, rfl⟩ := hVv24
      refine Ps.one (k := 25) (d := some 57) rfl rfl (by kernel_rfl) (TurnS.call (V := fun v => v = .bool true) ?fwg32_58 ?awg32_58 [15, 18, 24] (by kernel_rfl) (by rfl) (fun w9 => ?hwg32_58) (fun L9 m9 w9 hSh hAt hDn hS => ?cwg32_58)) (fun v25 hVv25 => ?rwg32_58)
      case hwg32_58 => go_simp; refine ⟨?_, ?_⟩ <;> rfl
      case cwg32_58 =>
       obtain ⟨hT, V3, hv, hr⟩ := SeqN.at_ [15, 18, 24] [] hSh hAt hDn (by kernel_rfl) hS
       obtain rfl : V2 = V3 := by have h9 : Value.agg V2 = .agg V3 := (hAt 24 (by simp)).2.symm.trans hv; injection h9
       obtain ⟨A7, n7, c7, B7, m7, d7, hV7, hr7⟩ := LQC_rq hr
       subst hV7
       refine (same_any AllB AllB X X A5 n5 c5 B5 m5 d5 A7 n7 c7 B7 m7 d7 w9 (Lay.rd_below KRX.out.1 hT) (Lay.rd_below KRX.out.2.2.1 hT) hr7.1 hr7.2.2.1 KNN.out.1 KNN.out.2).mono ?_
       rintro e w8 ⟨rfl, q8⟩
       exact ⟨_, rfl, by rw [decide_eq_true rfl], SeqN.set_ [15, 18, 24] [] hSh hAt hDn (by kernel_rfl) (by decide) (by decide) (bl_ca hT q8)⟩
      try simp only [Act.put, sA, sZ, sS]
      subst hVv25
      refine Pz 26 (some 58) (.bool (false)) rfl rfl (by exact StepS.pure (SeqN.pass (by decide)) rfl fun _ => rfl) ?_
      try simp only [Act.put, sA, sZ, sS]
      refine Pz 27 (some 59) (.bool (false)) rfl rfl (by exact StepS.pure (SeqN.pass (by decide)) rfl fun _ => rfl) ?_
      try simp only [Act.put, sA, sZ, sS]
      refine Ps.done (by kernel_rfl) (fun wg32 hS => ?_) _
      have HWW := Lib.hid (show Below wv.heap.size wv wg32 from SeqN.fin (by rfl) hS)
      clear hS
      obtain ⟨wx, rfl⟩ : ∃ x, x = wg32 := ⟨_, rfl⟩
      have KVx := Lib.hid (KV.out.ca HWW.out)
      have KXx := Lib.hid (KX.out.ca HWW.out)
      have KRx := Lib.hid (KRX.out.below HWW.out)
      have KQx := Lib.hid (bl_ca KQ.out HWW.out)
      have z0 := KVx.out.cell 0
      have z1 := KVx.out.cell 1
      have z2 := KVx.out.cell 2
      have KP := Lib.hid (print_any AllB X A5 n5 c5 B5 m5 d5 wx KRx.out.1 KRx.out.2.2.1 HQC.out KNN.out.1 KNN.out.2 HQL.out (KT.out.below HWW.out) HQR2.out)
      rw [← HOK.out] at KP
      have KPP := Lib.hid (show Calls Tryz.prog 21 #[.agg #[.slice A5 n5 c5, .slice B5 m5 d5, .int .i64 X.lim]] wx fun e w' => e = .returned (.tuple #[.string ⟨#[]⟩, .int .i64 180]) ∧ Below wx.heap.size wx w' from KP.out)
      clear KP
      go_wp2_with fail
      refine KPP.out.mono ?_
      rintro e wz ⟨rfl, qz⟩
      have KVz := Lib.hid (KVx.out.ca qz)
      have KXz := Lib.hid (KXx.out.ca qz)
      have KRZ := Lib.hid (KRx.out.below qz)
      have KQz := Lib.hid (bl_ca KQx.out qz)
      have KFZ := Lib.hid (fun w' (q : Below wz.heap.size wz w') => KFW.out w' (bl_ca HWW.out (bl_ca qz q)))
      clear qz z0 z1 z2 KPP KVx KXx KRx KQx
      go_upto_region 13 with fail
      refine wp_region_ps (S := SeqN [26, 27] (fun z mm w' => match z with | 1 => Below wz.heap.size wz w' ∧ ∃ V : Array Value, mm 26 = .agg V ∧ LQC.rep w' AllB X V.toList | _ => Below wz.heap.size wz w')) (by kernel_rfl) ?spswg1 ?ppswg1
      case spswg1 =>
       exact SeqN.start (by decide) (Below.refl _ _).drew
      refine Pz 0 (some 65) (.bool (false)) rfl rfl (by exact StepS.pure (SeqN.pass (by decide)) rfl fun _ => rfl) ?_
      try simp only [Act.put, sA, sZ, sS]
      refine Pz 1 (some 66) (.bool (false)) rfl rfl (by exact StepS.pure (SeqN.pass (by decide)) rfl fun _ => rfl) ?_
      try simp only [Act.put, sA, sZ, sS]
      refine Pz 2 (some 67) undef rfl rfl (by  exact StepS.skip (SeqN.pass (by decide)) rfl) ?_
      try simp only [Act.put, sA, sZ, sS]
      refine Pz 3 (some 68) undef rfl rfl (by  exact StepS.skip (SeqN.pass (by decide)) rfl) ?_
      try simp only [Act.put, sA, sZ, sS]
      refine Pz 4 (some 69) undef rfl rfl (by  exact StepS.skip (SeqN.pass (by decide)) rfl) ?_
      try simp only [Act.put, sA, sZ, sS]
      refine Pz 5 (some 70) undef rfl rfl (by  exact StepS.skip (SeqN.pass (by decide)) rfl) ?_
      try simp only [Act.put, sA, sZ, sS]
      refine Pz 6 (some 71) undef rfl rfl (by  exact StepS.skip (SeqN.pass (by decide)) rfl) ?_
      try simp only [Act.put, sA, sZ, sS]
      refine Pz 7 (some 72) undef rfl rfl (by  exact StepS.skip (SeqN.pass (by decide)) rfl) ?_
      try simp only [Act.put, sA, sZ, sS]
      refine Pz 8 (some 73) undef rfl rfl (by  exact StepS.skip (SeqN.pass (by decide)) rfl) ?_
      try simp only [Act.put, sA, sZ, sS]
      refine Pz 9 (some 74) undef rfl rfl (by  exact StepS.skip (SeqN.pass (by decide)) rfl) ?_
      try simp only [Act.put, sA, sZ, sS]
      refine Pz 10 (some 75) (.bool (false)) rfl rfl (by exact StepS.pure (SeqN.pass (by decide)) rfl fun _ => rfl) ?_
      try simp only [Act.put, sA, sZ, sS]
      refine Pz 11 (some 76) (.bool (false)) rfl rfl (by exact StepS.pure (SeqN.pass (by decide)) rfl fun _ => rfl) ?_
      try simp only [Act.put, sA, sZ, sS]
      refine Pz 12 (some 77) (.bool (false)) rfl rfl (by exact StepS.pure (SeqN.pass (by decide)) rfl fun _ => rfl) ?_
      try simp only [Act.put, sA, sZ, sS]
      refine Pz 13 (some 78) (.bool (true)) rfl rfl (by exact StepS.pure (SeqN.pass (by decide)) rfl fun _ => rfl) ?_
      try simp only [Act.put, sA, sZ, sS]
      refine Pz 14 (some 79) (.bool (true)) rfl rfl (by exact StepS.pure (SeqN.pass (by decide)) rfl fun _ => rfl) ?_
      try simp only [Act.put, sA, sZ, sS]
      refine Pz 15 (some 80) (.int .i64 (180)) rfl rfl (by exact StepS.pure (SeqN.pass (by decide)) rfl fun _ => rfl) ?_
      try simp only [Act.put, sA, sZ, sS]
      refine Pz 16 (some 81) (.bool (false)) rfl rfl ?ywg1_18 ?rwg1_18
      case ywg1_18 =>
       refine StepS.pure (SeqN.pass (by decide)) (by rfl) (fun w9 => ?_)
       first | rfl | (go_simp; done) | (go_simp; rfl)
      try simp only [Act.put, sA, sZ, sS]
      refine Pz 17 (some 82) (.bool (false)) rfl rfl (by exact StepS.pure (SeqN.pass (by decide)) rfl fun _ => rfl) ?_
      try simp only [Act.put, sA, sZ, sS]
      refine Pz 18 (some 83) (.string ((⟨#[]⟩ : ByteArray))) rfl rfl (by exact StepS.pure (SeqN.pass (by decide)) rfl fun _ => rfl) ?_
      try simp only [Act.put, sA, sZ, sS]
      refine Pz 19 (some 84) (.bool (false)) rfl rfl ?ywg1_21 ?rwg1_21
      case ywg1_21 =>
       refine StepS.pure (SeqN.pass (by decide)) (by rfl) (fun w9 => ?_)
       first | rfl | (go_simp; done) | (go_simp; rfl)
      try simp only [Act.put, sA, sZ, sS]
      refine Pz 20 (some 85) (.bool (false)) rfl rfl (by exact StepS.pure (SeqN.pass (by decide)) rfl fun _ => rfl) ?_
      try simp only [Act.put, sA, sZ, sS]
      refine Pz 21 (some 86) (.bool (false)) rfl rfl (by exact StepS.pure (SeqN.pass (by decide)) rfl fun _ => rfl) ?_
      try simp only [Act.put, sA, sZ, sS]
      refine Pz 22 (some 87) (.bool (false)) rfl rfl (by exact StepS.pure (SeqN.pass (by decide)) rfl fun _ => rfl) ?_
      try simp only [Act.put, sA, sZ, sS]
      refine Pz 23 (some 88) (.bool (false)) rfl rfl (by exact StepS.pure (SeqN.pass (by decide)) rfl fun _ => rfl) ?_
      try simp only [Act.put, sA, sZ, sS]
      refine Pz 24 (some 89) (.agg #[.slice A5 n5 c5, .slice B5 m5 d5, .int .i64 (X.lim)]) rfl rfl ?ywg1_26 ?rwg1_26
      case ywg1_26 =>
       refine StepS.read [] (by kernel_rfl) (SeqN.pass (by decide)) (by rfl) (fun L9 m9 w9 hSh hAt hDn hS => ?_)
       have hT : Below wz.heap.size wz w9 := SeqN.lt (ks := [26, 27]) (k := 27) (by simp) (reach_no hSh (f := 30) (j := 27) (by kernel_rfl) hDn) (fun z _ _ hz h => by match z, hz, h with | 0, _, h => exact h | 1, _, h => exact h.1 | _ + 2, hz, _ => exact absurd hz (by simp)) hS
       have x0 : w9.cell? ⟨g8a, 0, none⟩ = some (.slice A5 n5 c5) := (KVz.out.ca hT).cell 0
       have x1 : w9.cell? ⟨g8a, 1, none⟩ = some (.slice B5 m5 d5) := (KVz.out.ca hT).cell 1
       have x2 : w9.cell? ⟨g8a, 2, none⟩ = some (.int .i64 (X.lim)) := (KVz.out.ca hT).cell 2
       clear hT hS
       go_simp
       try rfl
      try simp only [Act.put, sA, sZ, sS]
      refine Pz 25 (some 90) (.agg #[.slice B m mc, .slice K k kc, .int .i64 (x.lim)]) rfl rfl ?ywg1_27 ?rwg1_27
      case ywg1_27 =>
       refine StepS.read [] (by kernel_rfl) (SeqN.pass (by decide)) (by rfl) (fun L9 m9 w9 hSh hAt hDn hS => ?_)
       have hT : Below wz.heap.size wz w9 := SeqN.lt (ks := [26, 27]) (k := 27) (by simp) (reach_no hSh (f := 30) (j := 27) (by kernel_rfl) hDn) (fun z _ _ hz h => by match z, hz, h with | 0, _, h => exact h | 1, _, h => exact h.1 | _ + 2, hz, _ => exact absurd hz (by simp)) hS
       have x0 : w9.cell? ⟨gx, 0, none⟩ = some (.slice B m mc) := (KXz.out.ca hT).cell 0
       have x1 : w9.cell? ⟨gx, 1, none⟩ = some (.slice K k kc) := (KXz.out.ca hT).cell 1
       have x2 : w9.cell? ⟨gx, 2, none⟩ = some (.int .i64 (x.lim)) := (KXz.out.ca hT).cell 2
       clear hT hS
       go_simp
       try rfl
      try simp only [Act.put, sA, sZ, sS]
      refine Ps.one (k := 26) (d := some 91) rfl rfl (by kernel_rfl) (TurnS.call (V := fun v => ∃ V : Array Value, v = .agg V) ?fwg1_28 ?awg1_28 [] (by kernel_rfl) (by rfl) (fun w9 => ?hwg1_28) (fun L9 m9 w9 hSh hAt hDn hS => ?cwg1_28)) (fun v26 hVv26 => ?rwg1_28)
      case hwg1_28 => go_simp; refine ⟨?_, ?_⟩ <;> rfl
      case cwg1_28 =>
       have hT := SeqN.at_ (m0 := m9) (m1 := m9) [] [27] hSh (fun d hd => by cases hd) hDn (by kernel_rfl) hS
       refine (KFZ.out w9 hT).mono ?_
       rintro e w8 ⟨V3, rfl, hr, q8⟩
       exact ⟨_, rfl, ⟨V3, rfl⟩, SeqN.set_ (m0 := m9) (m1 := m9) [] [27] hSh (fun d hd => by cases hd) hDn (by kernel_rfl) (by decide) (by decide) ⟨bl_ca hT q8, V3, upd_same _ _ _, hr⟩⟩
      try simp only [Act.put, sA, sZ, sS]
      obtain ⟨V2, rfl⟩ := hVv26
      refine Ps.one (k := 27) (d := some 92) rfl rfl (by kernel_rfl) (TurnS.call (V := fun v => v = .bool true) ?fwg1_29 ?awg1_29 [26] (by kernel_rfl) (by rfl) (fun w9 => ?hwg1_29) (fun L9 m9 w9 hSh hAt hDn hS => ?cwg1_29)) (fun v27 hVv27 => ?rwg1_29)
      case hwg1_29 => go_simp; refine ⟨?_, ?_⟩ <;> rfl
      case cwg1_29 =>
       obtain ⟨hT, V3, hv, hr⟩ := SeqN.at_ [26] [] hSh hAt hDn (by kernel_rfl) hS
       obtain rfl : V2 = V3 := by have h9 : Value.agg V2 = .agg V3 := (hAt 26 (by simp)).2.symm.trans hv; injection h9
       obtain ⟨A7, n7, c7, B7, m7, d7, hV7, hr7⟩ := LQC_rq hr
       subst hV7
       refine (rsameq_any AllB AllB X X A5 n5 c5 B5 m5 d5 A7 n7 c7 B7 m7 d7 w9 (Lay.rd_below KRZ.out.1 hT) (Lay.rd_below KRZ.out.2.2.1 hT) hr7.1 hr7.2.2.1 KNN.out.1 KNN.out.2).mono ?_
       rintro e w8 ⟨rfl, q8⟩
       exact ⟨_, rfl, by rw [decide_eq_true rfl], SeqN.set_ [26] [] hSh hAt hDn (by kernel_rfl) (by decide) (by decide) (bl_ca hT q8)⟩
      try simp only [Act.put, sA, sZ, sS]
      subst hVv27
      refine Pz 28 (some 93) (.bool (false)) rfl rfl (by exact StepS.pure (SeqN.pass (by decide)) rfl fun _ => rfl) ?_
      try simp only [Act.put, sA, sZ, sS]
      refine Pz 29 (some 94) (.bool (false)) rfl rfl (by exact StepS.pure (SeqN.pass (by decide)) rfl fun _ => rfl) ?_
      try simp only [Act.put, sA, sZ, sS]
      refine Ps.done (by kernel_rfl) (fun wg1 hS => ?_) _
      have HWZ := Lib.hid (show Below wz.heap.size wz wg1 from SeqN.fin (by rfl) hS)
      clear hS
      obtain ⟨wq, rfl⟩ : ∃ x, x = wg1 := ⟨_, rfl⟩
      have HAq := Lib.hid (bl_ca KQz.out HWZ.out)
      go_wp2_with fail
      go_roundg (gk - 1)
      · exact ⟨i + 1, by omega, by omega, by go_num, HAq⟩
      · omega
     case true =>
      go_upto_region 10 with fail
      refine wp_region_ps (S := SeqN [15, 18, 24, 25] (fun z mm w' => match z with | 3 => Below wv.heap.size wv w' ∧ ∃ V : Array Value, mm 24 = .agg V ∧ LQC.rep w' AllB X V.toList | _ => Below wv.heap.size wv w')) (by kernel_rfl) ?spswg92 ?ppswg92
      case spswg92 =>
       exact SeqN.start (by decide) (Below.refl _ _).drew
      refine Pz 0 (some 32) (.int .i64 (0)) rfl rfl (by exact StepS.pure (SeqN.pass (by decide)) rfl fun _ => rfl) ?_
      try simp only [Act.put, sA, sZ, sS]
      refine Pz 1 (some 33) (.bool (true)) rfl rfl ?ywg92_94 ?rwg92_94
      case ywg92_94 =>
       refine StepS.pure (SeqN.pass (by decide)) (by rfl) (fun w9 => ?_)
       first | rfl | (go_simp; done) | (go_simp; rfl)
      try simp only [Act.put, sA, sZ, sS]
      refine Pz 2 (some 34) (.bool (true)) rfl rfl (by exact StepS.pure (SeqN.pass (by decide)) rfl fun _ => rfl) ?_
      try simp only [Act.put, sA, sZ, sS]
      refine Pz 3 (some 35) (.bool (false)) rfl rfl ?ywg92_96 ?rwg92_96
      case ywg92_96 =>
       refine StepS.pure (SeqN.pass (by decide)) (by rfl) (fun w9 => ?_)
       first | rfl | (go_simp; done) | (go_simp; rfl)
      try simp only [Act.put, sA, sZ, sS]
      refine Pz 4 (some 36) (.bool (false)) rfl rfl (by exact StepS.pure (SeqN.pass (by decide)) rfl fun _ => rfl) ?_
      try simp only [Act.put, sA, sZ, sS]
      refine Pz 5 (some 37) (.bool (true)) rfl rfl (by exact StepS.pure (SeqN.pass (by decide)) rfl fun _ => rfl) ?_
      try simp only [Act.put, sA, sZ, sS]
      refine Pz 6 (some 38) (.bool (false)) rfl rfl (by exact StepS.pure (SeqN.pass (by decide)) rfl fun _ => rfl) ?_
      try simp only [Act.put, sA, sZ, sS]
      refine Pz 7 (some 39) (.bool (false)) rfl rfl (by exact StepS.pure (SeqN.pass (by decide)) rfl fun _ => rfl) ?_
      try simp only [Act.put, sA, sZ, sS]
      refine Pz 8 (some 40) undef rfl rfl (by  exact StepS.skip (SeqN.pass (by decide)) rfl) ?_
      try simp only [Act.put, sA, sZ, sS]
      refine Pz 9 (some 41) undef rfl rfl (by  exact StepS.skip (SeqN.pass (by decide)) rfl) ?_
      try simp only [Act.put, sA, sZ, sS]
      refine Pz 10 (some 42) (.bool (false)) rfl rfl (by exact StepS.pure (SeqN.pass (by decide)) rfl fun _ => rfl) ?_
      try simp only [Act.put, sA, sZ, sS]
      refine Pz 11 (some 43) (.bool (false)) rfl rfl (by exact StepS.pure (SeqN.pass (by decide)) rfl fun _ => rfl) ?_
      try simp only [Act.put, sA, sZ, sS]
      refine Pz 12 (some 44) (.bool (false)) rfl rfl (by exact StepS.pure (SeqN.pass (by decide)) rfl fun _ => rfl) ?_
      try simp only [Act.put, sA, sZ, sS]
      refine Pz 13 (some 45) (.agg #[.slice A5 n5 c5, .slice B5 m5 d5, .int .i64 (X.lim)]) rfl rfl ?ywg92_106 ?rwg92_106
      case ywg92_106 =>
       refine StepS.read [] (by kernel_rfl) (SeqN.pass (by decide)) (by rfl) (fun L9 m9 w9 hSh hAt hDn hS => ?_)
       have hT : Below wv.heap.size wv w9 := SeqN.lt (ks := [15, 18, 24, 25]) (k := 25) (by simp) (reach_no hSh (f := 28) (j := 25) (by kernel_rfl) hDn) (fun z _ _ hz h => by match z, hz, h with | 0, _, h => exact h | 1, _, h => exact h | 2, _, h => exact h | 3, _, h => exact h.1 | _ + 4, hz, _ => exact absurd hz (by simp)) hS
       have x0 : w9.cell? ⟨g8a, 0, none⟩ = some (.slice A5 n5 c5) := (KV.out.ca hT).cell 0
       have x1 : w9.cell? ⟨g8a, 1, none⟩ = some (.slice B5 m5 d5) := (KV.out.ca hT).cell 1
       have x2 : w9.cell? ⟨g8a, 2, none⟩ = some (.int .i64 (X.lim)) := (KV.out.ca hT).cell 2
       clear hT hS
       go_simp
       try rfl
      try simp only [Act.put, sA, sZ, sS]
      refine Pz 14 (some 46) (.agg #[.slice A6 n6 c6, .slice B6 m6 d6, .int .i64 (Y.lim)]) rfl rfl ?ywg92_107 ?rwg92_107
      case ywg92_107 =>
       refine StepS.read [] (by kernel_rfl) (SeqN.pass (by decide)) (by rfl) (fun L9 m9 w9 hSh hAt hDn hS => ?_)
       have hT : Below wv.heap.size wv w9 := SeqN.lt (ks := [15, 18, 24, 25]) (k := 25) (by simp) (reach_no hSh (f := 28) (j := 25) (by kernel_rfl) hDn) (fun z _ _ hz h => by match z, hz, h with | 0, _, h => exact h | 1, _, h => exact h | 2, _, h => exact h | 3, _, h => exact h.1 | _ + 4, hz, _ => exact absurd hz (by simp)) hS
       have x0 : w9.cell? ⟨h8a, 0, none⟩ = some (.slice A6 n6 c6) := (KU.out.ca hT).cell 0
       have x1 : w9.cell? ⟨h8a, 1, none⟩ = some (.slice B6 m6 d6) := (KU.out.ca hT).cell 1
       have x2 : w9.cell? ⟨h8a, 2, none⟩ = some (.int .i64 (Y.lim)) := (KU.out.ca hT).cell 2
       clear hT hS
       go_simp
       try rfl
      try simp only [Act.put, sA, sZ, sS]
      refine Pz 16 (some 48) (.agg #[.slice A5 n5 c5, .slice B5 m5 d5, .int .i64 (X.lim)]) rfl rfl ?ywg92_108 ?rwg92_108
      case ywg92_108 =>
       refine StepS.read [] (by kernel_rfl) (SeqN.pass (by decide)) (by rfl) (fun L9 m9 w9 hSh hAt hDn hS => ?_)
       have hT : Below wv.heap.size wv w9 := SeqN.lt (ks := [15, 18, 24, 25]) (k := 25) (by simp) (reach_no hSh (f := 28) (j := 25) (by kernel_rfl) hDn) (fun z _ _ hz h => by match z, hz, h with | 0, _, h => exact h | 1, _, h => exact h | 2, _, h => exact h | 3, _, h => exact h.1 | _ + 4, hz, _ => exact absurd hz (by simp)) hS
       have x0 : w9.cell? ⟨g8a, 0, none⟩ = some (.slice A5 n5 c5) := (KV.out.ca hT).cell 0
       have x1 : w9.cell? ⟨g8a, 1, none⟩ = some (.slice B5 m5 d5) := (KV.out.ca hT).cell 1
       have x2 : w9.cell? ⟨g8a, 2, none⟩ = some (.int .i64 (X.lim)) := (KV.out.ca hT).cell 2
       clear hT hS
       go_simp
       try rfl
      try simp only [Act.put, sA, sZ, sS]
      refine Pz 17 (some 49) (.agg #[.slice A6 n6 c6, .slice B6 m6 d6, .int .i64 (Y.lim)]) rfl rfl ?ywg92_109 ?rwg92_109
      case ywg92_109 =>
       refine StepS.read [] (by kernel_rfl) (SeqN.pass (by decide)) (by rfl) (fun L9 m9 w9 hSh hAt hDn hS => ?_)
       have hT : Below wv.heap.size wv w9 := SeqN.lt (ks := [15, 18, 24, 25]) (k := 25) (by simp) (reach_no hSh (f := 28) (j := 25) (by kernel_rfl) hDn) (fun z _ _ hz h => by match z, hz, h with | 0, _, h => exact h | 1, _, h => exact h | 2, _, h => exact h | 3, _, h => exact h.1 | _ + 4, hz, _ => exact absurd hz (by simp)) hS
       have x0 : w9.cell? ⟨h8a, 0, none⟩ = some (.slice A6 n6 c6) := (KU.out.ca hT).cell 0
       have x1 : w9.cell? ⟨h8a, 1, none⟩ = some (.slice B6 m6 d6) := (KU.out.ca hT).cell 1
       have x2 : w9.cell? ⟨h8a, 2, none⟩ = some (.int .i64 (Y.lim)) := (KU.out.ca hT).cell 2
       clear hT hS
       go_simp
       try rfl
      try simp only [Act.put, sA, sZ, sS]
      refine Ps.one (k := 15) (d := some 47) rfl rfl (by kernel_rfl) (TurnS.call (V := fun v => v = .bool dd) ?fwg92_110 ?awg92_110 [] (by kernel_rfl) (by rfl) (fun w9 => ?hwg92_110) (fun L9 m9 w9 hSh hAt hDn hS => ?cwg92_110)) (fun v15 hVv15 => ?rwg92_110)
      case hwg92_110 => go_simp; refine ⟨?_, ?_⟩ <;> rfl
      case cwg92_110 =>
       have hT := SeqN.at_ (m0 := m9) (m1 := m9) [] [18, 24, 25] hSh (fun d hd => by cases hd) hDn (by kernel_rfl) hS
       refine (same_any AllB AllB X Y A5 n5 c5 B5 m5 d5 A6 n6 c6 B6 m6 d6 w9 (Lay.rd_below KRX.out.1 hT) (Lay.rd_below KRX.out.2.2.1 hT) (Lay.rd_below KRY.out.1 hT) (Lay.rd_below KRY.out.2.2.1 hT) KNN.out.1 KNN.out.2).mono ?_
       rintro e w8 ⟨rfl, q8⟩
       exact ⟨_, rfl, by rw [HDD.out], SeqN.set_ (m0 := m9) (m1 := m9) [] [18, 24, 25] hSh (fun d hd => by cases hd) hDn (by kernel_rfl) (by decide) (by decide) (bl_ca hT q8)⟩
      try simp only [Act.put, sA, sZ, sS]
      subst hVv15
      refine Ps.one (k := 18) (d := some 50) rfl rfl (by kernel_rfl) (TurnS.call (V := fun v => v = .bool dd) ?fwg92_111 ?awg92_111 [15] (by kernel_rfl) (by rfl) (fun w9 => ?hwg92_111) (fun L9 m9 w9 hSh hAt hDn hS => ?cwg92_111)) (fun v18 hVv18 => ?rwg92_111)
      case hwg92_111 => go_simp; refine ⟨?_, ?_⟩ <;> rfl
      case cwg92_111 =>
       have hT := SeqN.at_ [15] [24, 25] hSh hAt hDn (by kernel_rfl) hS
       refine (rsameq_any AllB AllB X Y A5 n5 c5 B5 m5 d5 A6 n6 c6 B6 m6 d6 w9 (Lay.rd_below KRX.out.1 hT) (Lay.rd_below KRX.out.2.2.1 hT) (Lay.rd_below KRY.out.1 hT) (Lay.rd_below KRY.out.2.2.1 hT) KNN.out.1 KNN.out.2).mono ?_
       rintro e w8 ⟨rfl, q8⟩
       exact ⟨_, rfl, by rw [HDD.out], SeqN.set_ [15] [24, 25] hSh hAt hDn (by kernel_rfl) (by decide) (by decide) (bl_ca hT q8)⟩
      try simp only [Act.put, sA, sZ, sS]
      subst hVv18
      refine Pz 19 (some 51) (.bool (false)) rfl rfl ?ywg92_112 ?rwg92_112
      case ywg92_112 =>
       refine StepS.pure (SeqN.pass (by decide)) (by rfl) (fun w9 => ?_)
       cases dd
       · first | rfl | (go_simp; done) | (go_simp; rfl)
       · first | rfl | (go_simp; done) | (go_simp; rfl)
      try simp only [Act.put, sA, sZ, sS]
      refine Pz 20 (some 52) (.bool (false)) rfl rfl (by exact StepS.pure (SeqN.pass (by decide)) rfl fun _ => rfl) ?_
      try simp only [Act.put, sA, sZ, sS]
      refine Pz 21 (some 53) (.bool (false)) rfl rfl (by exact StepS.pure (SeqN.pass (by decide)) rfl fun _ => rfl) ?_
      try simp only [Act.put, sA, sZ, sS]
      refine Pz 22 (some 54) (.agg #[.slice A5 n5 c5, .slice B5 m5 d5, .int .i64 (X.lim)]) rfl rfl ?ywg92_115 ?rwg92_115
      case ywg92_115 =>
       refine StepS.read [] (by kernel_rfl) (SeqN.pass (by decide)) (by rfl) (fun L9 m9 w9 hSh hAt hDn hS => ?_)
       have hT : Below wv.heap.size wv w9 := SeqN.lt (ks := [15, 18, 24, 25]) (k := 25) (by simp) (reach_no hSh (f := 28) (j := 25) (by kernel_rfl) hDn) (fun z _ _ hz h => by match z, hz, h with | 0, _, h => exact h | 1, _, h => exact h | 2, _, h => exact h | 3, _, h => exact h.1 | _ + 4, hz, _ => exact absurd hz (by simp)) hS
       have x0 : w9.cell? ⟨g8a, 0, none⟩ = some (.slice A5 n5 c5) := (KV.out.ca hT).cell 0
       have x1 : w9.cell? ⟨g8a, 1, none⟩ = some (.slice B5 m5 d5) := (KV.out.ca hT).cell 1
       have x2 : w9.cell? ⟨g8a, 2, none⟩ = some (.int .i64 (X.lim)) := (KV.out.ca hT).cell 2
       clear hT hS
       go_simp
       try rfl
      try simp only [Act.put, sA, sZ, sS]
      refine Pz 23 (some 55) (.agg #[.slice B m mc, .slice K k kc, .int .i64 (x.lim)]) rfl rfl ?ywg92_116 ?rwg92_116
      case ywg92_116 =>
       refine StepS.read [] (by kernel_rfl) (SeqN.pass (by decide)) (by rfl) (fun L9 m9 w9 hSh hAt hDn hS => ?_)
       have hT : Below wv.heap.size wv w9 := SeqN.lt (ks := [15, 18, 24, 25]) (k := 25) (by simp) (reach_no hSh (f := 28) (j := 25) (by kernel_rfl) hDn) (fun z _ _ hz h => by match z, hz, h with | 0, _, h => exact h | 1, _, h => exact h | 2, _, h => exact h | 3, _, h => exact h.1 | _ + 4, hz, _ => exact absurd hz (by simp)) hS
       have x0 : w9.cell? ⟨gx, 0, none⟩ = some (.slice B m mc) := (KX.out.ca hT).cell 0
       have x1 : w9.cell? ⟨gx, 1, none⟩ = some (.slice K k kc) := (KX.out.ca hT).cell 1
       have x2 : w9.cell? ⟨gx, 2, none⟩ = some (.int .i64 (x.lim)) := (KX.out.ca hT).cell 2
       clear hT hS
       go_simp
       try rfl
      try simp only [Act.put, sA, sZ, sS]
      refine Ps.one (k := 24) (d := some 56) rfl rfl (by kernel_rfl) (TurnS.call (V := fun v => ∃ V : Array Value, v = .agg V) ?fwg92_117 ?awg92_117 [15, 18] (by kernel_rfl) (by rfl) (fun w9 => ?hwg92_117) (fun L9 m9 w9 hSh hAt hDn hS => ?cwg92_117)) (fun v24 hVv24 => ?rwg92_117)
      case hwg92_117 => go_simp; refine ⟨?_, ?_⟩ <;> rfl
      case cwg92_117 =>
       have hT := SeqN.at_ [15, 18] [25] hSh hAt hDn (by kernel_rfl) hS
       refine (KFW.out w9 hT).mono ?_
       rintro e w8 ⟨V3, rfl, hr, q8⟩
       exact ⟨_, rfl, ⟨V3, rfl⟩, SeqN.set_ [15, 18] [25] hSh hAt hDn (by kernel_rfl) (by decide) (by decide) ⟨bl_ca hT q8, V3, upd_same _ _ _, hr⟩⟩
      try simp only [Act.put, sA, sZ, sS]
      obtain ⟨V2, rfl⟩ := hVv24
      refine Ps.one (k := 25) (d := some 57) rfl rfl (by kernel_rfl) (TurnS.call (V := fun v => v = .bool true) ?fwg92_118 ?awg92_118 [15, 18, 24] (by kernel_rfl) (by rfl) (fun w9 => ?hwg92_118) (fun L9 m9 w9 hSh hAt hDn hS => ?cwg92_118)) (fun v25 hVv25 => ?rwg92_118)
      case hwg92_118 => go_simp; refine ⟨?_, ?_⟩ <;> rfl
      case cwg92_118 =>
       obtain ⟨hT, V3, hv, hr⟩ := SeqN.at_ [15, 18, 24] [] hSh hAt hDn (by kernel_rfl) hS
       obtain rfl : V2 = V3 := by have h9 : Value.agg V2 = .agg V3 := (hAt 24 (by simp)).2.symm.trans hv; injection h9
       obtain ⟨A7, n7, c7, B7, m7, d7, hV7, hr7⟩ := LQC_rq hr
       subst hV7
       refine (same_any AllB AllB X X A5 n5 c5 B5 m5 d5 A7 n7 c7 B7 m7 d7 w9 (Lay.rd_below KRX.out.1 hT) (Lay.rd_below KRX.out.2.2.1 hT) hr7.1 hr7.2.2.1 KNN.out.1 KNN.out.2).mono ?_
       rintro e w8 ⟨rfl, q8⟩
       exact ⟨_, rfl, by rw [decide_eq_true rfl], SeqN.set_ [15, 18, 24] [] hSh hAt hDn (by kernel_rfl) (by decide) (by decide) (bl_ca hT q8)⟩
      try simp only [Act.put, sA, sZ, sS]
      subst hVv25
      refine Pz 26 (some 58) (.bool (false)) rfl rfl (by exact StepS.pure (SeqN.pass (by decide)) rfl fun _ => rfl) ?_
      try simp only [Act.put, sA, sZ, sS]
      refine Pz 27 (some 59) (.bool (false)) rfl rfl (by exact StepS.pure (SeqN.pass (by decide)) rfl fun _ => rfl) ?_
      try simp only [Act.put, sA, sZ, sS]
      refine Ps.done (by kernel_rfl) (fun wg92 hS => ?_) _
      have HWW := Lib.hid (show Below wv.heap.size wv wg92 from SeqN.fin (by rfl) hS)
      clear hS
      obtain ⟨wx, rfl⟩ : ∃ x, x = wg92 := ⟨_, rfl⟩
      have KVx := Lib.hid (KV.out.ca HWW.out)
      have KXx := Lib.hid (KX.out.ca HWW.out)
      have KRx := Lib.hid (KRX.out.below HWW.out)
      have KQx := Lib.hid (bl_ca KQ.out HWW.out)
      have z0 := KVx.out.cell 0
      have z1 := KVx.out.cell 1
      have z2 := KVx.out.cell 2
      have KP := Lib.hid (print_any AllB X A5 n5 c5 B5 m5 d5 wx KRx.out.1 KRx.out.2.2.1 HQC.out KNN.out.1 KNN.out.2 HQL.out (KT.out.below HWW.out) HQR2.out)
      rw [← HOK.out] at KP
      obtain ⟨PS, hPS⟩ : ∃ P, P = bS (prQ X) := ⟨_, rfl⟩
      have HPS := Lib.hid hPS
      clear hPS
      have KPP := Lib.hid (show Calls Tryz.prog 21 #[.agg #[.slice A5 n5 c5, .slice B5 m5 d5, .int .i64 X.lim]] wx fun e w' => e = .returned (.tuple #[.string PS, .int .i64 0]) ∧ Below wx.heap.size wx w' from by rw [HPS.out]; exact KP.out)
      clear KP
      go_wp2_with fail
      refine KPP.out.mono ?_
      rintro e wz ⟨rfl, qz⟩
      have KVz := Lib.hid (KVx.out.ca qz)
      have KXz := Lib.hid (KXx.out.ca qz)
      have KRZ := Lib.hid (KRx.out.below qz)
      have KQz := Lib.hid (bl_ca KQx.out qz)
      have KFZ := Lib.hid (fun w' (q : Below wz.heap.size wz w') => KFW.out w' (bl_ca HWW.out (bl_ca qz q)))
      have KRP := Lib.hid (show ∀ w', Below wz.heap.size wz w' → Calls Tryz.prog 22 #[.agg #[.slice A5 n5 c5, .slice B5 m5 d5, .int .i64 X.lim]] w' fun e w8 => e = .returned (.string PS) ∧ Below w'.heap.size w' w8 from fun w' q => by
       rw [HPS.out]
       exact rqprint_any AllB X A5 n5 c5 B5 m5 d5 w' (Lay.rd_below KRZ.out.1 q) (Lay.rd_below KRZ.out.2.2.1 q) HOK.out.symm HQR2.out)
      clear qz z0 z1 z2 KPP KVx KXx KRx KQx
      go_upto_region 13 with fail
      refine wp_region_ps (S := SeqN [7, 26, 27] (fun z mm w' => match z with | 2 => Below wz.heap.size wz w' ∧ ∃ V : Array Value, mm 26 = .agg V ∧ LQC.rep w' AllB X V.toList | _ => Below wz.heap.size wz w')) (by kernel_rfl) ?spswg61 ?ppswg61
      case spswg61 =>
       exact SeqN.start (by decide) (Below.refl _ _).drew
      refine Pz 0 (some 65) (.bool (true)) rfl rfl (by exact StepS.pure (SeqN.pass (by decide)) rfl fun _ => rfl) ?_
      try simp only [Act.put, sA, sZ, sS]
      refine Pz 1 (some 66) (.bool (true)) rfl rfl (by exact StepS.pure (SeqN.pass (by decide)) rfl fun _ => rfl) ?_
      try simp only [Act.put, sA, sZ, sS]
      refine Pz 2 (some 67) (.int .i64 (0)) rfl rfl (by exact StepS.pure (SeqN.pass (by decide)) rfl fun _ => rfl) ?_
      try simp only [Act.put, sA, sZ, sS]
      refine Pz 3 (some 68) (.bool (false)) rfl rfl ?ywg61_65 ?rwg61_65
      case ywg61_65 =>
       refine StepS.pure (SeqN.pass (by decide)) (by rfl) (fun w9 => ?_)
       first | rfl | (go_simp; done) | (go_simp; rfl)
      try simp only [Act.put, sA, sZ, sS]
      refine Pz 4 (some 69) (.bool (false)) rfl rfl (by exact StepS.pure (SeqN.pass (by decide)) rfl fun _ => rfl) ?_
      try simp only [Act.put, sA, sZ, sS]
      refine Pz 5 (some 70) (.string PS) rfl rfl (by exact StepS.pure (SeqN.pass (by decide)) rfl fun _ => rfl) ?_
      try simp only [Act.put, sA, sZ, sS]
      refine Pz 6 (some 71) (.agg #[.slice A5 n5 c5, .slice B5 m5 d5, .int .i64 (X.lim)]) rfl rfl ?ywg61_68 ?rwg61_68
      case ywg61_68 =>
       refine StepS.read [] (by kernel_rfl) (SeqN.pass (by decide)) (by rfl) (fun L9 m9 w9 hSh hAt hDn hS => ?_)
       have hT : Below wz.heap.size wz w9 := SeqN.lt (ks := [7, 26, 27]) (k := 27) (by simp) (reach_no hSh (f := 30) (j := 27) (by kernel_rfl) hDn) (fun z _ _ hz h => by match z, hz, h with | 0, _, h => exact h | 1, _, h => exact h | 2, _, h => exact h.1 | _ + 3, hz, _ => exact absurd hz (by simp)) hS
       have x0 : w9.cell? ⟨g8a, 0, none⟩ = some (.slice A5 n5 c5) := (KVz.out.ca hT).cell 0
       have x1 : w9.cell? ⟨g8a, 1, none⟩ = some (.slice B5 m5 d5) := (KVz.out.ca hT).cell 1
       have x2 : w9.cell? ⟨g8a, 2, none⟩ = some (.int .i64 (X.lim)) := (KVz.out.ca hT).cell 2
       clear hT hS
       go_simp
       try rfl
      try simp only [Act.put, sA, sZ, sS]
      refine Ps.one (k := 7) (d := some 72) rfl rfl (by kernel_rfl) (TurnS.call (V := fun v => v = .string PS) ?fwg61_69 ?awg61_69 [] (by kernel_rfl) (by rfl) (fun w9 => ?hwg61_69) (fun L9 m9 w9 hSh hAt hDn hS => ?cwg61_69)) (fun v7 hVv7 => ?rwg61_69)
      case hwg61_69 => go_simp; refine ⟨?_, ?_⟩ <;> rfl
      case cwg61_69 =>
       have hT := SeqN.at_ (m0 := m9) (m1 := m9) [] [26, 27] hSh (fun d hd => by cases hd) hDn (by kernel_rfl) hS
       refine (KRP.out w9 hT).mono ?_
       rintro e w8 ⟨rfl, q8⟩
       exact ⟨_, rfl, rfl, SeqN.set_ (m0 := m9) (m1 := m9) [] [26, 27] hSh (fun d hd => by cases hd) hDn (by kernel_rfl) (by decide) (by decide) (bl_ca hT q8)⟩
      try simp only [Act.put, sA, sZ, sS]
      subst hVv7
      refine Pz 8 (some 73) (.bool (false)) rfl rfl ?ywg61_70 ?rwg61_70
      case ywg61_70 =>
       refine StepS.pure (SeqN.pass (by decide)) (by rfl) (fun w9 => ?_)
       first | rfl | (go_simp; done) | (go_simp; rfl)
      try simp only [Act.put, sA, sZ, sS]
      refine Pz 9 (some 74) (.bool (false)) rfl rfl (by exact StepS.pure (SeqN.pass (by decide)) rfl fun _ => rfl) ?_
      try simp only [Act.put, sA, sZ, sS]
      refine Pz 10 (some 75) (.bool (false)) rfl rfl (by exact StepS.pure (SeqN.pass (by decide)) rfl fun _ => rfl) ?_
      try simp only [Act.put, sA, sZ, sS]
      refine Pz 11 (some 76) (.bool (false)) rfl rfl (by exact StepS.pure (SeqN.pass (by decide)) rfl fun _ => rfl) ?_
      try simp only [Act.put, sA, sZ, sS]
      refine Pz 12 (some 77) (.bool (true)) rfl rfl (by exact StepS.pure (SeqN.pass (by decide)) rfl fun _ => rfl) ?_
      try simp only [Act.put, sA, sZ, sS]
      refine Pz 13 (some 78) (.bool (false)) rfl rfl (by exact StepS.pure (SeqN.pass (by decide)) rfl fun _ => rfl) ?_
      try simp only [Act.put, sA, sZ, sS]
      refine Pz 14 (some 79) (.bool (false)) rfl rfl (by exact StepS.pure (SeqN.pass (by decide)) rfl fun _ => rfl) ?_
      try simp only [Act.put, sA, sZ, sS]
      refine Pz 15 (some 80) undef rfl rfl (by  exact StepS.skip (SeqN.pass (by decide)) rfl) ?_
      try simp only [Act.put, sA, sZ, sS]
      refine Pz 16 (some 81) undef rfl rfl (by  exact StepS.skip (SeqN.pass (by decide)) rfl) ?_
      try simp only [Act.put, sA, sZ, sS]
      refine Pz 17 (some 82) undef rfl rfl (by  exact StepS.skip (SeqN.pass (by decide)) rfl) ?_
      try simp only [Act.put, sA, sZ, sS]
      refine Pz 18 (some 83) undef rfl rfl (by  exact StepS.skip (SeqN.pass (by decide)) rfl) ?_
      try simp only [Act.put, sA, sZ, sS]
      refine Pz 19 (some 84) undef rfl rfl (by  exact StepS.skip (SeqN.pass (by decide)) rfl) ?_
      try simp only [Act.put, sA, sZ, sS]
      refine Pz 20 (some 85) undef rfl rfl (by  exact StepS.skip (SeqN.pass (by decide)) rfl) ?_
      try simp only [Act.put, sA, sZ, sS]
      refine Pz 21 (some 86) (.bool (false)) rfl rfl (by exact StepS.pure (SeqN.pass (by decide)) rfl fun _ => rfl) ?_
      try simp only [Act.put, sA, sZ, sS]
      refine Pz 22 (some 87) (.bool (false)) rfl rfl (by exact StepS.pure (SeqN.pass (by decide)) rfl fun _ => rfl) ?_
      try simp only [Act.put, sA, sZ, sS]
      refine Pz 23 (some 88) (.bool (false)) rfl rfl (by exact StepS.pure (SeqN.pass (by decide)) rfl fun _ => rfl) ?_
      try simp only [Act.put, sA, sZ, sS]
      refine Pz 24 (some 89) (.agg #[.slice A5 n5 c5, .slice B5 m5 d5, .int .i64 (X.lim)]) rfl rfl ?ywg61_86 ?rwg61_86
      case ywg61_86 =>
       refine StepS.read [] (by kernel_rfl) (SeqN.pass (by decide)) (by rfl) (fun L9 m9 w9 hSh hAt hDn hS => ?_)
       have hT : Below wz.heap.size wz w9 := SeqN.lt (ks := [7, 26, 27]) (k := 27) (by simp) (reach_no hSh (f := 30) (j := 27) (by kernel_rfl) hDn) (fun z _ _ hz h => by match z, hz, h with | 0, _, h => exact h | 1, _, h => exact h | 2, _, h => exact h.1 | _ + 3, hz, _ => exact absurd hz (by simp)) hS
       have x0 : w9.cell? ⟨g8a, 0, none⟩ = some (.slice A5 n5 c5) := (KVz.out.ca hT).cell 0
       have x1 : w9.cell? ⟨g8a, 1, none⟩ = some (.slice B5 m5 d5) := (KVz.out.ca hT).cell 1
       have x2 : w9.cell? ⟨g8a, 2, none⟩ = some (.int .i64 (X.lim)) := (KVz.out.ca hT).cell 2
       clear hT hS
       go_simp
       try rfl
      try simp only [Act.put, sA, sZ, sS]
      refine Pz 25 (some 90) (.agg #[.slice B m mc, .slice K k kc, .int .i64 (x.lim)]) rfl rfl ?ywg61_87 ?rwg61_87
      case ywg61_87 =>
       refine StepS.read [] (by kernel_rfl) (SeqN.pass (by decide)) (by rfl) (fun L9 m9 w9 hSh hAt hDn hS => ?_)
       have hT : Below wz.heap.size wz w9 := SeqN.lt (ks := [7, 26, 27]) (k := 27) (by simp) (reach_no hSh (f := 30) (j := 27) (by kernel_rfl) hDn) (fun z _ _ hz h => by match z, hz, h with | 0, _, h => exact h | 1, _, h => exact h | 2, _, h => exact h.1 | _ + 3, hz, _ => exact absurd hz (by simp)) hS
       have x0 : w9.cell? ⟨gx, 0, none⟩ = some (.slice B m mc) := (KXz.out.ca hT).cell 0
       have x1 : w9.cell? ⟨gx, 1, none⟩ = some (.slice K k kc) := (KXz.out.ca hT).cell 1
       have x2 : w9.cell? ⟨gx, 2, none⟩ = some (.int .i64 (x.lim)) := (KXz.out.ca hT).cell 2
       clear hT hS
       go_simp
       try rfl
      try simp only [Act.put, sA, sZ, sS]
      refine Ps.one (k := 26) (d := some 91) rfl rfl (by kernel_rfl) (TurnS.call (V := fun v => ∃ V : Array Value, v = .agg V) ?fwg61_88 ?awg61_88 [7] (by kernel_rfl) (by rfl) (fun w9 => ?hwg61_88) (fun L9 m9 w9 hSh hAt hDn hS => ?cwg61_88)) (fun v26 hVv26 => ?rwg61_88)
      case hwg61_88 => go_simp; refine ⟨?_, ?_⟩ <;> rfl
      case cwg61_88 =>
       have hT := SeqN.at_ [7] [27] hSh hAt hDn (by kernel_rfl) hS
       refine (KFZ.out w9 hT).mono ?_
       rintro e w8 ⟨V3, rfl, hr, q8⟩
       exact ⟨_, rfl, ⟨V3, rfl⟩, SeqN.set_ [7] [27] hSh hAt hDn (by kernel_rfl) (by decide) (by decide) ⟨bl_ca hT q8, V3, upd_same _ _ _, hr⟩⟩
      try simp only [Act.put, sA, sZ, sS]
      obtain ⟨V2, rfl⟩ := hVv26
      refine Ps.one (k := 27) (d := some 92) rfl rfl (by kernel_rfl) (TurnS.call (V := fun v => v = .bool true) ?fwg61_89 ?awg61_89 [7, 26] (by kernel_rfl) (by rfl) (fun w9 => ?hwg61_89) (fun L9 m9 w9 hSh hAt hDn hS => ?cwg61_89)) (fun v27 hVv27 => ?rwg61_89)
      case hwg61_89 => go_simp; refine ⟨?_, ?_⟩ <;> rfl
      case cwg61_89 =>
       obtain ⟨hT, V3, hv, hr⟩ := SeqN.at_ [7, 26] [] hSh hAt hDn (by kernel_rfl) hS
       obtain rfl : V2 = V3 := by have h9 : Value.agg V2 = .agg V3 := (hAt 26 (by simp)).2.symm.trans hv; injection h9
       obtain ⟨A7, n7, c7, B7, m7, d7, hV7, hr7⟩ := LQC_rq hr
       subst hV7
       refine (rsameq_any AllB AllB X X A5 n5 c5 B5 m5 d5 A7 n7 c7 B7 m7 d7 w9 (Lay.rd_below KRZ.out.1 hT) (Lay.rd_below KRZ.out.2.2.1 hT) hr7.1 hr7.2.2.1 KNN.out.1 KNN.out.2).mono ?_
       rintro e w8 ⟨rfl, q8⟩
       exact ⟨_, rfl, by rw [decide_eq_true rfl], SeqN.set_ [7, 26] [] hSh hAt hDn (by kernel_rfl) (by decide) (by decide) (bl_ca hT q8)⟩
      try simp only [Act.put, sA, sZ, sS]
      subst hVv27
      refine Pz 28 (some 93) (.bool (false)) rfl rfl (by exact StepS.pure (SeqN.pass (by decide)) rfl fun _ => rfl) ?_
      try simp only [Act.put, sA, sZ, sS]
      refine Pz 29 (some 94) (.bool (false)) rfl rfl (by exact StepS.pure (SeqN.pass (by decide)) rfl fun _ => rfl) ?_
      try simp only [Act.put, sA, sZ, sS]
      refine Ps.done (by kernel_rfl) (fun wg61 hS => ?_) _
      have HWZ := Lib.hid (show Below wz.heap.size wz wg61 from SeqN.fin (by rfl) hS)
      clear hS
      obtain ⟨wq, rfl⟩ : ∃ x, x = wg61 := ⟨_, rfl⟩
      have HAq := Lib.hid (bl_ca KQz.out HWZ.out)
      go_wp2_with fail
      go_roundg (gk - 1)
      · exact ⟨i + 1, by omega, by omega, by go_num, HAq⟩
      · omega
  · obtain rfl : i = n := by omega
    have hi1 : (i : Int) ≤ (i : Int) := by omega
    go_wp2
    go_ret
    exact ⟨rfl, HQR.out⟩
theorem queries_walkF (A : Option Addr) (n c : Nat) (x : List QC) (w : World) (h : LQC.rd w AllB A n x) (hn : n ≤ 9223372036854775807) (hs : ∀ y ∈ x, AQ y) (hT : Tab w) :
 Calls Tryz.prog 4 #[.slice A n c] w fun e w' => e = .returned (.bool true) ∧ Below w.heap.size w w' := queries_walk x A n c w h hn hT hs
end Go.Proofs.YtoaggmldekejoaaGreatDoor
