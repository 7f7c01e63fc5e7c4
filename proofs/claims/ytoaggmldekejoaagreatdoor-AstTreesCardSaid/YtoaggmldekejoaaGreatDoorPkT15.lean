/- The law's short. Conditions: the nodes read so. -/
import Derived.Test.YtoaggmldekejoaaGreatDoorPkT14
import Derived.BigRegion
namespace Go.Proofs.YtoaggmldekejoaaGreatDoor
open Go.RowKit
def CellsB (x : Nd) (s tb nm : ByteArray) : Array Value := #[.int .i64 x.p.tag, .int .i64 x.l, .int .i64 x.r, .int .i64 x.p.k, .int .i64 x.p.n, .int .u64 x.p.u, .string s, .string tb, .string nm]
/-- a node whose texts are cut, one behind the other -/
def CutB (nt : TypeId) (g : Nat) (x : Nd) (s tb nm : ByteArray) (W : World) (j : Nat) (_ : Nat → Value) (w' : World) : Prop :=
  Blk w' g nt (CellsB x (if 1 ≤ j then s else x.p.s) (if 2 ≤ j then tb else x.p.tb) (if 3 ≤ j then nm else x.p.nm)) ∧ W.grownBy w' (some g)
def cutK (k : Nat) (s : ByteArray) : ByteArray := s.extract 0 (min s.size k)
theorem cutK_size (k : Nat) (s : ByteArray) : (cutK k s).size ≤ k := by unfold cutK; rw [ByteArray.size_extract]; omega
def cutNd (x : Nd) : Nd := { x with p := { x.p with s := cutK 60 x.p.s, tb := cutK 40 x.p.tb, nm := cutK 40 x.p.nm } }
def shortN (xs : List Nd) : List Nd := (xs.take 301).map cutNd
theorem short_sm {xs : List Nd} : ∀ x ∈ shortN xs, SmP x.p := by
  intro x hx
  obtain ⟨y, _, rfl⟩ := List.mem_map.1 hx
  exact ⟨by have := cutK_size 60 y.p.s; show (cutK 60 y.p.s).size ≤ _; omega, by have := cutK_size 40 y.p.tb; show (cutK 40 y.p.tb).size ≤ _; omega, by have := cutK_size 40 y.p.nm; show (cutK 40 y.p.nm).size ≤ _; omega⟩
theorem short_rg {xs : List Nd} (h : ∀ x ∈ xs, RgP x.p) : ∀ x ∈ shortN xs, RgP x.p := by
  intro x hx
  obtain ⟨y, hy, rfl⟩ := List.mem_map.1 hx
  exact h y (List.mem_of_mem_take hy)
theorem short_len (xs : List Nd) : (shortN xs).length ≤ 301 := by unfold shortN; rw [List.length_map, List.length_take]; omega
theorem short_step {xs : List Nd} {i : Nat} {x : Nd} (h : xs[i]? = some x) (hi : i ≤ 300) : shortN (xs.take (i + 1)) = shortN (xs.take i) ++ [cutNd x] := by
  unfold shortN
  rw [List.take_take, List.take_take, Nat.min_eq_right (by omega), Nat.min_eq_right (by omega), List.take_add_one, h, List.map_append]
  rfl
theorem short_over {xs : List Nd} {i : Nat} (hi : 300 < i) : shortN (xs.take (i + 1)) = shortN (xs.take i) := by
  unfold shortN
  rw [List.take_take, List.take_take, Nat.min_eq_left (by omega), Nat.min_eq_left (by omega)]
set_option maxRecDepth 100000 in
set_option maxHeartbeats 8000000 in
theorem short_any (F : Nat → Prop) (xs : List Nd) (A : Option Addr) (n c : Nat) (w : World) (h : LN.rd w F A n xs) (hn : n ≤ 9223372036854775807) (hS : ∀ x ∈ xs, SmP x.p) :
    Calls Tryz.prog 7 #[.agg #[.slice A n c]] w fun e w' => ∃ A' n' c', e = .returned (.agg #[.slice A' n' c']) ∧ LN.rd w' (fun b => w.heap.size ≤ b) A' n' (shortN xs) ∧ n' ≤ c' ∧ c' ≤ 9223372036854775807 ∧ Below w.heap.size w w' := by
  have HLEN := Lib.hid (Lay.rd_len h)
  have HS := Lib.hid hS
  have HQ1 := Lib.hid (bl_al (bl_al (bl_al (Below.refl w.heap.size w) (.cells #[.slice A n c] 26)) (.cells #[.slice none 0 0] 26)) (.cells #[.slice none 0 0] 26))
  have HB1 := Lib.hid (((Blk.new w 26 #[.slice A n c]).alloc (.cells #[.slice none 0 0] 26)).alloc (.cells #[.slice none 0 0] 26))
  have HB2 := Lib.hid (show Blk (((w.alloc (.cells #[.slice A n c] 26)).alloc (.cells #[.slice none 0 0] 26)).alloc (.cells #[.slice none 0 0] 26)) (w.heap.size + 1) 26 #[.slice none 0 0] from by
    have := (Blk.new (w.alloc (.cells #[.slice A n c] 26)) 26 #[.slice none 0 0]).alloc (.cells #[.slice none 0 0] 26)
    rwa [World.size_alloc] at this)
  have HB3 := Lib.hid (show Blk (((w.alloc (.cells #[.slice A n c] 26)).alloc (.cells #[.slice none 0 0] 26)).alloc (.cells #[.slice none 0 0] 26)) (w.heap.size + 1 + 1) 26 #[.slice none 0 0] from by
    have := Blk.new ((w.alloc (.cells #[.slice A n c] 26)).alloc (.cells #[.slice none 0 0] 26)) 26 #[.slice none 0 0]
    rwa [World.size_alloc, World.size_alloc] at this)
  have HRD := Lib.hid h
  clear h hS
  go_enter Tryz.func7, Tryz.ntmps7
  go_upto_region 2 with fail
  generalize ((w.alloc (.cells #[.slice A n c] 26)).alloc (.cells #[.slice none 0 0] 26)).alloc (.cells #[.slice none 0 0] 26) = w1 at *
  generalize hg3 : w.heap.size + 1 + 1 = g3 at *
  generalize hg2 : w.heap.size + 1 = g2 at *
  have l1 : w.heap.size < g2 := by omega
  have l2 : g2 < g3 := by omega
  have l3 := HB3.out.lt
  have x0 := HB1.out.cell 0
  simp at x0
  clear hg3 hg2
  go_wp2_with fail
  go_loopg [9] n (fun g a wr => ∃ (i : Nat) (Ao : Option Addr) (no co : Nat), i + g = n ∧ a = .int .i64 (i : Int) ∧ Hid (Blk wr g3 26 #[.slice Ao no co]) ∧ Hid (LN.own 57 wr w1.heap.size (fun _ => False) Ao no co (shortN (xs.take i))) ∧ Hid (Blk wr g2 26 #[.slice none 0 0]) ∧ Hid (Below w.heap.size w wr) ∧ Hid (w1.heap.size ≤ wr.heap.size))
  case atStart => exact ⟨0, none, 0, 0, by omega, rfl, HB3, Lib.hid (Lay.own_nil _ _), HB2, HQ1, Lib.hid (Nat.le_refl _)⟩
  case round =>
    obtain ⟨i, Ao, no, co, hig, rfl, HC3, HOO, HC2, HQB, HZ⟩ := hrel
    have hno : no ≤ 301 := by have h1 := Lay.own_len HOO.out; have h2 := short_len (xs.take i); omega
    have hz1 := HZ.out
    by_cases hlt : i < n
    · have hi1 : (i : Int) < (n : Int) := by omega
      have hi0 : 0 ≤ (i : Int) := by omega
      obtain ⟨p, x, hAe, hx, s1⟩ := LN_at (Lay.rd_below HRD.out HQB.out) hlt
      obtain rfl : A = some p := hAe
      have e0 := s1.c0
      have e1 := s1.c1
      have e2 := s1.c2
      have e3 := s1.c3
      have e4 := s1.c4
      have e5 := s1.c5
      have e6 := s1.c6
      have e7 := s1.c7
      have e8 := s1.c8
      have HX := Lib.hid hx
      have HBN := Lib.hid (Blk.new wr 57 (Nd.cells x))
      have HQ2 := Lib.hid (bl_al (Below.refl wr.heap.size wr) (.cells (Nd.cells x) 57))
      have hsm := HS.out x (List.mem_of_getElem? hx)
      clear hx s1
      go_upto_region 5 with fail
      clear e0 e1 e2 e3 e4 e5 e6 e7 e8
      generalize wr.alloc (.cells #[.int .i64 x.p.tag, .int .i64 x.l, .int .i64 x.r, .int .i64 x.p.k, .int .i64 x.p.n, .int .u64 x.p.u, .string x.p.s, .string x.p.tb, .string x.p.nm] 57) = w2 at *
      have hz2 := HQ2.out.size
      by_cases h300 : i ≤ 300
      · have h3 : (i : Int) ≤ 300 := by omega
        obtain ⟨a6, ha6⟩ : ∃ a6, a6 = min x.p.s.size 60 := ⟨_, rfl⟩
        obtain ⟨a7, ha7⟩ : ∃ a7, a7 = min x.p.tb.size 40 := ⟨_, rfl⟩
        obtain ⟨a8, ha8⟩ : ∃ a8, a8 = min x.p.nm.size 40 := ⟨_, rfl⟩
        have m6 : min (x.p.s.size : Int) 60 = (a6 : Int) := by omega
        have m7 : min (x.p.tb.size : Int) 40 = (a7 : Int) := by omega
        have m8 : min (x.p.nm.size : Int) 40 = (a8 : Int) := by omega
        have p6 : (a6 : Int) ≤ (x.p.s.size : Int) := by omega
        have p7 : (a7 : Int) ≤ (x.p.tb.size : Int) := by omega
        have p8 : (a8 : Int) ≤ (x.p.nm.size : Int) := by omega
        have q6 : 0 ≤ (a6 : Int) := by omega
        have q7 : 0 ≤ (a7 : Int) := by omega
        have q8 : 0 ≤ (a8 : Int) := by omega
        have HA6 := Lib.hid ha6
        have HA7 := Lib.hid ha7
        have HA8 := Lib.hid ha8
        have f6 := HBN.out.cell 6
        have f7 := HBN.out.cell 7
        have f8 := HBN.out.cell 8
        have z6 := HBN.out.frozen 6
        have z7 := HBN.out.frozen 7
        have z8 := HBN.out.frozen 8
        simp at f6 f7 f8
        clear ha6 ha7 ha8 h300 hsm
        go_upto_region 6 with fail
        refine wp_region_ps (S := SeqN [25, 27, 29] (CutB 57 wr.heap.size x (x.p.s.extract 0 a6) (x.p.tb.extract 0 a7) (x.p.nm.extract 0 a8) w2)) (by kernel_rfl) ?spswg1 ?ppswg1
        case spswg1 =>
          exact SeqN.start (by rfl) ⟨HBN.out, ⟨rfl, rfl, rfl, Nat.le_refl _, fun _ _ _ => rfl⟩⟩
        refine Ps.st (i := 0) (d := some 16) (u := (.pointer (some ⟨wr.heap.size, 3, none⟩))) rfl rfl (by exact StepS.pure (SeqN.pass (by decide)) rfl fun _ => rfl) ?_
        try simp only [Act.put, sA, sZ, sS]
        refine Ps.st (i := 1) (d := some 17) (u := (.pointer (some ⟨wr.heap.size, 6, none⟩))) rfl rfl (by exact StepS.pure (SeqN.pass (by decide)) rfl fun _ => rfl) ?_
        try simp only [Act.put, sA, sZ, sS]
        refine Ps.st (i := 2) (d := some 18) (u := (.string x.p.s)) rfl rfl ?ywg1_4 ?rwg1_4
        case ywg1_4 =>
          refine StepS.read [] (by kernel_rfl) (SeqN.pass (by decide)) (by rfl) (fun L9 m9 w9 hSh hAt hDn hS => ?_)
          have hB := SeqN.zero (post_no (post := [25, 27, 29]) hSh hDn (by kernel_rfl)) hS
          have x0 : w9.cell? ⟨wr.heap.size, 6, none⟩ = some (.string x.p.s) := hB.1.cell 6
          clear hB hS
          go_simp
          try rfl
        try simp only [Act.put, sA, sZ, sS]
        refine Ps.st (i := 3) (d := some 19) (u := (.pointer (some ⟨wr.heap.size, 3, none⟩))) rfl rfl (by exact StepS.pure (SeqN.pass (by decide)) rfl fun _ => rfl) ?_
        try simp only [Act.put, sA, sZ, sS]
        refine Ps.st (i := 4) (d := some 20) (u := (.pointer (some ⟨wr.heap.size, 6, none⟩))) rfl rfl (by exact StepS.pure (SeqN.pass (by decide)) rfl fun _ => rfl) ?_
        try simp only [Act.put, sA, sZ, sS]
        refine Ps.st (i := 5) (d := some 21) (u := (.string x.p.s)) rfl rfl ?ywg1_7 ?rwg1_7
        case ywg1_7 =>
          refine StepS.read [] (by kernel_rfl) (SeqN.pass (by decide)) (by rfl) (fun L9 m9 w9 hSh hAt hDn hS => ?_)
          have hB := SeqN.zero (post_no (post := [25, 27, 29]) hSh hDn (by kernel_rfl)) hS
          have x0 : w9.cell? ⟨wr.heap.size, 6, none⟩ = some (.string x.p.s) := hB.1.cell 6
          clear hB hS
          go_simp
          try rfl
        try simp only [Act.put, sA, sZ, sS]
        refine Ps.st (i := 6) (d := some 22) (u := (.int .i64 ((x.p.s.size : Int)))) rfl rfl (by exact StepS.pure (SeqN.pass (by decide)) rfl fun _ => by first | rfl | (go_simp; done) | (go_simp; rfl)) ?_
        try simp only [Act.put, sA, sZ, sS]
        refine Ps.st (i := 7) (d := some 23) (u := (.int .i64 ((a6 : Int)))) rfl rfl ?ywg1_9 ?rwg1_9
        case ywg1_9 =>
          refine StepS.pure (SeqN.pass (by decide)) (by rfl) (fun w9 => ?_)
          go_simp
        try simp only [Act.put, sA, sZ, sS]
        refine Ps.st (i := 8) (d := some 24) (u := (.string ((x.p.s.extract 0 a6)))) rfl rfl ?ywg1_10 ?rwg1_10
        case ywg1_10 =>
          refine StepS.pure (SeqN.pass (by decide)) (by rfl) (fun w9 => ?_)
          have hz9 := trivial
          first | rfl | (go_simp; done) | (go_simp; rfl)
        try simp only [Act.put, sA, sZ, sS]
        refine Ps.st (i := 9) (d := some 25) (u := (.pointer (some ⟨wr.heap.size, 7, none⟩))) rfl rfl (by exact StepS.pure (SeqN.pass (by decide)) rfl fun _ => rfl) ?_
        try simp only [Act.put, sA, sZ, sS]
        refine Ps.st (i := 10) (d := some 26) (u := (.string x.p.tb)) rfl rfl ?ywg1_12 ?rwg1_12
        case ywg1_12 =>
          refine StepS.read [] (by kernel_rfl) (SeqN.pass (by decide)) (by rfl) (fun L9 m9 w9 hSh hAt hDn hS => ?_)
          have hB := SeqN.zero (post_no (post := [25, 27, 29]) hSh hDn (by kernel_rfl)) hS
          have x0 : w9.cell? ⟨wr.heap.size, 7, none⟩ = some (.string x.p.tb) := hB.1.cell 7
          clear hB hS
          go_simp
          try rfl
        try simp only [Act.put, sA, sZ, sS]
        refine Ps.st (i := 11) (d := some 27) (u := (.pointer (some ⟨wr.heap.size, 7, none⟩))) rfl rfl (by exact StepS.pure (SeqN.pass (by decide)) rfl fun _ => rfl) ?_
        try simp only [Act.put, sA, sZ, sS]
        refine Ps.st (i := 12) (d := some 28) (u := (.string x.p.tb)) rfl rfl ?ywg1_14 ?rwg1_14
        case ywg1_14 =>
          refine StepS.read [] (by kernel_rfl) (SeqN.pass (by decide)) (by rfl) (fun L9 m9 w9 hSh hAt hDn hS => ?_)
          have hB := SeqN.zero (post_no (post := [25, 27, 29]) hSh hDn (by kernel_rfl)) hS
          have x0 : w9.cell? ⟨wr.heap.size, 7, none⟩ = some (.string x.p.tb) := hB.1.cell 7
          clear hB hS
          go_simp
          try rfl
        try simp only [Act.put, sA, sZ, sS]
        refine Ps.st (i := 13) (d := some 29) (u := (.int .i64 ((x.p.tb.size : Int)))) rfl rfl (by exact StepS.pure (SeqN.pass (by decide)) rfl fun _ => by first | rfl | (go_simp; done) | (go_simp; rfl)) ?_
        try simp only [Act.put, sA, sZ, sS]
        refine Ps.st (i := 14) (d := some 30) (u := (.int .i64 ((a7 : Int)))) rfl rfl ?ywg1_16 ?rwg1_16
        case ywg1_16 =>
          refine StepS.pure (SeqN.pass (by decide)) (by rfl) (fun w9 => ?_)
          go_simp
        try simp only [Act.put, sA, sZ, sS]
        refine Ps.st (i := 15) (d := some 31) (u := (.string ((x.p.tb.extract 0 a7)))) rfl rfl ?ywg1_17 ?rwg1_17
        case ywg1_17 =>
          refine StepS.pure (SeqN.pass (by decide)) (by rfl) (fun w9 => ?_)
          have hz9 := trivial
          first | rfl | (go_simp; done) | (go_simp; rfl)
        try simp only [Act.put, sA, sZ, sS]
        refine Ps.st (i := 16) (d := some 32) (u := (.pointer (some ⟨wr.heap.size, 8, none⟩))) rfl rfl (by exact StepS.pure (SeqN.pass (by decide)) rfl fun _ => rfl) ?_
        try simp only [Act.put, sA, sZ, sS]
        refine Ps.st (i := 17) (d := some 33) (u := (.string x.p.nm)) rfl rfl ?ywg1_19 ?rwg1_19
        case ywg1_19 =>
          refine StepS.read [] (by kernel_rfl) (SeqN.pass (by decide)) (by rfl) (fun L9 m9 w9 hSh hAt hDn hS => ?_)
          have hB := SeqN.zero (post_no (post := [25, 27, 29]) hSh hDn (by kernel_rfl)) hS
          have x0 : w9.cell? ⟨wr.heap.size, 8, none⟩ = some (.string x.p.nm) := hB.1.cell 8
          clear hB hS
          go_simp
          try rfl
        try simp only [Act.put, sA, sZ, sS]
        refine Ps.st (i := 18) (d := some 34) (u := (.pointer (some ⟨wr.heap.size, 8, none⟩))) rfl rfl (by exact StepS.pure (SeqN.pass (by decide)) rfl fun _ => rfl) ?_
        try simp only [Act.put, sA, sZ, sS]
        refine Ps.st (i := 19) (d := some 35) (u := (.string x.p.nm)) rfl rfl ?ywg1_21 ?rwg1_21
        case ywg1_21 =>
          refine StepS.read [] (by kernel_rfl) (SeqN.pass (by decide)) (by rfl) (fun L9 m9 w9 hSh hAt hDn hS => ?_)
          have hB := SeqN.zero (post_no (post := [25, 27, 29]) hSh hDn (by kernel_rfl)) hS
          have x0 : w9.cell? ⟨wr.heap.size, 8, none⟩ = some (.string x.p.nm) := hB.1.cell 8
          clear hB hS
          go_simp
          try rfl
        try simp only [Act.put, sA, sZ, sS]
        refine Ps.st (i := 20) (d := some 36) (u := (.int .i64 ((x.p.nm.size : Int)))) rfl rfl (by exact StepS.pure (SeqN.pass (by decide)) rfl fun _ => by first | rfl | (go_simp; done) | (go_simp; rfl)) ?_
        try simp only [Act.put, sA, sZ, sS]
        refine Ps.st (i := 21) (d := some 37) (u := (.int .i64 ((a8 : Int)))) rfl rfl ?ywg1_23 ?rwg1_23
        case ywg1_23 =>
          refine StepS.pure (SeqN.pass (by decide)) (by rfl) (fun w9 => ?_)
          go_simp
        try simp only [Act.put, sA, sZ, sS]
        refine Ps.st (i := 22) (d := some 38) (u := (.string ((x.p.nm.extract 0 a8)))) rfl rfl ?ywg1_24 ?rwg1_24
        case ywg1_24 =>
          refine StepS.pure (SeqN.pass (by decide)) (by rfl) (fun w9 => ?_)
          have hz9 := trivial
          first | rfl | (go_simp; done) | (go_simp; rfl)
        try simp only [Act.put, sA, sZ, sS]
        refine Ps.st (i := 23) (d := some 39) (u := (.pointer (some ⟨wr.heap.size, 3, none⟩))) rfl rfl (by exact StepS.pure (SeqN.pass (by decide)) rfl fun _ => rfl) ?_
        try simp only [Act.put, sA, sZ, sS]
        refine Ps.st (i := 24) (d := some 40) (u := (.pointer (some ⟨wr.heap.size, 6, none⟩))) rfl rfl (by exact StepS.pure (SeqN.pass (by decide)) rfl fun _ => rfl) ?_
        try simp only [Act.put, sA, sZ, sS]
        refine Ps.st (i := 25) (d := none) (u := undef) rfl rfl ?ywg1_27 ?rwg1_27
        case ywg1_27 =>
          refine StepS.store [] (by kernel_rfl) (by rfl) (fun L9 m9 w9 hSh hAt hDn hS => ?_)
          obtain ⟨hB, hg⟩ := SeqN.at_ (m0 := m9) (m1 := m9) [] [27, 29] hSh (fun d hd => by cases hd) hDn (by kernel_rfl) hS
          have x1 : w9.cell? ⟨wr.heap.size, 6, none⟩ = some (.string x.p.s) := hB.cell 6
          have fx : w9.frozen? ⟨wr.heap.size, 6, none⟩ = false := hB.frozen 6
          have hB2 := hB.set_ 6 (.string (x.p.s.extract 0 a6))
          refine ⟨w9.setCell ⟨wr.heap.size, 6, none⟩ (.string (x.p.s.extract 0 a6)), ?_, SeqN.set_ (m0 := m9) (m1 := m9) [] [27, 29] hSh (fun d hd => by cases hd) hDn (by kernel_rfl) (by decide) (by decide) ⟨hB2, only_setCell (p := ⟨wr.heap.size, 6, none⟩) hg (.inl rfl) _⟩⟩
          clear hS hB hB2 hg
          go_simp
        try simp only [Act.put]
        refine Ps.st (i := 26) (d := some 41) (u := (.pointer (some ⟨wr.heap.size, 7, none⟩))) rfl rfl (by exact StepS.pure (SeqN.pass (by decide)) rfl fun _ => rfl) ?_
        try simp only [Act.put, sA, sZ, sS]
        refine Ps.st (i := 27) (d := none) (u := undef) rfl rfl ?ywg1_29 ?rwg1_29
        case ywg1_29 =>
          refine StepS.store [25] (by kernel_rfl) (by rfl) (fun L9 m9 w9 hSh hAt hDn hS => ?_)
          obtain ⟨hB, hg⟩ := SeqN.at_ [25] [29] hSh hAt hDn (by kernel_rfl) hS
          have x1 : w9.cell? ⟨wr.heap.size, 7, none⟩ = some (.string x.p.tb) := hB.cell 7
          have fx : w9.frozen? ⟨wr.heap.size, 7, none⟩ = false := hB.frozen 7
          have hB2 := hB.set_ 7 (.string (x.p.tb.extract 0 a7))
          refine ⟨w9.setCell ⟨wr.heap.size, 7, none⟩ (.string (x.p.tb.extract 0 a7)), ?_, SeqN.set_ [25] [29] hSh hAt hDn (by kernel_rfl) (by decide) (by decide) ⟨hB2, only_setCell (p := ⟨wr.heap.size, 7, none⟩) hg (.inl rfl) _⟩⟩
          clear hS hB hB2 hg
          go_simp
        try simp only [Act.put]
        refine Ps.st (i := 28) (d := some 42) (u := (.pointer (some ⟨wr.heap.size, 8, none⟩))) rfl rfl (by exact StepS.pure (SeqN.pass (by decide)) rfl fun _ => rfl) ?_
        try simp only [Act.put, sA, sZ, sS]
        refine Ps.st (i := 29) (d := none) (u := undef) rfl rfl ?ywg1_31 ?rwg1_31
        case ywg1_31 =>
          refine StepS.store [25, 27] (by kernel_rfl) (by rfl) (fun L9 m9 w9 hSh hAt hDn hS => ?_)
          obtain ⟨hB, hg⟩ := SeqN.at_ [25, 27] [] hSh hAt hDn (by kernel_rfl) hS
          have x1 : w9.cell? ⟨wr.heap.size, 8, none⟩ = some (.string x.p.nm) := hB.cell 8
          have fx : w9.frozen? ⟨wr.heap.size, 8, none⟩ = false := hB.frozen 8
          have hB2 := hB.set_ 8 (.string (x.p.nm.extract 0 a8))
          refine ⟨w9.setCell ⟨wr.heap.size, 8, none⟩ (.string (x.p.nm.extract 0 a8)), ?_, SeqN.set_ [25, 27] [] hSh hAt hDn (by kernel_rfl) (by decide) (by decide) ⟨hB2, only_setCell (p := ⟨wr.heap.size, 8, none⟩) hg (.inl rfl) _⟩⟩
          clear hS hB hB2 hg
          go_simp
        try simp only [Act.put]
        refine Ps.done (by kernel_rfl) (fun wg1 hS => ?_) _
        obtain ⟨hB3, hg3⟩ := SeqN.fin (by rfl) hS
        clear hS
        have HBX := Lib.hid hB3
        have HGX := Lib.hid hg3
        clear hB3 hg3
        obtain ⟨w3, rfl⟩ : ∃ x, x = wg1 := ⟨_, rfl⟩
        have HBY := Lib.hid (show Blk w3 wr.heap.size 57 (Nd.cells (cutNd x)) from by
          have h1 : cutK 60 x.p.s = x.p.s.extract 0 a6 := by unfold cutK; rw [HA6.out]
          have h2 : cutK 40 x.p.tb = x.p.tb.extract 0 a7 := by unfold cutK; rw [HA7.out]
          have h3 : cutK 40 x.p.nm = x.p.nm.extract 0 a8 := by unfold cutK; rw [HA8.out]
          have h9 : CellsB x (x.p.s.extract 0 a6) (x.p.tb.extract 0 a7) (x.p.nm.extract 0 a8) = Nd.cells (cutNd x) := by rw [← h1, ← h2, ← h3]; rfl
          rw [← h9]
          exact HBX.out)
        have HY3 := Lib.hid ((HC3.out.ca HQ2.out).apart HGX.out (by omega))
        have HY2 := Lib.hid ((HC2.out.ca HQ2.out).apart HGX.out (by omega))
        have HYO := Lib.hid (own_via HOO.out HQ2.out HGX.out (Nat.le_refl _))
        have HYQ := Lib.hid ((bl_ca HQB.out HQ2.out).grown HGX.out (bl_ca HQB.out HQ2.out).size (fun k e => by injection e with e; have := HQB.out.size; omega))
        have hz3 := HGX.out.size
        have HST := Lib.hid (short_step HX.out (show i ≤ 300 by omega))
        obtain ⟨y, hy⟩ : ∃ y, y = cutNd x := ⟨_, rfl⟩
        rw [← hy] at HBY HST
        clear hy z6 z7 z8 f6 f7 f8 m6 m7 m8 p6 p7 p8 q6 q7 q8 HBX
        have r0 := HBY.out.cell 0
        have r1 := HBY.out.cell 1
        have r2 := HBY.out.cell 2
        have r3 := HBY.out.cell 3
        have r4 := HBY.out.cell 4
        have r5 := HBY.out.cell 5
        have r6 := HBY.out.cell 6
        have r7 := HBY.out.cell 7
        have r8 := HBY.out.cell 8
        have x3 : w3.cell? ⟨g3, 0, none⟩ = some (.slice Ao no co) := HY3.out.cell 0
        simp at r0 r1 r2 r3 r4 r5 r6 r7 r8
        have HBZ := Lib.hid (Blk.new w3 57 (Nd.cells y))
        have HQZ := Lib.hid (bl_al (Below.refl w3.heap.size w3) (.cells (Nd.cells y) 57))
        have HOZ := Lib.hid (Lay.own_below HYO.out HQZ.out)
        have hzy := HQZ.out.size
        have hzz : w1.heap.size ≤ w3.heap.size := by omega
        have HDZ := Lib.hid (HY3.out.ca HQZ.out)
        have HDZ2 := Lib.hid (HY2.out.ca HQZ.out)
        have HZQ := Lib.hid (bl_ca HYQ.out HQZ.out)
        go_wp2_with (at_builtin; refine wpList_appG (L := LN) (e := 57) rfl (.tmp 44) (.tmp 46) 24 rfl (.agg #[.int .i64 0, .int .i64 0, .int .i64 0, .int .i64 0, .int .i64 0, .int .u64 0, .string ⟨#[]⟩, .string ⟨#[]⟩, .string ⟨#[]⟩]) 9 96 Tryz.underlying24 infoN rfl rfl (by decide) w1.heap.size (fun _ => False) Ao no co (shortN (xs.take i)) w3.heap.size 1 57 (Nd.cells y) y rfl rfl rfl HOZ.out HBZ.out rfl (fun b h => h.elim) (by omega) (by unfold maxLen; omega) (Nat.le_trans hzz hzy) ?_; intro A9 c9 w9 o9 g9 k9; have HO9 := Lib.hid o9; have HG9 := Lib.hid g9; have HN3 := Lib.hid (show Blk w9 g3 26 #[.slice Ao no co] from (g9.block g3 HDZ.out.lt (fun e => by have := (Lay.own_base HOZ.out g3 e.symm).1; omega)).trans HDZ.out); have n6 : w9.cell? ⟨g3, 0, none⟩ = some (.slice Ao no co) := HN3.out.cell 0; have n7 := HN3.out.frozen 0; clear o9 g9 k9)
        have hgr9 : w9.grownBy (w9.setCell ⟨g3, 0, none⟩ (.slice A9 (no + 1) c9)) (some g3) := only_setCell (p := ⟨g3, 0, none⟩) (World.grownBy.refl w9 _) (.inl rfl) _
        have q3 : Blk (w9.setCell ⟨g3, 0, none⟩ (.slice A9 (no + 1) c9)) g3 26 #[.slice A9 (no + 1) c9] := HN3.out.set_ 0 _
        have q2 : Blk (w9.setCell ⟨g3, 0, none⟩ (.slice A9 (no + 1) c9)) g2 26 #[.slice none 0 0] := Blk.apart (show Blk w9 g2 26 #[.slice none 0 0] from (HG9.out.block g2 HDZ2.out.lt (fun e => by have := (Lay.own_base HOZ.out g2 e.symm).1; omega)).trans HDZ2.out) hgr9 (by omega)
        have q9 := Lay.own_same (w' := w9.setCell ⟨g3, 0, none⟩ (.slice A9 (no + 1) c9)) HO9.out (fun k hk => Below.heap_setCell _ _ _ _ (by have := (Lay.own_base HO9.out k hk).1; show k ≠ g3; omega)) (fun _ h => h.elim)
        have qb : Below w.heap.size w (w9.setCell ⟨g3, 0, none⟩ (.slice A9 (no + 1) c9)) := bl_set (HZQ.out.grown HG9.out HZQ.out.size (fun k e => by have := (Lay.own_base HOZ.out k e).1; omega)) (p := ⟨g3, 0, none⟩) (by show _ ≤ g3; omega) _
        have qz : w1.heap.size ≤ (w9.setCell ⟨g3, 0, none⟩ (.slice A9 (no + 1) c9)).heap.size := Nat.le_trans (Nat.le_trans hzz hzy) (Nat.le_trans HG9.out.size hgr9.size)
        rw [← HST.out] at q9
        clear hgr9 r0 r1 r2 r3 r4 r5 r6 r7 r8 x3 n6 n7
        have HP3 := Lib.hid q3
        have HP2 := Lib.hid q2
        have HP9 := Lib.hid q9
        have HPB := Lib.hid qb
        have HPZ := Lib.hid qz
        clear q3 q2 q9 qb qz
        generalize w9.setCell ⟨g3, 0, none⟩ (.slice A9 (no + 1) c9) = w10 at *
        go_roundg (gk - 1)
        · exact ⟨i + 1, A9, no + 1, c9, by omega, by go_num, HP3, HP9, HP2, HPB, HPZ⟩
        · omega
      · have h3 : 300 < (i : Int) := by omega
        have HSO := Lib.hid (short_over (xs := xs) (show 300 < i by omega))
        have HG3 := Lib.hid (HC3.out.ca HQ2.out)
        have HG2 := Lib.hid (HC2.out.ca HQ2.out)
        have HGO := Lib.hid (Lay.own_below HOO.out HQ2.out)
        have HGQ := Lib.hid (bl_ca HQB.out HQ2.out)
        clear h300 hsm
        go_wp2
        go_roundg (gk - 1)
        · exact ⟨i + 1, Ao, no, co, by omega, by go_num, HG3, by rw [HSO.out]; exact HGO, HG2, HGQ, Lib.hid (by omega)⟩
        · omega
    · obtain rfl : i = n := by omega
      have hi1 : (i : Int) ≤ (i : Int) := by omega
      have HT := Lib.hid (show xs.take i = xs from List.take_of_length_le (by rw [HLEN.out]; exact Nat.le_refl _))
      rw [HT.out] at HOO
      have hcap := Lay.own_caps HOO.out
      have x3 : wr.cell? ⟨g3, 0, none⟩ = some (.slice Ao no co) := HC3.out.cell 0
      have y0 : wr.cell? ⟨g2, 0, none⟩ = some (.slice none 0 0) := HC2.out.cell 0
      have y1 := HC2.out.frozen 0
      go_wp2
      exact bodyPost_ret (res1 Tryz.results7 rfl (HC2.out.set_ 0 (.slice Ao no co)) Tryz.underlying26 rfl treeI) rfl ⟨Ao, no, co, rfl, Lay.rd_weak (fun b hb _ => Nat.le_trans HQ1.out.size hb) (Lay.rd_keep (fun b hb _ => Below.heap_setCell _ _ _ _ (by have h7 : w1.heap.size ≤ b := hb; show b ≠ g2; omega)) (Lay.own_rd2 (F := fun b => w1.heap.size ≤ b) HOO.out (fun b e => (Lay.own_base HOO.out b e).1) (fun b h _ => h.elim))), hcap.1, hcap.2, bl_set HQB.out (p := ⟨g2, 0, none⟩) (by show _ ≤ g2; omega) _⟩
end Go.Proofs.YtoaggmldekejoaaGreatDoor
/- What the law's wakes comes to, in plain Lean. Conditions: none. -/
namespace Go.Proofs.YtoaggmldekejoaaGreatDoor
def p1 : Py := ⟨1, 2, 1, 0, eB, eB, eB⟩
def pA (b : UInt8) : Py := ⟨2, 0, 0, 0, eB, eB, bS [b]⟩
def N1 : List Nd := [⟨p1, -1, -1⟩]
def NA (b : UInt8) : List Nd := [⟨pA b, -1, -1⟩]
def N2 : List Nd := [⟨pA 97, -1, -1⟩, ⟨p1, -1, -1⟩, ⟨zP 12, 0, 1⟩]
def N3 : List Nd := [⟨pA 97, -1, -1⟩, ⟨p1, -1, -1⟩, ⟨zP 12, 0, 1⟩, ⟨pA 98, -1, -1⟩, ⟨zP 16, 2, 3⟩]
def T3 : Tr := .two (zP 16) (.two (zP 12) (.leaf (pA 97)) (.leaf p1)) (.leaf (pA 98))
theorem w1E : madeE p1 [] = 0 := by decide +kernel
theorem w1R : madeR p1 [] = N1 := by decide +kernel
theorem w2E : madeE (zP 12) [NA 97, N1] = 0 := by decide +kernel
theorem w2R : madeR (zP 12) [NA 97, N1] = N2 := by decide +kernel
theorem w3E : madeE (zP 16) [N2, NA 98] = 0 := by decide +kernel
theorem w3R : madeR (zP 16) [N2, NA 98] = N3 := by decide +kernel
theorem w3T : treeF cntB N3 = some T3 := rfl
theorem w3O : okF N3 = true := okF_of w3T
theorem w3D : depF N3 = 3 := by rw [depF_of w3T]; rfl
theorem w3P : prT T3 = [40, 97, 32, 43, 32, 49, 41, 32, 61, 32, 98] := by
  have h1 : Lib.decDigits 1 = [49] := by rw [Lib.decDigits]; rfl
  have h2 : leafU p1 = [49] := by
    show Lib.decDigits (1 : Int).toNat = [49]
    exact h1
  unfold T3
  rw [pr_two, par_bare (show bareT (.leaf (pA 98)) = true from rfl), par_not (show bareT (.two (zP 12) (.leaf (pA 97)) (.leaf p1)) = false from rfl), pr_two, par_bare (show bareT (.leaf (pA 97)) = true from rfl), par_bare (show bareT (.leaf p1) = true from rfl), pr_leaf, pr_leaf, pr_leaf, h2]
  rfl
end Go.Proofs.YtoaggmldekejoaaGreatDoor
/- Regions that draw, with a variable made beside two calls. Conditions: none. -/
namespace Go.Proofs.YtoaggmldekejoaaGreatDoor
open Go.RowKit
def WtA (B : Option Nat → Nat → (Nat → Value) → World → Prop) : Array Bool → (Nat → Value) → World → Prop := fun L m w =>
  ∃ al : Option Nat, (Dn L 6 = true → ∃ g, al = some g ∧ m 6 = .pointer (some ⟨g, 0, none⟩)) ∧ (Dn L 6 = false → al = none) ∧ SeqN [0, 2, 7] (B al) L m w
section
variable {B : Option Nat → Nat → (Nat → Value) → World → Prop} {L : Array Bool} {m m' : Nat → Value} {w w' : World}
theorem WtA.start {n : Nat} (hn : 7 < n) (h : B none 0 m w) : WtA B (Array.replicate n false) m w := by
  refine ⟨none, fun e => ?_, fun _ => rfl, SeqN.start (by simp; omega) h⟩
  unfold Dn at e
  rw [Array.getD_eq_getD_getElem?, Array.getElem?_replicate, if_pos (by omega)] at e
  cases e
theorem WtA.pass {i : Nat} (h8 : (6 != i) = true) (h : ([0, 2, 7].all fun k => k != i) = true) : Pass (WtA B) i := fun L m w hS => by
  obtain ⟨al, h1, h2, hS⟩ := hS
  have e : Dn (L.setIfInBounds i true) 6 = Dn L 6 := dn_ne (by simpa using h8)
  exact ⟨al, by rw [e]; exact h1, by rw [e]; exact h2, SeqN.pass h L m w hS⟩
/-- whatever is done -/
theorem WtA.any {T : World → Prop} (t : ∀ al j m w, B al j m w → T w) (hS : WtA B L m w) : T w := by
  obtain ⟨al, _, _, hS⟩ := hS
  exact t _ _ _ _ hS
theorem WtA.lt {T : World → Prop} (h9 : Dn L 7 = false) (t : ∀ al j m w, j < 3 → B al j m w → T w) (hS : WtA B L m w) : T w := by
  obtain ⟨al, _, _, hS⟩ := hS
  unfold SeqN cntD cntD cntD cntD at hS
  rw [h9] at hS
  refine t _ _ _ _ ?_ hS
  cases Dn L 0 <;> cases Dn L 2 <;> simp
/-- the variable is made -/
theorem WtA.made {v : Value} {g : Nat} (h8 : Dn L 6 = false) (h9 : Dn L 7 = false) (hv : v = .pointer (some ⟨g, 0, none⟩)) (t : ∀ j, j < 3 → B none j m w → B (some g) j (upd m 6 v) w') (hS : WtA B L m w) : WtA B (L.setIfInBounds 6 true) (upd m 6 v) w' := by
  obtain ⟨al, _, h2, hS⟩ := hS
  obtain rfl := h2 h8
  refine ⟨some g, fun _ => ⟨g, rfl, by rw [upd_same]; exact hv⟩, fun e => ?_, ?_⟩
  · rw [dn_eq] at e
    cases e
  · have hS2 := SeqN.pass (i := 6) (by decide) L m w hS
    unfold SeqN cntD cntD cntD cntD at *
    rw [dn_ne (by decide), dn_ne (by decide), dn_ne (by decide), h9] at *
    refine t _ ?_ hS2
    cases Dn L 0 <;> cases Dn L 2 <;> simp
theorem WtA.on2 (h2 : Dn L 0 = false) (h3 : Dn L 2 = false) (h9 : Dn L 7 = false) (hS : WtA B L m w) : ∃ al, B al 0 m w ∧ ∀ v w', B al 1 (upd m 0 v) w' → WtA B (L.setIfInBounds 0 true) (upd m 0 v) w' := by
  obtain ⟨al, a1, a2, hS⟩ := hS
  unfold SeqN cntD cntD cntD cntD at hS
  rw [h2, h3, h9] at hS
  refine ⟨al, hS, fun v w' hB => ⟨al, ?_, ?_, ?_⟩⟩
  · rw [dn_ne (by decide), upd_ne (by decide)]; exact a1
  · rw [dn_ne (by decide)]; exact a2
  · unfold SeqN cntD cntD cntD cntD
    rw [dn_eq, dn_ne (by decide), dn_ne (by decide), h3, h9]
    exact hB
theorem WtA.on3 (h2 : Dn L 0 = true) (h3 : Dn L 2 = false) (h9 : Dn L 7 = false) (hS : WtA B L m w) : ∃ al, B al 1 m w ∧ ∀ v w', B al 2 (upd m 2 v) w' → WtA B (L.setIfInBounds 2 true) (upd m 2 v) w' := by
  obtain ⟨al, a1, a2, hS⟩ := hS
  unfold SeqN cntD cntD cntD cntD at hS
  rw [h2, h3, h9] at hS
  refine ⟨al, hS, fun v w' hB => ⟨al, ?_, ?_, ?_⟩⟩
  · rw [dn_ne (by decide), upd_ne (by decide)]; exact a1
  · rw [dn_ne (by decide)]; exact a2
  · unfold SeqN cntD cntD cntD cntD
    rw [dn_eq, dn_ne (by decide), dn_ne (by decide), h2, h9]
    exact hB
theorem WtA.on9 (h2 : Dn L 0 = true) (h3 : Dn L 2 = true) (h8 : Dn L 6 = true) (h9 : Dn L 7 = false) (hS : WtA B L m w) : ∃ g, m 6 = .pointer (some ⟨g, 0, none⟩) ∧ B (some g) 2 m w ∧ ∀ w', B (some g) 3 m w' → WtA B (L.setIfInBounds 7 true) m w' := by
  obtain ⟨al, a1, a2, hS⟩ := hS
  obtain ⟨g, rfl, hm⟩ := a1 h8
  unfold SeqN cntD cntD cntD cntD at hS
  rw [h2, h3, h9] at hS
  refine ⟨g, hm, hS, fun w' hB => ⟨some g, ?_, ?_, ?_⟩⟩
  · exact fun _ => ⟨g, rfl, hm⟩
  · rw [dn_ne (by decide)]; exact a2
  · unfold SeqN cntD cntD cntD cntD
    rw [dn_eq, dn_ne (by decide), dn_ne (by decide), h2, h3]
    exact hB
theorem WtA.fin (h8 : Dn L 6 = true) (h : ([0, 2, 7].all fun x => Dn L x) = true) (hS : WtA B L m w) : ∃ g, m 6 = .pointer (some ⟨g, 0, none⟩) ∧ B (some g) 3 m w := by
  obtain ⟨al, a1, _, hS⟩ := hS
  obtain ⟨g, rfl, hm⟩ := a1 h8
  exact ⟨g, hm, SeqN.fin h hS⟩
end
def WtB (B : Option Nat → Nat → (Nat → Value) → World → Prop) : Array Bool → (Nat → Value) → World → Prop := fun L m w =>
  ∃ al : Option Nat, (Dn L 6 = true → ∃ g, al = some g ∧ m 6 = .pointer (some ⟨g, 0, none⟩)) ∧ (Dn L 6 = false → al = none) ∧ SeqN [1, 2, 7] (B al) L m w
section
variable {B : Option Nat → Nat → (Nat → Value) → World → Prop} {L : Array Bool} {m m' : Nat → Value} {w w' : World}
theorem WtB.start {n : Nat} (hn : 7 < n) (h : B none 0 m w) : WtB B (Array.replicate n false) m w := by
  refine ⟨none, fun e => ?_, fun _ => rfl, SeqN.start (by simp; omega) h⟩
  unfold Dn at e
  rw [Array.getD_eq_getD_getElem?, Array.getElem?_replicate, if_pos (by omega)] at e
  cases e
theorem WtB.pass {i : Nat} (h8 : (6 != i) = true) (h : ([1, 2, 7].all fun k => k != i) = true) : Pass (WtB B) i := fun L m w hS => by
  obtain ⟨al, h1, h2, hS⟩ := hS
  have e : Dn (L.setIfInBounds i true) 6 = Dn L 6 := dn_ne (by simpa using h8)
  exact ⟨al, by rw [e]; exact h1, by rw [e]; exact h2, SeqN.pass h L m w hS⟩
/-- whatever is done -/
theorem WtB.any {T : World → Prop} (t : ∀ al j m w, B al j m w → T w) (hS : WtB B L m w) : T w := by
  obtain ⟨al, _, _, hS⟩ := hS
  exact t _ _ _ _ hS
theorem WtB.lt {T : World → Prop} (h9 : Dn L 7 = false) (t : ∀ al j m w, j < 3 → B al j m w → T w) (hS : WtB B L m w) : T w := by
  obtain ⟨al, _, _, hS⟩ := hS
  unfold SeqN cntD cntD cntD cntD at hS
  rw [h9] at hS
  refine t _ _ _ _ ?_ hS
  cases Dn L 1 <;> cases Dn L 2 <;> simp
/-- the variable is made -/
theorem WtB.made {v : Value} {g : Nat} (h8 : Dn L 6 = false) (h9 : Dn L 7 = false) (hv : v = .pointer (some ⟨g, 0, none⟩)) (t : ∀ j, j < 3 → B none j m w → B (some g) j (upd m 6 v) w') (hS : WtB B L m w) : WtB B (L.setIfInBounds 6 true) (upd m 6 v) w' := by
  obtain ⟨al, _, h2, hS⟩ := hS
  obtain rfl := h2 h8
  refine ⟨some g, fun _ => ⟨g, rfl, by rw [upd_same]; exact hv⟩, fun e => ?_, ?_⟩
  · rw [dn_eq] at e
    cases e
  · have hS2 := SeqN.pass (i := 6) (by decide) L m w hS
    unfold SeqN cntD cntD cntD cntD at *
    rw [dn_ne (by decide), dn_ne (by decide), dn_ne (by decide), h9] at *
    refine t _ ?_ hS2
    cases Dn L 1 <;> cases Dn L 2 <;> simp
theorem WtB.on2 (h2 : Dn L 1 = false) (h3 : Dn L 2 = false) (h9 : Dn L 7 = false) (hS : WtB B L m w) : ∃ al, B al 0 m w ∧ ∀ v w', B al 1 (upd m 1 v) w' → WtB B (L.setIfInBounds 1 true) (upd m 1 v) w' := by
  obtain ⟨al, a1, a2, hS⟩ := hS
  unfold SeqN cntD cntD cntD cntD at hS
  rw [h2, h3, h9] at hS
  refine ⟨al, hS, fun v w' hB => ⟨al, ?_, ?_, ?_⟩⟩
  · rw [dn_ne (by decide), upd_ne (by decide)]; exact a1
  · rw [dn_ne (by decide)]; exact a2
  · unfold SeqN cntD cntD cntD cntD
    rw [dn_eq, dn_ne (by decide), dn_ne (by decide), h3, h9]
    exact hB
theorem WtB.on3 (h2 : Dn L 1 = true) (h3 : Dn L 2 = false) (h9 : Dn L 7 = false) (hS : WtB B L m w) : ∃ al, B al 1 m w ∧ ∀ v w', B al 2 (upd m 2 v) w' → WtB B (L.setIfInBounds 2 true) (upd m 2 v) w' := by
  obtain ⟨al, a1, a2, hS⟩ := hS
  unfold SeqN cntD cntD cntD cntD at hS
  rw [h2, h3, h9] at hS
  refine ⟨al, hS, fun v w' hB => ⟨al, ?_, ?_, ?_⟩⟩
  · rw [dn_ne (by decide), upd_ne (by decide)]; exact a1
  · rw [dn_ne (by decide)]; exact a2
  · unfold SeqN cntD cntD cntD cntD
    rw [dn_eq, dn_ne (by decide), dn_ne (by decide), h2, h9]
    exact hB
theorem WtB.on9 (h2 : Dn L 1 = true) (h3 : Dn L 2 = true) (h8 : Dn L 6 = true) (h9 : Dn L 7 = false) (hS : WtB B L m w) : ∃ g, m 6 = .pointer (some ⟨g, 0, none⟩) ∧ B (some g) 2 m w ∧ ∀ w', B (some g) 3 m w' → WtB B (L.setIfInBounds 7 true) m w' := by
  obtain ⟨al, a1, a2, hS⟩ := hS
  obtain ⟨g, rfl, hm⟩ := a1 h8
  unfold SeqN cntD cntD cntD cntD at hS
  rw [h2, h3, h9] at hS
  refine ⟨g, hm, hS, fun w' hB => ⟨some g, ?_, ?_, ?_⟩⟩
  · exact fun _ => ⟨g, rfl, hm⟩
  · rw [dn_ne (by decide)]; exact a2
  · unfold SeqN cntD cntD cntD cntD
    rw [dn_eq, dn_ne (by decide), dn_ne (by decide), h2, h3]
    exact hB
theorem WtB.fin (h8 : Dn L 6 = true) (h : ([1, 2, 7].all fun x => Dn L x) = true) (hS : WtB B L m w) : ∃ g, m 6 = .pointer (some ⟨g, 0, none⟩) ∧ B (some g) 3 m w := by
  obtain ⟨al, a1, _, hS⟩ := hS
  obtain ⟨g, rfl, hm⟩ := a1 h8
  exact ⟨g, hm, SeqN.fin h hS⟩
end
end Go.Proofs.YtoaggmldekejoaaGreatDoor
/- A region whose order Go leaves open, with several operations of unknown yield side by side; what follows is said once. Conditions: none. -/
namespace Go.Proofs.YtoaggmldekejoaaGreatDoor
open Go.RowKit
section
variable {P : Program} {ops : Array Oper} {Q Q' : Exit → Act → World → Prop} {md : Region.Mode} {S : Array Bool → (Nat → Value) → World → Prop}
theorem Ps.weak (h : ∀ a w, Q' .normal a w → Q .normal a w) : ∀ (f : Nat) (m : Nat → Value) (L : Array Bool) (a : Act), Ps P md ops Q' S f m L a → Ps P md ops Q S f m L a
  | 0, _, _, _, k => ⟨k.1, fun w hS => h _ _ (k.2 w hS)⟩
  | f + 1, m, L, a, k => ⟨fun e w hS => h _ _ (k.1 e w hS), fun i hi => by
    obtain ⟨o, ho, ⟨u, hs, hg⟩ | ⟨V, hs, hg⟩⟩ := k.2 i hi
    · exact ⟨o, ho, .inl ⟨u, hs, Ps.weak h f _ _ _ hg⟩⟩
    · exact ⟨o, ho, .inr ⟨V, hs, fun v hV => Ps.weak h f _ _ _ (hg v hV)⟩⟩⟩
/-- one of several that come next -/
def Turns (P : Program) (md : Region.Mode) (ops : Array Oper) (Q : Exit → Act → World → Prop) (S : Array Bool → (Nat → Value) → World → Prop) (f : Nat) (m : Nat → Value) (L : Array Bool) (a : Act) (i : Nat) : Prop :=
  ∃ o, ops[i]? = some o ∧ ∃ V, TurnS P md ops S m i o V a ∧ ∀ v, V v → Ps P md ops Q S f (upd m i v) (L.setIfInBounds i true) (a.put o.dst v)
theorem Turns.mk {f : Nat} {m : Nat → Value} {L : Array Bool} {a : Act} {i : Nat} {o : Oper} {d : Option Tmp} (ho : ops[i]? = some o) (hd : o.dst = d) {V : Value → Prop} (ht : TurnS P md ops S m i o V a)
    (h : ∀ v, V v → Ps P md ops Q S f (upd m i v) (L.setIfInBounds i true) (a.put d v)) : Turns P md ops Q S f m L a i := by subst hd; exact ⟨o, ho, V, ht, h⟩
theorem Ps.some1 {f : Nat} {m : Nat → Value} {L : Array Bool} {a : Act} {i : Nat} (hr : Region.ready md ops L = [i]) (h1 : Turns P md ops Q S f m L a i) : Ps P md ops Q S (f + 1) m L a := by
  refine ⟨fun e => (by rw [hr] at e; cases e), fun x hx => ?_⟩
  rw [hr] at hx
  rcases List.mem_cons.1 hx with rfl | hx
  · obtain ⟨o, ho, V, ht, h⟩ := h1; exact ⟨o, ho, .inr ⟨V, ht, h⟩⟩
  · cases hx
theorem Ps.some2 {f : Nat} {m : Nat → Value} {L : Array Bool} {a : Act} {i j : Nat} (hr : Region.ready md ops L = [i, j]) (h1 : Turns P md ops Q S f m L a i) (h2 : Turns P md ops Q S f m L a j) : Ps P md ops Q S (f + 1) m L a := by
  refine ⟨fun e => (by rw [hr] at e; cases e), fun x hx => ?_⟩
  rw [hr] at hx
  rcases List.mem_cons.1 hx with rfl | hx
  · obtain ⟨o, ho, V, ht, h⟩ := h1; exact ⟨o, ho, .inr ⟨V, ht, h⟩⟩
  rcases List.mem_cons.1 hx with rfl | hx
  · obtain ⟨o, ho, V, ht, h⟩ := h2; exact ⟨o, ho, .inr ⟨V, ht, h⟩⟩
  · cases hx
theorem Ps.some3 {f : Nat} {m : Nat → Value} {L : Array Bool} {a : Act} {i j k : Nat} (hr : Region.ready md ops L = [i, j, k]) (h1 : Turns P md ops Q S f m L a i) (h2 : Turns P md ops Q S f m L a j) (h3 : Turns P md ops Q S f m L a k) : Ps P md ops Q S (f + 1) m L a := by
  refine ⟨fun e => (by rw [hr] at e; cases e), fun x hx => ?_⟩
  rw [hr] at hx
  rcases List.mem_cons.1 hx with rfl | hx
  · obtain ⟨o, ho, V, ht, h⟩ := h1; exact ⟨o, ho, .inr ⟨V, ht, h⟩⟩
  rcases List.mem_cons.1 hx with rfl | hx
  · obtain ⟨o, ho, V, ht, h⟩ := h2; exact ⟨o, ho, .inr ⟨V, ht, h⟩⟩
  rcases List.mem_cons.1 hx with rfl | hx
  · obtain ⟨o, ho, V, ht, h⟩ := h3; exact ⟨o, ho, .inr ⟨V, ht, h⟩⟩
  · cases hx
/-- what follows is said once: F tells how the region ends, of the act at its start -/
theorem wp_region_psF {id : Nat} {a : Act} {w : World} (F : Act → Act → World → Prop) (S : Array Bool → (Nat → Value) → World → Prop) (hm : P.follows .mixedOrders = true) (hS : S (Array.replicate ops.size false) (fun _ => undef) w.drew)
    (h : Ps P .any ops (fun _ a' w' => F a a' w') S ops.size (fun _ => undef) (Array.replicate ops.size false) a) (hk : ∀ a' w', F a a' w' → Q .normal a' w') : (Code.region id ops true).wp P Q a w :=
  wp_region_ps S hm hS (Ps.weak hk _ _ _ _ h)
end
end Go.Proofs.YtoaggmldekejoaaGreatDoor
