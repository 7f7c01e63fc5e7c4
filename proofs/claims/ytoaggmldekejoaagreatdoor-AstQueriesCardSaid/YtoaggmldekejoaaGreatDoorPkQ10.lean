/- The law's short. Conditions: the nodes read so. -/
import Derived.Test.YtoaggmldekejoaaGreatDoorPkQ9
import Derived.BigRegion
namespace Go.Proofs.YtoaggmldekejoaaGreatDoor
open Go.RowKit
def CellsB (x : Nd) (s tb nm : ByteArray) : Array Value := #[.int .i64 x.p.tag, .int .i64 x.l, .int .i64 x.r, .int .i64 x.p.k, .int .i64 x.p.n, .int .u64 x.p.u, .string s, .string tb, .string nm]
/-- a node whose texts are cut, one behind the other -/
def CutB (nt : TypeId) (g : Nat) (x : Nd) (s tb nm : ByteArray) (W : World) (j : Nat) (_ : Nat → Value) (w' : World) : Prop :=
 Blk w' g nt (CellsB x (if 1 ≤ j then s else x.p.s) (if 2 ≤ j then tb else x.p.tb) (if 3 ≤ j then nm else x.p.nm)) ∧ W.grownBy w' (some g)
def cutK (k : Nat) (s : ByteArray) : ByteArray := s.extract 0 (min s.size k)
theorem cutK_size (k : Nat) (s : ByteArray) : (cutK k s).size ≤ k := by unfold cutK; rw [ByteArray.size_extract]; omega
def cutNd (x : Nd) : Nd := { x with p := { x.p with s := cutK 60 x.p.s, tb := cutK 40 x.p.tb, nm := cutK 40 x.p.nm } }
def shortN (xs : List Nd) : List Nd := (xs.take 301).map cutNd
theorem short_sm {xs : List Nd} : ∀ x ∈ shortN xs, SmP x.p := by
 intro x hx
 obtain ⟨y, _, rfl⟩ := List.mem_map.1 hx
 exact ⟨by have := cutK_size 60 y.p.s; show (cutK 60 y.p.s).size ≤ _; omega, by have := cutK_size 40 y.p.tb; show (cutK 40 y.p.tb).size ≤ _; omega, by have := cutK_size 40 y.p.nm; show (cutK 40 y.p.nm).size ≤ _; omega⟩
theorem short_rg {xs : List Nd} (h : ∀ x ∈ xs, RgP x.p) : ∀ x ∈ shortN xs, RgP x.p := by
 intro x hx
 obtain ⟨y, hy, rfl⟩ := List.mem_map.1 hx
 exact h y (List.mem_of_mem_take hy)
theorem short_len (xs : List Nd) : (shortN xs).length ≤ 301 := by unfold shortN; rw [List.length_map, List.length_take]; omega
theorem short_step {xs : List Nd} {i : Nat} {x : Nd} (h : xs[i]? = some x) (hi : i ≤ 300) : shortN (xs.take (i + 1)) = shortN (xs.take i) ++ [cutNd x] := by
 unfold shortN
 rw [List.take_take, List.take_take, Nat.min_eq_right (by omega), Nat.min_eq_right (by omega), List.take_add_one, h, List.map_append]
 rfl
theorem short_over {xs : List Nd} {i : Nat} (hi : 300 < i) : shortN (xs.take (i + 1)) = shortN (xs.take i) := by
 unfold shortN
 rw [List.take_take, List.take_take, Nat.min_eq_left (by omega), Nat.min_eq_left (by omega)]
set_option maxRecDepth 100000 in
set_option maxHeartbeats 8000000 in
theorem short_any (F : Nat → Prop) (xs : List Nd) (A : Option Addr) (n c : Nat) (w : World) (h : LN.rd w F A n xs) (hn : n ≤ 9223372036854775807) (hS : ∀ x ∈ xs, SmP x.p) :
 Calls Tryz.prog 7 #[.agg #[.slice A n c]] w fun e w' => ∃ A' n' c', e = .returned (.agg #[.slice A' n' c']) ∧ LN.rd w' (fun b => w.heap.size ≤ b) A' n' (shortN xs) ∧ n' ≤ c' ∧ c' ≤ 9223372036854775807 ∧ Below w.heap.size w w' := by
 have HLEN := Lib.hid (Lay.rd_len h)
 have HS := Lib.hid hS
 have HQ1 := Lib.hid (bl_al (bl_al (bl_al (Below.refl w.heap.size w) (.cells #[.slice A n c] 26)) (.cells #[.slice none 0 0] 26)) (.cells #[.slice none 0 0] 26))
 have HB1 := Lib.hid (((Blk.new w 26 #[.slice A n c]).alloc (.cells #[.slice none 0 0] 26)).alloc (.cells #[.slice none 0 0] 26))
 have HB2 := Lib.hid (show Blk (((w.alloc (.cells #[.slice A n c] 26)).alloc (.cells #[.slice none 0 0] 26)).alloc (.cells #[.slice none 0 0] 26)) (w.heap.size + 1) 26 #[.slice none 0 0] from by
  have := (Blk.new (w.alloc (.cells #[.slice A n c] 26)) 26 #[.slice none 0 0]).alloc (.cells #[.slice none 0 0] 26)
  rwa [World.size_alloc] at this)
 have HB3 := Lib.hid (show Blk (((w.alloc (.cells #[.slice A n c] 26)).alloc (.cells #[.slice none 0 0] 26)).alloc (.cells #[.slice none 0 0] 26)) (w.heap.size + 1 + 1) 26 #[.slice none 0 0] from by
  have := Blk.new ((w.alloc (.cells #[.slice A n c] 26)).alloc (.cells #[.slice none 0 0] 26)) 26 #[.slice none 0 0]
  rwa [World.size_alloc, World.size_alloc] at this)
 have HRD := Lib.hid h
 clear h hS
 go_enter Tryz.func7, Tryz.ntmps7
 go_upto_region 2 with fail
 generalize ((w.alloc (.cells #[.slice A n c] 26)).alloc (.cells #[.slice none 0 0] 26)).alloc (.cells #[.slice none 0 0] 26) = w1 at *
 generalize hg3 : w.heap.size + 1 + 1 = g3 at *
 generalize hg2 : w.heap.size + 1 = g2 at *
 have l1 : w.heap.size < g2 := by omega
 have l2 : g2 < g3 := by omega
 have l3 := HB3.out.lt
 have x0 := HB1.out.cell 0
 simp at x0
 clear hg3 hg2
 go_wp2_with fail
 go_loopg [9] n (fun g a wr => ∃ (i : Nat) (Ao : Option Addr) (no co : Nat), i + g = n ∧ a = .int .i64 (i : Int) ∧ Hid (Blk wr g3 26 #[.slice Ao no co]) ∧ Hid (LN.own 57 wr w1.heap.size (fun _ => False) Ao no co (shortN (xs.take i))) ∧ Hid (Blk wr g2 26 #[.slice none 0 0]) ∧ Hid (Below w.heap.size w wr) ∧ Hid (w1.heap.size ≤ wr.heap.size))
 case atStart => exact ⟨0, none, 0, 0, by omega, rfl, HB3, Lib.hid (Lay.own_nil _ _), HB2, HQ1, Lib.hid (Nat.le_refl _)⟩
 case round =>
  obtain ⟨i, Ao, no, co, hig, rfl, HC3, HOO, HC2, HQB, HZ⟩ := hrel
  have hno : no ≤ 301 := by have h1 := Lay.own_len HOO.out; have h2 := short_len (xs.take i); omega
  have hz1 := HZ.out
  by_cases hlt : i < n
  · have hi1 : (i : Int) < (n : Int) := by omega
    have hi0 : 0 ≤ (i : Int) := by omega
    obtain ⟨p, x, hAe, hx, s1⟩ := LN_at (Lay.rd_below HRD.out HQB.out) hlt
    obtain rfl : A = some p := hAe
    have e0 := s1.c0
    have e1 := s1.c1
    have e2 := s1.c2
    have e3 := s1.c3
    have e4 := s1.c4
    have e5 := s1.c5
    have e6 := s1.c6
    have e7 := s1.c7
    have e8 := s1.c8
    have HX := Lib.hid hx
    have HBN := Lib.hid (Blk.new wr 57 (Nd.cells x))
    have HQ2 := Lib.hid (bl_al (Below.refl wr.heap.size wr) (.cells (Nd.cells x) 57))
    have hsm := HS.out x (List.mem_of_getElem? hx)
    clear hx s1
    go_upto_region 5 with fail
    clear e0 e1 e2 e3 e4 e5 e6 e7 e8
    generalize wr.alloc (.cells #[.int .i64 x.p.tag, .int .i64 x.l, .int .i64 x.r, .int .i64 x.p.k, .int .i64 x.p.n, .int .u64 x.p.u, .string x.p.s, .string x.p.tb, .string x.p.nm] 57) = w2 at *
    have hz2 := HQ2.out.size
    by_cases h300 : i ≤ 300
    · have h3 : (i : Int) ≤ 300 := by omega
      obtain ⟨a6, ha6⟩ : ∃ a6, a6 = min x.p.s.size 60 := ⟨_, rfl⟩
      obtain ⟨a7, ha7⟩ : ∃ a7, a7 = min x.p.tb.size 40 := ⟨_, rfl⟩
      obtain ⟨a8, ha8⟩ : ∃ a8, a8 = min x.p.nm.size 40 := ⟨_, rfl⟩
      have m6 : min (x.p.s.size : Int) 60 = (a6 : Int) := by omega
      have m7 : min (x.p.tb.size : Int) 40 = (a7 : Int) := by omega
      have m8 : min (x.p.nm.size : Int) 40 = (a8 : Int) := by omega
      have p6 : (a6 : Int) ≤ (x.p.s.size : Int) := by omega
      have p7 : (a7 : Int) ≤ (x.p.tb.size : Int) := by omega
      have p8 : (a8 : Int) ≤ (x.p.nm.size : Int) := by omega
      have q6 : 0 ≤ (a6 : Int) := by omega
      have q7 : 0 ≤ (a7 : Int) := by omega
      have q8 : 0 ≤ (a8 : Int) := by omega
      have HA6 := Lib.hid ha6
      have HA7 := Lib.hid ha7
      have HA8 := Lib.hid ha8
      have f6 := HBN.out.cell 6
      have f7 := HBN.out.cell 7
      have f8 := HBN.out.cell 8
      have z6 := HBN.out.frozen 6
      have z7 := HBN.out.frozen 7
      have z8 := HBN.out.frozen 8
      simp at f6 f7 f8
      clear ha6 ha7 ha8 h300 hsm
      go_upto_region 6 with fail
      refine wp_region_ps (S := SeqN [25, 27, 29] (CutB 57 wr.heap.size x (x.p.s.extract 0 a6) (x.p.tb.extract 0 a7) (x.p.nm.extract 0 a8) w2)) (by kernel_rfl) ?spswg1 ?ppswg1
      case spswg1 =>
       exact SeqN.start (by rfl) ⟨HBN.out, ⟨rfl, rfl, rfl, Nat.le_refl _, fun _ _ _ => rfl⟩⟩
      refine Pz 0 (some 16) (.pointer (some ⟨wr.heap.size, 3, none⟩)) rfl rfl (by exact StepS.pure (SeqN.pass (by decide)) rfl fun _ => rfl) ?_
      try simp only [Act.put, sA, sZ, sS]
      refine Pz 1 (some 17) (.pointer (some ⟨wr.heap.size, 6, none⟩)) rfl rfl (by exact StepS.pure (SeqN.pass (by decide)) rfl fun _ => rfl) ?_
      try simp only [Act.put, sA, sZ, sS]
      refine Pz 2 (some 18) (.string x.p.s) rfl rfl ?ywg1_4 ?rwg1_4
      case ywg1_4 =>
       refine StepS.read [] (by kernel_rfl) (SeqN.pass (by decide)) (by rfl) (fun L9 m9 w9 hSh hAt hDn hS => ?_)
       have hB := SeqN.zero (post_no (post := [25, 27, 29]) hSh hDn (by kernel_rfl)) hS
       have x0 : w9.cell? ⟨wr.heap.size, 6, none⟩ = some (.string x.p.s) := hB.1.cell 6
       clear hB hS
       go_simp
       try rfl
      try simp only [Act.put, sA, sZ, sS]
      refine Pz 3 (some 19) (.pointer (some ⟨wr.heap.size, 3, none⟩)) rfl rfl (by exact StepS.pure (SeqN.pass (by decide)) rfl fun _ => rfl) ?_
      try simp only [Act.put, sA, sZ, sS]
      refine Pz 4 (some 20) (.pointer (some ⟨wr.heap.size, 6, none⟩)) rfl rfl (by exact StepS.pure (SeqN.pass (by decide)) rfl fun _ => rfl) ?_
      try simp only [Act.put, sA, sZ, sS]
      refine Pz 5 (some 21) (.string x.p.s) rfl rfl ?ywg1_7 ?rwg1_7
      case ywg1_7 =>
       refine StepS.read [] (by kernel_rfl) (SeqN.pass (by decide)) (by rfl) (fun L9 m9 w9 hSh hAt hDn hS => ?_)
       have hB := SeqN.zero (post_no (post := [25, 27, 29]) hSh hDn (by kernel_rfl)) hS
       have x0 : w9.cell? ⟨wr.heap.size, 6, none⟩ = some (.string x.p.s) := hB.1.cell 6
       clear hB hS
       go_simp
       try rfl
      try simp only [Act.put, sA, sZ, sS]
      refine Pz 6 (some 22) (.int .i64 ((x.p.s.size : Int))) rfl rfl (by exact StepS.pure (SeqN.pass (by decide)) rfl fun _ => by first | rfl | (go_simp; done) | (go_simp; rfl)) ?_
      try simp only [Act.put, sA, sZ, sS]
      refine Pz 7 (some 23) (.int .i64 ((a6 : Int))) rfl rfl ?ywg1_9 ?rwg1_9
      case ywg1_9 =>
       refine StepS.pure (SeqN.pass (by decide)) (by rfl) (fun w9 => ?_)
       go_simp
      try simp only [Act.put, sA, sZ, sS]
      refine Pz 8 (some 24) (.string ((x.p.s.extract 0 a6))) rfl rfl ?ywg1_10 ?rwg1_10
      case ywg1_10 =>
       refine StepS.pure (SeqN.pass (by decide)) (by rfl) (fun w9 => ?_)
       have hz9 := trivial
       first | rfl | (go_simp; done) | (go_simp; rfl)
      try simp only [Act.put, sA, sZ, sS]
      refine Pz 9 (some 25) (.pointer (some ⟨wr.heap.size, 7, none⟩)) rfl rfl (by exact StepS.pure (SeqN.pass (by decide)) rfl fun _ => rfl) ?_
      try simp only [Act.put, sA, sZ, sS]
      refine Pz 10 (some 26) (.string x.p.tb) rfl rfl ?ywg1_12 ?rwg1_12
      case ywg1_12 =>
       refine StepS.read [] (by kernel_rfl) (SeqN.pass (by decide)) (by rfl) (fun L9 m9 w9 hSh hAt hDn hS => ?_)
       have hB := SeqN.zero (post_no (post := [25, 27, 29]) hSh hDn (by kernel_rfl)) hS
       have x0 : w9.cell? ⟨wr.heap.size, 7, none⟩ = some (.string x.p.tb) := hB.1.cell 7
       clear hB hS
       go_simp
       try rfl
      try simp only [Act.put, sA, sZ, sS]
      refine Pz 11 (some 27) (.pointer (some ⟨wr.heap.size, 7, none⟩)) rfl rfl (by exact StepS.pure (SeqN.pass (by decide)) rfl fun _ => rfl) ?_
      try simp only [Act.put, sA, sZ, sS]
      refine Pz 12 (some 28) (.string x.p.tb) rfl rfl ?ywg1_14 ?rwg1_14
      case ywg1_14 =>
       refine StepS.read [] (by kernel_rfl) (SeqN.pass (by decide)) (by rfl) (fun L9 m9 w9 hSh hAt hDn hS => ?_)
       have hB := SeqN.zero (post_no (post := [25, 27, 29]) hSh hDn (by kernel_rfl)) hS
       have x0 : w9.cell? ⟨wr.heap.size, 7, none⟩ = some (.string x.p.tb) := hB.1.cell 7
       clear hB hS
       go_simp
       try rfl
      try simp only [Act.put, sA, sZ, sS]
      refine Pz 13 (some 29) (.int .i64 ((x.p.tb.size : Int))) rfl rfl (by exact StepS.pure (SeqN.pass (by decide)) rfl fun _ => by first | rfl | (go_simp; done) | (go_simp; rfl)) ?_
      try simp only [Act.put, sA, sZ, sS]
      refine Pz 14 (some 30) (.int .i64 ((a7 : Int))) rfl rfl ?ywg1_16 ?rwg1_16
      case ywg1_16 =>
       refine StepS.pure (SeqN.pass (by decide)) (by rfl) (fun w9 => ?_)
       go_simp
      try simp only [Act.put, sA, sZ, sS]
      refine Pz 15 (some 31) (.string ((x.p.tb.extract 0 a7))) rfl rfl ?ywg1_17 ?rwg1_17
      case ywg1_17 =>
       refine StepS.pure (SeqN.pass (by decide)) (by rfl) (fun w9 => ?_)
       have hz9 := trivial
       first | rfl | (go_simp; done) | (go_simp; rfl)
      try simp only [Act.put, sA, sZ, sS]
      refine Pz 16 (some 32) (.pointer (some ⟨wr.heap.size, 8, none⟩)) rfl rfl (by exact StepS.pure (SeqN.pass (by decide)) rfl fun _ => rfl) ?_
      try simp only [Act.put, sA, sZ, sS]
      refine Pz 17 (some 33) (.string x.p.nm) rfl rfl ?ywg1_19 ?rwg1_19
      case ywg1_19 =>
       refine StepS.read [] (by kernel_rfl) (SeqN.pass (by decide)) (by rfl) (fun L9 m9 w9 hSh hAt hDn hS => ?_)
       have hB := SeqN.zero (post_no (post := [25, 27, 29]) hSh hDn (by kernel_rfl)) hS
       have x0 : w9.cell? ⟨wr.heap.size, 8, none⟩ = some (.string x.p.nm) := hB.1.cell 8
       clear hB hS
       go_simp
       try rfl
      try simp only [Act.put, sA, sZ, sS]
      refine Pz 18 (some 34) (.pointer (some ⟨wr.heap.size, 8, none⟩)) rfl rfl (by exact StepS.pure (SeqN.pass (by decide)) rfl fun _ => rfl) ?_
      try simp only [Act.put, sA, sZ, sS]
      refine Pz 19 (some 35) (.string x.p.nm) rfl rfl ?ywg1_21 ?rwg1_21
      case ywg1_21 =>
       refine StepS.read [] (by kernel_rfl) (SeqN.pass (by decide)) (by rfl) (fun L9 m9 w9 hSh hAt hDn hS => ?_)
       have hB := SeqN.zero (post_no (post := [25, 27, 29]) hSh hDn (by kernel_rfl)) hS
       have x0 : w9.cell? ⟨wr.heap.size, 8, none⟩ = some (.string x.p.nm) := hB.1.cell 8
       clear hB hS
       go_simp
       try rfl
      try simp only [Act.put, sA, sZ, sS]
      refine Pz 20 (some 36) (.int .i64 ((x.p.nm.size : Int))) rfl rfl (by exact StepS.pure (SeqN.pass (by decide)) rfl fun _ => by first | rfl | (go_simp; done) | (go_simp; rfl)) ?_
      try simp only [Act.put, sA, sZ, sS]
      refine Pz 21 (some 37) (.int .i64 ((a8 : Int))) rfl rfl ?ywg1_23 ?rwg1_23
      case ywg1_23 =>
       refine StepS.pure (SeqN.pass (by decide)) (by rfl) (fun w9 => ?_)
       go_simp
      try simp only [Act.put, sA, sZ, sS]
      refine Pz 22 (some 38) (.string ((x.p.nm.extract 0 a8))) rfl rfl ?ywg1_24 ?rwg1_24
      case ywg1_24 =>
       refine StepS.pure (SeqN.pass (by decide)) (by rfl) (fun w9 => ?_)
       have hz9 := trivial
       first | rfl | (go_simp; done) | (go_simp; rfl)
      try simp only [Act.put, sA, sZ, sS]
      refine Pz 23 (some 39) (.pointer (some ⟨wr.heap.size, 3, none⟩)) rfl rfl (by exact StepS.pure (SeqN.pass (by decide)) rfl fun _ => rfl) ?_
      try simp only [Act.put, sA, sZ, sS]
      refine Pz 24 (some 40) (.pointer (some ⟨wr.heap.size, 6, none⟩)) rfl rfl (by exact StepS.pure (SeqN.pass (by decide)) rfl fun _ => rfl) ?_
      try simp only [Act.put, sA, sZ, sS]
      refine Pz 25 none undef rfl rfl ?ywg1_27 ?rwg1_27
      case ywg1_27 =>
       refine StepS.store [] (by kernel_rfl) (by rfl) (fun L9 m9 w9 hSh hAt hDn hS => ?_)
       obtain ⟨hB, hg⟩ := SeqN.at_ (m0 := m9) (m1 := m9) [] [27, 29] hSh (fun d hd => by cases hd) hDn (by kernel_rfl) hS
       have x1 : w9.cell? ⟨wr.heap.size, 6, none⟩ = some (.string x.p.s) := hB.cell 6
       have fx : w9.frozen? ⟨wr.heap.size, 6, none⟩ = false := hB.frozen 6
       have hB2 := hB.set_ 6 (.string (x.p.s.extract 0 a6))
       refine ⟨w9.setCell ⟨wr.heap.size, 6, none⟩ (.string (x.p.s.extract 0 a6)), ?_, SeqN.set_ (m0 := m9) (m1 := m9) [] [27, 29] hSh (fun d hd => by cases hd) hDn (by kernel_rfl) (by decide) (by decide) ⟨hB2, only_setCell (p := ⟨wr.heap.size, 6, none⟩) hg (.inl rfl) _⟩⟩
       clear hS hB hB2 hg
       go_simp
      try simp only [Act.put]
      refine Pz 26 (some 41) (.pointer (some ⟨wr.heap.size, 7, none⟩)) rfl rfl (by exact StepS.pure (SeqN.pass (by decide)) rfl fun _ => rfl) ?_
      try simp only [Act.put, sA, sZ, sS]
      refine Pz 27 none undef rfl rfl ?ywg1_29 ?rwg1_29
      case ywg1_29 =>
       refine StepS.store [25] (by kernel_rfl) (by rfl) (fun L9 m9 w9 hSh hAt hDn hS => ?_)
       obtain ⟨hB, hg⟩ := SeqN.at_ [25] [29] hSh hAt hDn (by kernel_rfl) hS
       have x1 : w9.cell? ⟨wr.heap.size, 7, none⟩ = some (.string x.p.tb) := hB.cell 7
       have fx : w9.frozen? ⟨wr.heap.size, 7, none⟩ = false := hB.frozen 7
       have hB2 := hB.set_ 7 (.string (x.p.tb.extract 0 a7))
       refine ⟨w9.setCell ⟨wr.heap.size, 7, none⟩ (.string (x.p.tb.extract 0 a7)), ?_, SeqN.set_ [25] [29] hSh hAt hDn (by kernel_rfl) (by decide) (by decide) ⟨hB2, only_setCell (p := ⟨wr.heap.size, 7, none⟩) hg (.inl rfl) _⟩⟩
       clear hS hB hB2 hg
       go_simp
      try simp only [Act.put]
      refine Pz 28 (some 42) (.pointer (some ⟨wr.heap.size, 8, none⟩)) rfl rfl (by exact StepS.pure (SeqN.pass (by decide)) rfl fun _ => rfl) ?_
      try simp only [Act.put, sA, sZ, sS]
      refine Pz 29 none undef rfl rfl ?ywg1_31 ?rwg1_31
      case ywg1_31 =>
       refine StepS.store [25, 27] (by kernel_rfl) (by rfl) (fun L9 m9 w9 hSh hAt hDn hS => ?_)
       obtain ⟨hB, hg⟩ := SeqN.at_ [25, 27] [] hSh hAt hDn (by kernel_rfl) hS
       have x1 : w9.cell? ⟨wr.heap.size, 8, none⟩ = some (.string x.p.nm) := hB.cell 8
       have fx : w9.frozen? ⟨wr.heap.size, 8, none⟩ = false := hB.frozen 8
       have hB2 := hB.set_ 8 (.string (x.p.nm.extract 0 a8))
       refine ⟨w9.setCell ⟨wr.heap.size, 8, none⟩ (.string (x.p.nm.extract 0 a8)), ?_, SeqN.set_ [25, 27] [] hSh hAt hDn (by kernel_rfl) (by decide) (by decide) ⟨hB2, only_setCell (p := ⟨wr.heap.size, 8, none⟩) hg (.inl rfl) _⟩⟩
       clear hS hB hB2 hg
       go_simp
      try simp only [Act.put]
      refine Ps.done (by kernel_rfl) (fun wg1 hS => ?_) _
      obtain ⟨hB3, hg3⟩ := SeqN.fin (by rfl) hS
      clear hS
      have HBX := Lib.hid hB3
      have HGX := Lib.hid hg3
      clear hB3 hg3
      obtain ⟨w3, rfl⟩ : ∃ x, x = wg1 := ⟨_, rfl⟩
      have HBY := Lib.hid (show Blk w3 wr.heap.size 57 (Nd.cells (cutNd x)) from by
       have h1 : cutK 60 x.p.s = x.p.s.extract 0 a6 := by unfold cutK; rw [HA6.out]
       have h2 : cutK 40 x.p.tb = x.p.tb.extract 0 a7 := by unfold cutK; rw [HA7.out]
       have h3 : cutK 40 x.p.nm = x.p.nm.extract 0 a8 := by unfold cutK; rw [HA8.out]
       have h9 : CellsB x (x.p.s.extract 0 a6) (x.p.tb.extract 0 a7) (x.p.nm.extract 0 a8) = Nd.cells (cutNd x) := by rw [← h1, ← h2, ← h3]; rfl
       rw [← h9]
       exact HBX.out)
      have HY3 := Lib.hid ((HC3.out.ca HQ2.out).apart HGX.out (by omega))
      have HY2 := Lib.hid ((HC2.out.ca HQ2.out).apart HGX.out (by omega))
      have HYO := Lib.hid (own_via HOO.out HQ2.out HGX.out (Nat.le_refl _))
      have HYQ := Lib.hid ((bl_ca HQB.out HQ2.out).grown HGX.out (bl_ca HQB.out HQ2.out).size (fun k e => by injection e with e; have := HQB.out.size; omega))
      have hz3 := HGX.out.size
      have HST := Lib.hid (short_step HX.out (show i ≤ 300 by omega))
      obtain ⟨y, hy⟩ : ∃ y, y = cutNd x := ⟨_, rfl⟩
      rw [← hy] at HBY HST
      clear hy z6 z7 z8 f6 f7 f8 m6 m7 m8 p6 p7 p8 q6 q7 q8 HBX
      have r0 := HBY.out.cell 0
      have r1 := HBY.out.cell 1
      have r2 := HBY.out.cell 2
      have r3 := HBY.out.cell 3
      have r4 := HBY.out.cell 4
      have r5 := HBY.out.cell 5
      have r6 := HBY.out.cell 6
      have r7 := HBY.out.cell 7
      have r8 := HBY.out.cell 8
      have x3 : w3.cell? ⟨g3, 0, none⟩ = some (.slice Ao no co) := HY3.out.cell 0
      simp at r0 r1 r2 r3 r4 r5 r6 r7 r8
      have HBZ := Lib.hid (Blk.new w3 57 (Nd.cells y))
      have HQZ := Lib.hid (bl_al (Below.refl w3.heap.size w3) (.cells (Nd.cells y) 57))
      have HOZ := Lib.hid (Lay.own_below HYO.out HQZ.out)
      have hzy := HQZ.out.size
      have hzz : w1.heap.size ≤ w3.heap.size := by omega
      have HDZ := Lib.hid (HY3.out.ca HQZ.out)
      have HDZ2 := Lib.hid (HY2.out.ca HQZ.out)
      have HZQ := Lib.hid (bl_ca HYQ.out HQZ.out)
      go_wp2_with (at_builtin; refine wpList_appG (L := LN) (e := 57) rfl (.tmp 44) (.tmp 46) 24 rfl (.agg #[.int .i64 0, .int .i64 0, .int .i64 0, .int .i64 0, .int .i64 0, .int .u64 0, .string ⟨#[]⟩, .string ⟨#[]⟩, .string ⟨#[]⟩]) 9 96 Tryz.underlying24 infoN rfl rfl (by decide) w1.heap.size (fun _ => False) Ao no co (shortN (xs.take i)) w3.heap.size 1 57 (Nd.cells y) y rfl rfl rfl HOZ.out HBZ.out rfl (fun b h => h.elim) (by omega) (by unfold maxLen; omega) (Nat.le_trans hzz hzy) ?_; intro A9 c9 w9 o9 g9 k9; have HO9 := Lib.hid o9; have HG9 := Lib.hid g9; have HN3 := Lib.hid (show Blk w9 g3 26 #[.slice Ao no co] from (g9.block g3 HDZ.out.lt (fun e => by have := (Lay.own_base HOZ.out g3 e.symm).1; omega)).trans HDZ.out); have n6 : w9.cell? ⟨g3, 0, none⟩ = some (.slice Ao no co) := HN3.out.cell 0; have n7 := HN3.out.frozen 0; clear o9 g9 k9)
      have hgr9 : w9.grownBy (w9.setCell ⟨g3, 0, none⟩ (.slice A9 (no + 1) c9)) (some g3) := only_setCell (p := ⟨g3, 0, none⟩) (World.grownBy.refl w9 _) (.inl rfl) _
      have q3 : Blk (w9.setCell ⟨g3, 0, none⟩ (.slice A9 (no + 1) c9)) g3 26 #[.slice A9 (no + 1) c9] := HN3.out.set_ 0 _
      have q2 : Blk (w9.setCell ⟨g3, 0, none⟩ (.slice A9 (no + 1) c9)) g2 26 #[.slice none 0 0] := Blk.apart (show Blk w9 g2 26 #[.slice none 0 0] from (HG9.out.block g2 HDZ2.out.lt (fun e => by have := (Lay.own_base HOZ.out g2 e.symm).1; omega)).trans HDZ2.out) hgr9 (by omega)
      have q9 := Lay.own_same (w' := w9.setCell ⟨g3, 0, none⟩ (.slice A9 (no + 1) c9)) HO9.out (fun k hk => Below.heap_setCell _ _ _ _ (by have := (Lay.own_base HO9.out k hk).1; show k ≠ g3; omega)) (fun _ h => h.elim)
      have qb : Below w.heap.size w (w9.setCell ⟨g3, 0, none⟩ (.slice A9 (no + 1) c9)) := bl_set (HZQ.out.grown HG9.out HZQ.out.size (fun k e => by have := (Lay.own_base HOZ.out k e).1; omega)) (p := ⟨g3, 0, none⟩) (by show _ ≤ g3; omega) _
      have qz : w1.heap.size ≤ (w9.setCell ⟨g3, 0, none⟩ (.slice A9 (no + 1) c9)).heap.size := Nat.le_trans (Nat.le_trans hzz hzy) (Nat.le_trans HG9.out.size hgr9.size)
      rw [← HST.out] at q9
      clear hgr9 r0 r1 r2 r3 r4 r5 r6 r7 r8 x3 n6 n7
      have HP3 := Lib.hid q3
      have HP2 := Lib.hid q2
      have HP9 := Lib.hid q9
      have HPB := Lib.hid qb
      have HPZ := Lib.hid qz
      clear q3 q2 q9 qb qz
      generalize w9.setCell ⟨g3, 0, none⟩ (.slice A9 (no + 1) c9) = w10 at *
      go_roundg (gk - 1)
      · exact ⟨i + 1, A9, no + 1, c9, by omega, by go_num, HP3, HP9, HP2, HPB, HPZ⟩
      · omega
    · have h3 : 300 < (i : Int) := by omega
      have HSO := Lib.hid (short_over (xs := xs) (show 300 < i by omega))
      have HG3 := Lib.hid (HC3.out.ca HQ2.out)
      have HG2 := Lib.hid (HC2.out.ca HQ2.out)
      have HGO := Lib.hid (Lay.own_below HOO.out HQ2.out)
      have HGQ := Lib.hid (bl_ca HQB.out HQ2.out)
      clear h300 hsm
      go_wp2
      go_roundg (gk - 1)
      · exact ⟨i + 1, Ao, no, co, by omega, by go_num, HG3, by rw [HSO.out]; exact HGO, HG2, HGQ, Lib.hid (by omega)⟩
      · omega
  · obtain rfl : i = n := by omega
    have hi1 : (i : Int) ≤ (i : Int) := by omega
    have HT := Lib.hid (show xs.take i = xs from List.take_of_length_le (by rw [HLEN.out]; exact Nat.le_refl _))
    rw [HT.out] at HOO
    have hcap := Lay.own_caps HOO.out
    have x3 : wr.cell? ⟨g3, 0, none⟩ = some (.slice Ao no co) := HC3.out.cell 0
    have y0 : wr.cell? ⟨g2, 0, none⟩ = some (.slice none 0 0) := HC2.out.cell 0
    have y1 := HC2.out.frozen 0
    go_wp2
    exact bodyPost_ret (res1 Tryz.results7 rfl (HC2.out.set_ 0 (.slice Ao no co)) Tryz.underlying26 rfl treeI) rfl ⟨Ao, no, co, rfl, Lay.rd_weak (fun b hb _ => Nat.le_trans HQ1.out.size hb) (Lay.rd_keep (fun b hb _ => Below.heap_setCell _ _ _ _ (by have h7 : w1.heap.size ≤ b := hb; show b ≠ g2; omega)) (Lay.own_rd2 (F := fun b => w1.heap.size ≤ b) HOO.out (fun b e => (Lay.own_base HOO.out b e).1) (fun b h _ => h.elim))), hcap.1, hcap.2, bl_set HQB.out (p := ⟨g2, 0, none⟩) (by show _ ≤ g2; omega) _⟩
end Go.Proofs.YtoaggmldekejoaaGreatDoor
/- Queries in plain Lean: which may be, how they are written. Conditions: none. -/
namespace Go.Proofs.YtoaggmldekejoaaGreatDoor

def noneB (t : List Nd) : Bool := decide (t.length = 0) || okF t
def itemB (x : QI) : Bool := okF x.t && mayB x.as_
def joinB (x : QJ) : Bool := okF x.on && (nameB x.tb && mayB x.as_)
def nmB (x : QN) : Bool := nameB x.nm && mayB x.tb
def selShape (s : QS) : Bool := decide (s.star = decide (s.items.length = 0)) && (decide (s.items.length ≤ 6) && (decide (s.joins.length ≤ 2) && decide (s.grp.length ≤ 3)))
def selB (s : QS) : Bool := selShape s && ((nameB s.ftb && mayB s.fas) && (s.items.all itemB && (s.joins.all joinB && (s.grp.all nmB && (noneB s.wh && noneB s.hv)))))
def keyB (k : QK) : Bool := (decide (k.nm.data.toList = []) && (decide (0 ≤ k.num) && decide (k.num ≤ 2147483647))) || (nameB k.nm && decide (k.num = 0))
def qryB (q : QC) : Bool := (decide (0 < q.sels.length) && (decide (q.sels.length ≤ 3) && (decide (q.keys.length ≤ 3) && (decide (q.lim = -1) || (decide (0 ≤ q.lim) && decide (q.lim ≤ 2147483647)))))) && (q.keys.all keyB && q.sels.all selB)
end Go.Proofs.YtoaggmldekejoaaGreatDoor
