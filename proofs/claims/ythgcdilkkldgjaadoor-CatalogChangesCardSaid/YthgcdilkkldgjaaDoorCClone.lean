/- slices.Clone of columns and ints; the layer's copied, copies. Conditions: the slices read so. -/
import Derived.Test.YthgcdilkkldgjaaDoorCEq
namespace Go.Proofs.YthgcdilkkldgjaaDoor
open Go.RowKit
set_option maxRecDepth 100000 in
set_option maxHeartbeats 1000000 in
theorem cloneO_any (F : Nat → Prop) (xs : List CO) (A : Option Addr) (m c : Nat) (w : World) (h : LCO.rd w F A m xs) (hm : m ≤ 100000) :
    Calls Tryd.prog 54 #[.slice A m c] w fun e w' => ∃ A2 c2, e = .returned (.slice A2 m c2) ∧ LCO.rd w' (fun b => w.heap.size ≤ b) A2 m xs ∧ m ≤ c2 ∧ c2 ≤ 9223372036854775807 ∧ Below w.heap.size w w' := by
  cases A with
  | none =>
    obtain rfl : m = 0 := by
      rcases Nat.eq_zero_or_pos m with h0 | h0
      · exact h0
      · obtain ⟨_, _, _, e, _⟩ := Lay.rd_at h h0; cases e
    obtain rfl : xs = [] := List.eq_nil_of_length_eq_zero (Lay.rd_len h)
    clear h
    have HQ0 : ∀ W, (binOp .eql 25 (.slice none 0 c) (.slice none 0 0)).run Tryd.prog W = .ok (.bool true) W := fun W => Lib.run_eql_slice_nil W _ _ _ _ _ _ _ Tryd.underlying25
    go_enter Tryd.func54, Tryd.ntmps54
    go_wp2
    go_ret
    exact ⟨none, 0, rfl, Lay.rd_nil _, Nat.le_refl _, by omega, Below.refl _ _⟩
  | some ad =>
    have q1 := bl_al (Below.refl w.heap.size w) (.cells #[] 59)
    have HR := Lib.hid (Lay.rd_below h q1)
    have HQ := Lib.hid q1
    have hs1 : (w.alloc (.cells #[] 59)).heap.size = w.heap.size + 1 := by simp only [World.size_alloc]
    clear h q1
    have HQ0 : ∀ W, (binOp .eql 25 (.slice (some ad) m c) (.slice none 0 0)).run Tryd.prog W = .ok (.bool false) W := fun W => Lib.run_eql_slice_nil W _ _ _ _ _ _ _ Tryd.underlying25
    go_enter Tryd.func54, Tryd.ntmps54
    go_wp2_with (at_builtin; refine wpList_appC (L := LCO) (e := 59) rfl (.tmp 5) (.tmp 6) 25 rfl _ 2 24 Tryd.underlying25 Tryd.colInfo rfl rfl (by decide) LCO_free w.heap.size _ (some ad) m c xs rfl rfl HR.out (by omega) (by unfold maxLen; omega) ?_; intro A2 c2 w2 hr2 q2 hc1 hc2)
    go_ret
    exact ⟨A2, c2, rfl, Lay.rd_weak (fun b hb _ => by omega) hr2, hc1, hc2, bl_ca HQ.out q2⟩
set_option maxRecDepth 100000 in
set_option maxHeartbeats 1000000 in
theorem cloneK_any (F : Nat → Prop) (xs : List Int) (A : Option Addr) (m c : Nat) (w : World) (h : LK.rd w F A m xs) (hm : m ≤ 100000) :
    Calls Tryd.prog 55 #[.slice A m c] w fun e w' => ∃ A2 c2, e = .returned (.slice A2 m c2) ∧ LK.rd w' (fun b => w.heap.size ≤ b) A2 m xs ∧ m ≤ c2 ∧ c2 ≤ 9223372036854775807 ∧ Below w.heap.size w w' := by
  cases A with
  | none =>
    obtain rfl : m = 0 := by
      rcases Nat.eq_zero_or_pos m with h0 | h0
      · exact h0
      · obtain ⟨_, _, _, e, _⟩ := Lay.rd_at h h0; cases e
    obtain rfl : xs = [] := List.eq_nil_of_length_eq_zero (Lay.rd_len h)
    clear h
    have HQ0 : ∀ W, (binOp .eql 26 (.slice none 0 c) (.slice none 0 0)).run Tryd.prog W = .ok (.bool true) W := fun W => Lib.run_eql_slice_nil W _ _ _ _ _ _ _ Tryd.underlying26
    go_enter Tryd.func55, Tryd.ntmps55
    go_wp2
    go_ret
    exact ⟨none, 0, rfl, Lay.rd_nil _, Nat.le_refl _, by omega, Below.refl _ _⟩
  | some ad =>
    have q1 := bl_al (Below.refl w.heap.size w) (.cells #[] 3)
    have HR := Lib.hid (Lay.rd_below h q1)
    have HQ := Lib.hid q1
    have hs1 : (w.alloc (.cells #[] 3)).heap.size = w.heap.size + 1 := by simp only [World.size_alloc]
    clear h q1
    have HQ0 : ∀ W, (binOp .eql 26 (.slice (some ad) m c) (.slice none 0 0)).run Tryd.prog W = .ok (.bool false) W := fun W => Lib.run_eql_slice_nil W _ _ _ _ _ _ _ Tryd.underlying26
    go_enter Tryd.func55, Tryd.ntmps55
    go_wp2_with (at_builtin; refine wpList_appC (L := LK) (e := 3) rfl (.tmp 5) (.tmp 6) 26 rfl _ 1 8 Tryd.underlying26 Tryd.intInfo rfl rfl (by decide) LK_free w.heap.size _ (some ad) m c xs rfl rfl HR.out (by omega) (by unfold maxLen; omega) ?_; intro A2 c2 w2 hr2 q2 hc1 hc2)
    go_ret
    exact ⟨A2, c2, rfl, Lay.rd_weak (fun b hb _ => by omega) hr2, hc1, hc2, bl_ca HQ.out q2⟩
theorem tableI : (Tryd.prog.info? 28).map (·.size) = some 3 := by kernel_rfl
set_option maxRecDepth 100000 in
set_option maxHeartbeats 4000000 in
theorem copiedt_any (F : Nat → Prop) (t : TC) (A : Option Addr) (n c : Nat) (B : Option Addr) (m d : Nat) (w : World) (h : LCO.rd w F A n t.cols) (h2 : LK.rd w F B m t.keys) (hn : n ≤ 100000) (hm : m ≤ 100000) :
    Calls Tryd.prog 31 #[.agg #[.string t.name, .slice A n c, .slice B m d]] w fun e w' => ∃ A2 c2 B2 d2, e = .returned (.agg #[.string t.name, .slice A2 n c2, .slice B2 m d2]) ∧ LCO.rd w' (fun b => w.heap.size ≤ b) A2 n t.cols ∧ n ≤ c2 ∧ c2 ≤ 9223372036854775807 ∧ LK.rd w' (fun b => w.heap.size ≤ b) B2 m t.keys ∧ m ≤ d2 ∧ d2 ≤ 9223372036854775807 ∧ Below w.heap.size w w' := by
  have q2 := bl_al (bl_al (Below.refl w.heap.size w) (.cells (t.cells A n c B m d) 28)) (.cells #[.string ⟨#[]⟩, .slice none 0 0, .slice none 0 0] 28)
  have HC := Lib.hid (Lay.rd_below h q2)
  have HK := Lib.hid (Lay.rd_below h2 q2)
  have HB := Lib.hid ((Blk.new w 28 (t.cells A n c B m d)).alloc (.cells #[.string ⟨#[]⟩, .slice none 0 0, .slice none 0 0] 28))
  have HR := Lib.hid (Blk.new (w.alloc (.cells (t.cells A n c B m d) 28)) 28 #[.string ⟨#[]⟩, .slice none 0 0, .slice none 0 0])
  rw [World.size_alloc] at HR
  have HQ := Lib.hid q2
  have hs2 : ((w.alloc (.cells (t.cells A n c B m d) 28)).alloc (.cells #[.string ⟨#[]⟩, .slice none 0 0, .slice none 0 0] 28)).heap.size = w.heap.size + 2 := by simp only [World.size_alloc]
  clear q2 h h2
  go_enter Tryd.func31, Tryd.ntmps31
  go_upto_region 1 with fail
  generalize (w.alloc (.cells (t.cells A n c B m d) 28)).alloc (.cells #[.string ⟨#[]⟩, .slice none 0 0, .slice none 0 0] 28) = w1 at *
  refine wp_region_ps (S := SeqN [2, 5, 7, 9] (fun z mm w' => match z with | 0 => Below w1.heap.size w1 w' | 1 => Below w1.heap.size w1 w' ∧ (∃ A2 c2, mm 2 = .slice A2 n c2 ∧ LCO.rd w' (fun b => w1.heap.size ≤ b) A2 n t.cols ∧ n ≤ c2 ∧ c2 ≤ 9223372036854775807) | 2 => Below w1.heap.size w1 w' ∧ (∃ A2 c2, mm 2 = .slice A2 n c2 ∧ LCO.rd w' (fun b => w1.heap.size ≤ b) A2 n t.cols ∧ n ≤ c2 ∧ c2 ≤ 9223372036854775807) ∧ (∃ B2 d2, mm 5 = .slice B2 m d2 ∧ LK.rd w' (fun b => w1.heap.size ≤ b) B2 m t.keys ∧ m ≤ d2 ∧ d2 ≤ 9223372036854775807) | 3 => Chg (fun b => b = w.heap.size) w1 w' ∧ (∃ A2 c2, mm 2 = .slice A2 n c2 ∧ LCO.rd w' (fun b => w1.heap.size ≤ b) A2 n t.cols ∧ n ≤ c2 ∧ c2 ≤ 9223372036854775807) ∧ (∃ B2 d2, mm 5 = .slice B2 m d2 ∧ LK.rd w' (fun b => w1.heap.size ≤ b) B2 m t.keys ∧ m ≤ d2 ∧ d2 ≤ 9223372036854775807) ∧ Blk w' w.heap.size 28 #[.string t.name, mm 2, .slice B m d] | _ => Chg (fun b => b = w.heap.size) w1 w' ∧ (∃ A2 c2, mm 2 = .slice A2 n c2 ∧ LCO.rd w' (fun b => w1.heap.size ≤ b) A2 n t.cols ∧ n ≤ c2 ∧ c2 ≤ 9223372036854775807) ∧ (∃ B2 d2, mm 5 = .slice B2 m d2 ∧ LK.rd w' (fun b => w1.heap.size ≤ b) B2 m t.keys ∧ m ≤ d2 ∧ d2 ≤ 9223372036854775807) ∧ Blk w' w.heap.size 28 #[.string t.name, mm 2, mm 5])) (by kernel_rfl) ?spswg1 ?ppswg1
  case spswg1 =>
    exact SeqN.start (by decide) (Below.refl _ _).drew
  refine Ps.st (i := 0) (d := some 3) (u := (.pointer (some ⟨w.heap.size, 1, none⟩))) rfl rfl (by exact StepS.pure (SeqN.pass (by decide)) rfl fun _ => rfl) ?_
  try simp only [Act.put, sA, sZ, sS]
  refine Ps.st (i := 1) (d := some 4) (u := (.slice A n c)) rfl rfl ?ywg1_3 ?rwg1_3
  case ywg1_3 =>
    refine StepS.read [] (by kernel_rfl) (SeqN.pass (by decide)) (by rfl) (fun L9 m9 w9 hSh hAt hDn hS => ?_)
    have hT : Below w1.heap.size w1 w9 := SeqN.z012 hSh (reach_no hSh (f := 12) (j := 7) (by kernel_rfl) hDn) (by kernel_rfl) (fun _ _ h => h) (fun _ _ h => h.1) (fun _ _ h => h.1) hS
    have x0 : w9.cell? ⟨w.heap.size, 1, none⟩ = some (.slice A n c) := (HB.out.ca hT).cell 1
    clear hT hS
    go_simp
    try rfl
  try simp only [Act.put, sA, sZ, sS]
  refine Ps.st (i := 3) (d := some 6) (u := (.pointer (some ⟨w.heap.size, 2, none⟩))) rfl rfl (by exact StepS.pure (SeqN.pass (by decide)) rfl fun _ => rfl) ?_
  try simp only [Act.put, sA, sZ, sS]
  refine Ps.st (i := 4) (d := some 7) (u := (.slice B m d)) rfl rfl ?ywg1_5 ?rwg1_5
  case ywg1_5 =>
    refine StepS.read [] (by kernel_rfl) (SeqN.pass (by decide)) (by rfl) (fun L9 m9 w9 hSh hAt hDn hS => ?_)
    have hT : Below w1.heap.size w1 w9 := SeqN.z012 hSh (reach_no hSh (f := 12) (j := 7) (by kernel_rfl) hDn) (by kernel_rfl) (fun _ _ h => h) (fun _ _ h => h.1) (fun _ _ h => h.1) hS
    have x0 : w9.cell? ⟨w.heap.size, 2, none⟩ = some (.slice B m d) := (HB.out.ca hT).cell 2
    clear hT hS
    go_simp
    try rfl
  try simp only [Act.put, sA, sZ, sS]
  refine Ps.one (k := 2) (d := some 5) rfl rfl (by kernel_rfl) (TurnS.call (V := fun v => ∃ A2 c2, v = .slice A2 n c2) ?fwg1_6 ?awg1_6 [] (by kernel_rfl) (by rfl) (fun w9 => ?hwg1_6) (fun L9 m9 w9 hSh hAt hDn hS => ?cwg1_6)) (fun v2 hVv2 => ?rwg1_6)
  case hwg1_6 => go_simp; refine ⟨?_, ?_⟩ <;> rfl
  case cwg1_6 =>
    have hT := SeqN.at_ (m0 := m9) (m1 := m9) [] [5, 7, 9] hSh (fun d hd => by cases hd) hDn (by kernel_rfl) hS
    have hsz := hT.size
    refine (cloneO_any _ t.cols A n c w9 (Lay.rd_below HC.out hT) hn).mono ?_
    rintro e w8 ⟨A2, c2, rfl, hr, h1, h2, q8⟩
    exact ⟨_, rfl, ⟨A2, c2, rfl⟩, SeqN.set_ (m0 := m9) (m1 := m9) [] [5, 7, 9] hSh (fun d hd => by cases hd) hDn (by kernel_rfl) (by decide) (by decide) ⟨bl_ca hT q8, A2, c2, upd_same _ _ _, Lay.rd_weak (fun b hb _ => Nat.le_trans hsz hb) hr, h1, h2⟩⟩
  try simp only [Act.put, sA, sZ, sS]
  obtain ⟨A2, c2, rfl⟩ := hVv2
  refine Ps.st (i := 6) (d := some 9) (u := (.pointer (some ⟨w.heap.size, 1, none⟩))) rfl rfl (by exact StepS.pure (SeqN.pass (by decide)) rfl fun _ => rfl) ?_
  try simp only [Act.put, sA, sZ, sS]
  refine Ps.one (k := 5) (d := some 8) rfl rfl (by kernel_rfl) (TurnS.call (V := fun v => ∃ B2 d2, v = .slice B2 m d2) ?fwg1_8 ?awg1_8 [2] (by kernel_rfl) (by rfl) (fun w9 => ?hwg1_8) (fun L9 m9 w9 hSh hAt hDn hS => ?cwg1_8)) (fun v5 hVv5 => ?rwg1_8)
  case hwg1_8 => go_simp; refine ⟨?_, ?_⟩ <;> rfl
  case cwg1_8 =>
    obtain ⟨hT, A3, c3, hv, hr3, h31, h32⟩ := SeqN.at_ [2] [7, 9] hSh hAt hDn (by kernel_rfl) hS
    have hsz := hT.size
    refine (cloneK_any _ t.keys B m d w9 (Lay.rd_below HK.out hT) hm).mono ?_
    rintro e w8 ⟨B2, d2, rfl, hr, h1, h2, q8⟩
    exact ⟨_, rfl, ⟨B2, d2, rfl⟩, SeqN.set_ [2] [7, 9] hSh hAt hDn (by kernel_rfl) (by decide) (by decide) ⟨bl_ca hT q8, ⟨A3, c3, (upd_ne (by decide)).trans hv, Lay.rd_below hr3 q8, h31, h32⟩, B2, d2, upd_same _ _ _, Lay.rd_weak (fun b hb _ => Nat.le_trans hsz hb) hr, h1, h2⟩⟩
  try simp only [Act.put, sA, sZ, sS]
  obtain ⟨B2, d2, rfl⟩ := hVv5
  refine Ps.st (i := 7) (d := none) (u := undef) rfl rfl ?ywg1_9 ?rwg1_9
  case ywg1_9 =>
    refine StepS.store [2, 5] (by kernel_rfl) (by rfl) (fun L9 m9 w9 hSh hAt hDn hS => ?_)
    obtain ⟨hT, ⟨A3, c3, hv, hr3, h31, h32⟩, B3, d3, hv5, hr5, h51, h52⟩ := SeqN.at_ [2, 5] [9] hSh hAt hDn (by kernel_rfl) hS
    have hm2 : m9 2 = .slice A2 n c2 := (hAt 2 (by simp)).2
    have hm5 : m9 5 = .slice B2 m d2 := (hAt 5 (by simp)).2
    have hN := HB.out.ca hT
    have hN2 : Blk (w9.setCell ⟨w.heap.size, 1, none⟩ (.slice A2 n c2)) w.heap.size 28 #[.string t.name, .slice A2 n c2, .slice B m d] := by simpa using hN.set_ 1 (.slice A2 n c2)
    have hg2 : w9.grownBy (w9.setCell ⟨w.heap.size, 1, none⟩ (.slice A2 n c2)) (some w.heap.size) := only_setCell (World.grownBy.refl _ _) (.inl rfl) _
    have x2 := hN.cell 1
    have fx : w9.frozen? ⟨w.heap.size, 1, none⟩ = false := hN.frozen 1
    refine ⟨w9.setCell ⟨w.heap.size, 1, none⟩ (.slice A2 n c2), ?_, SeqN.set_ [2, 5] [9] hSh hAt hDn (by kernel_rfl) (by decide) (by decide) ⟨(Chg.of_below hT).grown hg2 (fun k e => .inl (by injection e with e; exact e.symm)), ⟨A3, c3, hv, rd_grownH hr3 hg2 (fun b hb => by omega), h31, h32⟩, ⟨B3, d3, hv5, rd_grownH hr5 hg2 (fun b hb => by omega), h51, h52⟩, by rw [hm2]; exact hN2⟩⟩
    clear hN2 hg2 hN hS hr3 hr5 hv hv5 hm2 hm5 hT
    go_simp
  try simp only [Act.put]
  refine Ps.st (i := 8) (d := some 10) (u := (.pointer (some ⟨w.heap.size, 2, none⟩))) rfl rfl (by exact StepS.pure (SeqN.pass (by decide)) rfl fun _ => rfl) ?_
  try simp only [Act.put, sA, sZ, sS]
  refine Ps.st (i := 9) (d := none) (u := undef) rfl rfl ?ywg1_11 ?rwg1_11
  case ywg1_11 =>
    refine StepS.store [2, 5, 7] (by kernel_rfl) (by rfl) (fun L9 m9 w9 hSh hAt hDn hS => ?_)
    obtain ⟨hch, ⟨A3, c3, hv, hr3, h31, h32⟩, ⟨B3, d3, hv5, hr5, h51, h52⟩, hN⟩ := SeqN.at_ [2, 5, 7] [] hSh hAt hDn (by kernel_rfl) hS
    have hm2 : m9 2 = .slice A2 n c2 := (hAt 2 (by simp)).2
    have hm5 : m9 5 = .slice B2 m d2 := (hAt 5 (by simp)).2
    rw [hm2] at hN
    have hN2 : Blk (w9.setCell ⟨w.heap.size, 2, none⟩ (.slice B2 m d2)) w.heap.size 28 #[.string t.name, .slice A2 n c2, .slice B2 m d2] := by simpa using hN.set_ 2 (.slice B2 m d2)
    have hg2 : w9.grownBy (w9.setCell ⟨w.heap.size, 2, none⟩ (.slice B2 m d2)) (some w.heap.size) := only_setCell (World.grownBy.refl _ _) (.inl rfl) _
    have x2 := hN.cell 2
    have fx : w9.frozen? ⟨w.heap.size, 2, none⟩ = false := hN.frozen 2
    refine ⟨w9.setCell ⟨w.heap.size, 2, none⟩ (.slice B2 m d2), ?_, SeqN.set_ [2, 5, 7] [] hSh hAt hDn (by kernel_rfl) (by decide) (by decide) ⟨hch.grown hg2 (fun k e => .inl (by injection e with e; exact e.symm)), ⟨A3, c3, hv, rd_grownH hr3 hg2 (fun b hb => by omega), h31, h32⟩, ⟨B3, d3, hv5, rd_grownH hr5 hg2 (fun b hb => by omega), h51, h52⟩, by rw [hm2, hm5]; exact hN2⟩⟩
    clear hN2 hg2 hN hS hr3 hr5 hv hv5 hm2 hm5 hch
    go_simp
  try simp only [Act.put]
  refine Ps.done (by kernel_rfl) (fun wg1 hS => ?_) _
  obtain ⟨hch, ⟨A3, c3, hv, hr3, h31, h32⟩, ⟨B3, d3, hv5, hr5, h51, h52⟩, hN⟩ := SeqN.fin (by rfl) hS
  clear hS
  rw [hv, hv5] at hN
  obtain ⟨rfl, rfl⟩ : A2 = A3 ∧ c2 = c3 := by have h9 : Value.slice A2 n c2 = .slice A3 n c3 := hv; simpa using h9
  obtain ⟨rfl, rfl⟩ : B2 = B3 ∧ d2 = d3 := by have h9 : Value.slice B2 m d2 = .slice B3 m d3 := hv5; simpa using h9
  clear hv hv5
  obtain ⟨w6, rfl⟩ : ∃ x, x = wg1 := ⟨_, rfl⟩
  have HCH := Lib.hid hch
  have HXX := Lib.hid hN
  have HC6 := Lib.hid hr3
  have HK6 := Lib.hid hr5
  have HCP := Lib.hid (And.intro (And.intro h31 h32) (And.intro h51 h52))
  clear hch hN hr3 hr5 h31 h32 h51 h52
  have HRS := Lib.hid (HR.out.chg HCH.out (by omega))
  have HBL := Lib.hid (Chg.bel HQ.out HCH.out (fun b _ h9 => by omega) HQ.out.size)
  have hsz := HCH.out.size
  have y0 := HXX.out.cell 0
  have y1 := HXX.out.cell 1
  have y2 := HXX.out.cell 2
  go_wp2_with (first | (refine wpList_store_blk rfl 28 (.tmp 2) (.tmp 11) rfl (w.heap.size + 1) 28 #[.string ⟨#[]⟩, .slice none 0 0, .slice none 0 0] #[.string t.name, .slice A2 n c2, .slice B2 m d2] rfl rfl HRS.out rfl tableI (by simp [Value.oneCell']) ?_; intro w8 h8 g8))
  exact bodyPost_ret (res1 Tryd.results31 rfl h8 Tryd.underlying28 rfl tableI) rfl ⟨A2, c2, B2, d2, rfl, Lay.rd_weak (fun b hb _ => by omega) (rd_grownH HC6.out g8 (fun b hb => by omega)), HCP.out.1.1, HCP.out.1.2, Lay.rd_weak (fun b hb _ => by omega) (rd_grownH HK6.out g8 (fun b hb => by omega)), HCP.out.2.1, HCP.out.2.2, bl_gr HBL.out g8 (by omega)⟩
end Go.Proofs.YthgcdilkkldgjaaDoor
