/- The reference's Same. Conditions: the slices read so. -/
import Derived.Test.YtnpicnddcoaboaaGreatDoorLxR7
import Derived.Test.YtnpicnddcoaboaaGreatDoorApp
namespace Go.Proofs.YtnpicnddcoaboaaGreatDoor
open Go.RowKit
/-- are they the same, but for their places? -/
def sameU (a b : List Tk) : Bool := decide (a.map noAt = b.map noAt)
theorem noAt_eq {x y : Tk} : (noAt x = noAt y) ↔ x.kind = y.kind ∧ x.text = y.text ∧ x.n = y.n := by
  obtain ⟨k, a, t, n⟩ := x
  obtain ⟨k2, a2, t2, n2⟩ := y
  simp [noAt]
theorem seq_text (a b : List UInt8) : ((bS a).toList == (bS b).toList) = decide (a = b) := by
  rw [ByteArray.toList_eq, ByteArray.toList_eq, Bool.eq_iff_iff, beq_iff_eq, decide_eq_true_eq]
set_option maxRecDepth 100000 in
set_option maxHeartbeats 8000000 in
theorem rsame_any (A B : Option Addr) (m c m2 c2 : Nat) (l o : List Tk) (w : World) (h : LT.rd w AllB A m l) (h2 : LT.rd w AllB B m2 o) (hm : m ≤ 9223372036854775807) (hm2 : m2 ≤ 9223372036854775807) : Calls Tryz.prog 12 #[.slice A m c, .slice B m2 c2] w fun e w' => e = .returned (.bool (sameU l o)) ∧ Below w.heap.size w w' := by
  have HL := Lib.hid (Lay.rd_len h)
  have HL2 := Lib.hid (Lay.rd_len h2)
  have HRD := Lib.hid h
  have HRD2 := Lib.hid h2
  have HR := Lib.hid (show sameU l o = decide (l.map noAt = o.map noAt) from rfl)
  generalize sameU l o = r at *
  clear h h2
  by_cases hmm : m = m2
  case neg =>
    have e1 : decide (m = m2) = false := by simpa using hmm
    have e2 : ((m : Int) == (m2 : Int)) = false := by simp; omega
    have e3 : ((m : Int) != (m2 : Int)) = true := by simp; omega
    have HF := Lib.hid (show r = false from by
      rw [HR.out, decide_eq_false]
      intro e
      have := congrArg List.length e
      rw [List.length_map, List.length_map, HL.out, HL2.out] at this
      exact hmm this)
    clear hmm
    go_enter Tryz.func12, Tryz.ntmps12
    go_wp2
    go_ret
    exact ⟨ret_bool HF.out.symm, Below.refl _ _⟩
  subst hmm
  clear hm2
  go_enter Tryz.func12, Tryz.ntmps12
  go_wp2_with fail
  go_loopg [5] m (fun g a wr => ∃ i : Nat, i + g = m ∧ a = .int .i64 i ∧ Hid ((l.take i).map noAt = (o.take i).map noAt) ∧ Below w.heap.size w wr)
  case atStart => exact ⟨0, by omega, rfl, Lib.hid rfl, Below.refl _ _⟩
  case round =>
    obtain ⟨i, hig, rfl, HI, hb⟩ := hrel
    have HB := Lib.hid hb
    by_cases hlt : i < m
    · have hi1 : (i : Int) < (m : Int) := by omega
      obtain ⟨A1, x, rfl, hx, s1⟩ := LT_at (Lay.rd_below HRD.out hb) hlt
      obtain ⟨A2, y, rfl, hy, s2⟩ := LT_at (Lay.rd_below HRD2.out hb) hlt
      have HX := Lib.hid hx
      have HY := Lib.hid hy
      have HS1 := Lib.hid s1
      have HS2 := Lib.hid s2
      clear hx hy s1 s2 hb
      obtain ⟨w1, rfl⟩ : ∃ x, x = wr := ⟨_, rfl⟩
      go_upto_region 6 with fail
      refine wp_region_ps (S := fun _ _ w' => Below w1.heap.size w1 w') (by kernel_rfl) ?spswg1 ?ppswg1
      case spswg1 =>
        exact (Below.refl w1.heap.size w1).drew
      refine Ps.st (i := 0) (d := some 17) (u := (.slice (some A1) m c)) rfl rfl (by exact StepS.pure nP rfl fun _ => rfl) ?_
      try simp only [Act.put, sA, sZ, sS]
      refine Ps.st (i := 1) (d := some 18) (u := (.int .i64 ((i : Int)))) rfl rfl (by exact StepS.pure nP rfl fun _ => rfl) ?_
      try simp only [Act.put, sA, sZ, sS]
      refine Ps.st (i := 2) (d := some 19) (u := (.pointer (some ((A1.add (i * 4)))))) rfl rfl (by exact StepS.pure nP rfl fun _ => by first | rfl | (go_simp; done) | (go_simp; rfl)) ?_
      try simp only [Act.put, sA, sZ, sS]
      refine Ps.st (i := 3) (d := some 20) (u := (.pointer (some ((A1.add (i * 4)))))) rfl rfl (by exact StepS.pure nP rfl fun _ => rfl) ?_
      try simp only [Act.put, sA, sZ, sS]
      refine Ps.st (i := 4) (d := some 21) (u := (.int .i64 (x.kind))) rfl rfl ?ywg1_6 ?rwg1_6
      case ywg1_6 =>
        refine StepS.read [] (by kernel_rfl) nP (by rfl) (fun L9 m9 w9 hSh hAt hDn hS => ?_)
        have hT : Below _ _ w9 := hS
        have x0 : w9.cell? ((A1.add (i * 4))) = some (.int .i64 (x.kind)) := ce HS1.out.c0 hT
        clear hT hS
        go_simp
        try rfl
      try simp only [Act.put, sA, sZ, sS]
      refine Ps.st (i := 5) (d := some 22) (u := (.slice (some A2) m c2)) rfl rfl (by exact StepS.pure nP rfl fun _ => rfl) ?_
      try simp only [Act.put, sA, sZ, sS]
      refine Ps.st (i := 6) (d := some 23) (u := (.int .i64 ((i : Int)))) rfl rfl (by exact StepS.pure nP rfl fun _ => rfl) ?_
      try simp only [Act.put, sA, sZ, sS]
      refine Ps.st (i := 7) (d := some 24) (u := (.pointer (some ((A2.add (i * 4)))))) rfl rfl (by exact StepS.pure nP rfl fun _ => by first | rfl | (go_simp; done) | (go_simp; rfl)) ?_
      try simp only [Act.put, sA, sZ, sS]
      refine Ps.st (i := 8) (d := some 25) (u := (.pointer (some ((A2.add (i * 4)))))) rfl rfl (by exact StepS.pure nP rfl fun _ => rfl) ?_
      try simp only [Act.put, sA, sZ, sS]
      refine Ps.st (i := 9) (d := some 26) (u := (.int .i64 (y.kind))) rfl rfl ?ywg1_11 ?rwg1_11
      case ywg1_11 =>
        refine StepS.read [] (by kernel_rfl) nP (by rfl) (fun L9 m9 w9 hSh hAt hDn hS => ?_)
        have hT : Below _ _ w9 := hS
        have x0 : w9.cell? ((A2.add (i * 4))) = some (.int .i64 (y.kind)) := ce HS2.out.c0 hT
        clear hT hS
        go_simp
        try rfl
      try simp only [Act.put, sA, sZ, sS]
      refine Ps.st (i := 10) (d := some 27) (u := (.bool (!decide (x.kind = y.kind)))) rfl rfl (by exact StepS.pure nP rfl fun _ => rfl) ?_
      try simp only [Act.put, sA, sZ, sS]
      obtain ⟨b6_11, hb9⟩ : ∃ zb : Bool, zb = (!decide (x.kind = y.kind)) := ⟨_, rfl⟩
      have HEb6_11 := Lib.hid hb9
      clear hb9
      refine Ps.st (i := 11) (d := some 28) (u := (.bool (b6_11))) rfl rfl ?ywg1_13 ?rwg1_13
      case ywg1_13 =>
        refine StepS.pure nP (by rfl) (fun w9 => ?_)
        have e9 : (!decide (x.kind = y.kind)) = b6_11 := by rw [HEb6_11.out]
        rw [← e9]
        clear e9
        first | rfl | (go_simp; done) | (go_simp; rfl)
      try simp only [Act.put, sA, sZ, sS]
      refine Ps.st (i := 12) (d := some 29) (u := (cond b6_11 (undef) (.slice (some A1) m c))) rfl rfl (by cases b6_11; (exact StepS.pure nP rfl fun _ => rfl); exact StepS.skip nP rfl) ?_
      try simp only [Act.put, sA, sZ, sS]
      refine Ps.st (i := 13) (d := some 30) (u := (cond b6_11 (undef) (.int .i64 ((i : Int))))) rfl rfl (by cases b6_11; (exact StepS.pure nP rfl fun _ => rfl); exact StepS.skip nP rfl) ?_
      try simp only [Act.put, sA, sZ, sS]
      refine Ps.st (i := 14) (d := some 31) (u := (cond b6_11 (undef) (.pointer (some ((A1.add (i * 4))))))) rfl rfl (by cases b6_11; (exact StepS.pure nP rfl fun _ => by first | rfl | (go_simp; done) | (go_simp; rfl)); exact StepS.skip nP rfl) ?_
      try simp only [Act.put, sA, sZ, sS]
      refine Ps.st (i := 15) (d := some 32) (u := (cond b6_11 (undef) (.pointer (some ⟨((A1.add (i * 4))).block, ((A1.add (i * 4))).off + 2, none⟩)))) rfl rfl (by cases b6_11; (exact StepS.pure nP rfl fun _ => rfl); exact StepS.skip nP rfl) ?_
      try simp only [Act.put, sA, sZ, sS]
      refine Ps.st (i := 16) (d := some 33) (u := (cond b6_11 (undef) (.string ((bS x.text))))) rfl rfl ?ywg1_18 ?rwg1_18
      case ywg1_18 =>
        cases b6_11
        · skip
          refine StepS.read [] (by kernel_rfl) nP (by rfl) (fun L9 m9 w9 hSh hAt hDn hS => ?_)
          have hT : Below _ _ w9 := hS
          have x0 : w9.cell? ⟨((A1.add (i * 4))).block, ((A1.add (i * 4))).off + 2, none⟩ = some (.string ((bS x.text))) := ce HS1.out.c2 hT
          clear hT hS
          go_simp
          try rfl
        · exact StepS.skip nP (by rfl)
      try simp only [Act.put, sA, sZ, sS]
      refine Ps.st (i := 17) (d := some 34) (u := (cond b6_11 (undef) (.slice (some A2) m c2))) rfl rfl (by cases b6_11; (exact StepS.pure nP rfl fun _ => rfl); exact StepS.skip nP rfl) ?_
      try simp only [Act.put, sA, sZ, sS]
      refine Ps.st (i := 18) (d := some 35) (u := (cond b6_11 (undef) (.int .i64 ((i : Int))))) rfl rfl (by cases b6_11; (exact StepS.pure nP rfl fun _ => rfl); exact StepS.skip nP rfl) ?_
      try simp only [Act.put, sA, sZ, sS]
      refine Ps.st (i := 19) (d := some 36) (u := (cond b6_11 (undef) (.pointer (some ((A2.add (i * 4))))))) rfl rfl (by cases b6_11; (exact StepS.pure nP rfl fun _ => by first | rfl | (go_simp; done) | (go_simp; rfl)); exact StepS.skip nP rfl) ?_
      try simp only [Act.put, sA, sZ, sS]
      refine Ps.st (i := 20) (d := some 37) (u := (cond b6_11 (undef) (.pointer (some ⟨((A2.add (i * 4))).block, ((A2.add (i * 4))).off + 2, none⟩)))) rfl rfl (by cases b6_11; (exact StepS.pure nP rfl fun _ => rfl); exact StepS.skip nP rfl) ?_
      try simp only [Act.put, sA, sZ, sS]
      refine Ps.st (i := 21) (d := some 38) (u := (cond b6_11 (undef) (.string ((bS y.text))))) rfl rfl ?ywg1_23 ?rwg1_23
      case ywg1_23 =>
        cases b6_11
        · skip
          refine StepS.read [] (by kernel_rfl) nP (by rfl) (fun L9 m9 w9 hSh hAt hDn hS => ?_)
          have hT : Below _ _ w9 := hS
          have x0 : w9.cell? ⟨((A2.add (i * 4))).block, ((A2.add (i * 4))).off + 2, none⟩ = some (.string ((bS y.text))) := ce HS2.out.c2 hT
          clear hT hS
          go_simp
          try rfl
        · exact StepS.skip nP (by rfl)
      try simp only [Act.put, sA, sZ, sS]
      refine Ps.st (i := 22) (d := some 39) (u := (cond b6_11 (undef) (.bool (!((bS x.text).toList == (bS y.text).toList))))) rfl rfl (by cases b6_11; (exact StepS.pure nP rfl fun _ => rfl); exact StepS.skip nP rfl) ?_
      try simp only [Act.put, sA, sZ, sS]
      refine Ps.st (i := 23) (d := some 40) (u := (.bool (b6_11 || (!((bS x.text).toList == (bS y.text).toList))))) rfl rfl ?ywg1_25 ?rwg1_25
      case ywg1_25 =>
        refine StepS.pure nP (by rfl) (fun w9 => ?_)
        cases b6_11 <;> (first | rfl | (go_simp; done) | (go_simp; rfl))
      try simp only [Act.put, sA, sZ, sS]
      obtain ⟨b6_24, hb9⟩ : ∃ zb : Bool, zb = ((!decide (x.kind = y.kind)) || (!((bS x.text).toList == (bS y.text).toList))) := ⟨_, rfl⟩
      have HEb6_24 := Lib.hid hb9
      clear hb9
      refine Ps.st (i := 24) (d := some 41) (u := (.bool (b6_24))) rfl rfl ?ywg1_26 ?rwg1_26
      case ywg1_26 =>
        refine StepS.pure nP (by rfl) (fun w9 => ?_)
        have e9 : (b6_11 || (!((bS x.text).toList == (bS y.text).toList))) = b6_24 := by rw [HEb6_24.out, HEb6_11.out]
        rw [← e9]
        clear e9
        first | rfl | (go_simp; done) | (go_simp; rfl)
      try simp only [Act.put, sA, sZ, sS]
      refine Ps.st (i := 25) (d := some 42) (u := (cond b6_24 (undef) (.slice (some A1) m c))) rfl rfl (by cases b6_24; (exact StepS.pure nP rfl fun _ => rfl); exact StepS.skip nP rfl) ?_
      try simp only [Act.put, sA, sZ, sS]
      refine Ps.st (i := 26) (d := some 43) (u := (cond b6_24 (undef) (.int .i64 ((i : Int))))) rfl rfl (by cases b6_24; (exact StepS.pure nP rfl fun _ => rfl); exact StepS.skip nP rfl) ?_
      try simp only [Act.put, sA, sZ, sS]
      refine Ps.st (i := 27) (d := some 44) (u := (cond b6_24 (undef) (.pointer (some ((A1.add (i * 4))))))) rfl rfl (by cases b6_24; (exact StepS.pure nP rfl fun _ => by first | rfl | (go_simp; done) | (go_simp; rfl)); exact StepS.skip nP rfl) ?_
      try simp only [Act.put, sA, sZ, sS]
      refine Ps.st (i := 28) (d := some 45) (u := (cond b6_24 (undef) (.pointer (some ⟨((A1.add (i * 4))).block, ((A1.add (i * 4))).off + 3, none⟩)))) rfl rfl (by cases b6_24; (exact StepS.pure nP rfl fun _ => rfl); exact StepS.skip nP rfl) ?_
      try simp only [Act.put, sA, sZ, sS]
      refine Ps.st (i := 29) (d := some 46) (u := (cond b6_24 (undef) (.int .u64 ((x.n : Int))))) rfl rfl ?ywg1_31 ?rwg1_31
      case ywg1_31 =>
        cases b6_24
        · skip
          refine StepS.read [] (by kernel_rfl) nP (by rfl) (fun L9 m9 w9 hSh hAt hDn hS => ?_)
          have hT : Below _ _ w9 := hS
          have x0 : w9.cell? ⟨((A1.add (i * 4))).block, ((A1.add (i * 4))).off + 3, none⟩ = some (.int .u64 ((x.n : Int))) := ce HS1.out.c3 hT
          clear hT hS
          go_simp
          try rfl
        · exact StepS.skip nP (by rfl)
      try simp only [Act.put, sA, sZ, sS]
      refine Ps.st (i := 30) (d := some 47) (u := (cond b6_24 (undef) (.slice (some A2) m c2))) rfl rfl (by cases b6_24; (exact StepS.pure nP rfl fun _ => rfl); exact StepS.skip nP rfl) ?_
      try simp only [Act.put, sA, sZ, sS]
      refine Ps.st (i := 31) (d := some 48) (u := (cond b6_24 (undef) (.int .i64 ((i : Int))))) rfl rfl (by cases b6_24; (exact StepS.pure nP rfl fun _ => rfl); exact StepS.skip nP rfl) ?_
      try simp only [Act.put, sA, sZ, sS]
      refine Ps.st (i := 32) (d := some 49) (u := (cond b6_24 (undef) (.pointer (some ((A2.add (i * 4))))))) rfl rfl (by cases b6_24; (exact StepS.pure nP rfl fun _ => by first | rfl | (go_simp; done) | (go_simp; rfl)); exact StepS.skip nP rfl) ?_
      try simp only [Act.put, sA, sZ, sS]
      refine Ps.st (i := 33) (d := some 50) (u := (cond b6_24 (undef) (.pointer (some ⟨((A2.add (i * 4))).block, ((A2.add (i * 4))).off + 3, none⟩)))) rfl rfl (by cases b6_24; (exact StepS.pure nP rfl fun _ => rfl); exact StepS.skip nP rfl) ?_
      try simp only [Act.put, sA, sZ, sS]
      refine Ps.st (i := 34) (d := some 51) (u := (cond b6_24 (undef) (.int .u64 ((y.n : Int))))) rfl rfl ?ywg1_36 ?rwg1_36
      case ywg1_36 =>
        cases b6_24
        · skip
          refine StepS.read [] (by kernel_rfl) nP (by rfl) (fun L9 m9 w9 hSh hAt hDn hS => ?_)
          have hT : Below _ _ w9 := hS
          have x0 : w9.cell? ⟨((A2.add (i * 4))).block, ((A2.add (i * 4))).off + 3, none⟩ = some (.int .u64 ((y.n : Int))) := ce HS2.out.c3 hT
          clear hT hS
          go_simp
          try rfl
        · exact StepS.skip nP (by rfl)
      try simp only [Act.put, sA, sZ, sS]
      refine Ps.st (i := 35) (d := some 52) (u := (cond b6_24 (undef) (.bool (!decide ((x.n : Int) = (y.n : Int)))))) rfl rfl (by cases b6_24; (exact StepS.pure nP rfl fun _ => rfl); exact StepS.skip nP rfl) ?_
      try simp only [Act.put, sA, sZ, sS]
      obtain ⟨bT, hb9⟩ : ∃ zb : Bool, zb = (((!decide (x.kind = y.kind)) || (!((bS x.text).toList == (bS y.text).toList))) || (!decide ((x.n : Int) = (y.n : Int)))) := ⟨_, rfl⟩
      have HEbT := Lib.hid hb9
      clear hb9
      refine Ps.st (i := 36) (d := some 53) (u := (.bool (bT))) rfl rfl ?ywg1_38 ?rwg1_38
      case ywg1_38 =>
        refine StepS.pure nP (by rfl) (fun w9 => ?_)
        have e9 : (b6_24 || (!decide ((x.n : Int) = (y.n : Int)))) = bT := by rw [HEbT.out, HEb6_24.out]
        rw [← e9]
        clear e9
        cases b6_24 <;> (first | rfl | (go_simp; done) | (go_simp; rfl))
      try simp only [Act.put, sA, sZ, sS]
      refine Ps.done (by kernel_rfl) (fun wg1 hS => ?_) _
      try generalize (cond b6_11 (undef) (.pointer (some ⟨((A2.add (i * 4))).block, ((A2.add (i * 4))).off + 2, none⟩)) : Value) = zz39
      try generalize (cond b6_24 (undef) (.pointer (some ⟨((A2.add (i * 4))).block, ((A2.add (i * 4))).off + 3, none⟩)) : Value) = zz40
      try generalize (cond b6_24 (undef) (.pointer (some ⟨((A1.add (i * 4))).block, ((A1.add (i * 4))).off + 3, none⟩)) : Value) = zz41
      try generalize (cond b6_11 (undef) (.pointer (some ⟨((A1.add (i * 4))).block, ((A1.add (i * 4))).off + 2, none⟩)) : Value) = zz42
      try generalize (cond b6_11 (undef) (.bool (!((bS x.text).toList == (bS y.text).toList))) : Value) = zz43
      try generalize (cond b6_24 (undef) (.bool (!decide ((x.n : Int) = (y.n : Int)))) : Value) = zz44
      try generalize (.bool (b6_11 || (!((bS x.text).toList == (bS y.text).toList))) : Value) = zz45
      try generalize (cond b6_11 (undef) (.pointer (some ((A1.add (i * 4))))) : Value) = zz46
      try generalize (cond b6_24 (undef) (.pointer (some ((A2.add (i * 4))))) : Value) = zz47
      try generalize (cond b6_24 (undef) (.pointer (some ((A1.add (i * 4))))) : Value) = zz48
      try generalize (cond b6_11 (undef) (.pointer (some ((A2.add (i * 4))))) : Value) = zz49
      try generalize (cond b6_24 (undef) (.int .u64 ((x.n : Int))) : Value) = zz50
      try generalize (cond b6_24 (undef) (.int .u64 ((y.n : Int))) : Value) = zz51
      try generalize (cond b6_11 (undef) (.int .i64 ((i : Int))) : Value) = zz52
      try generalize (cond b6_24 (undef) (.int .i64 ((i : Int))) : Value) = zz53
      try generalize (cond b6_11 (undef) (.string ((bS y.text))) : Value) = zz54
      try generalize (cond b6_11 (undef) (.slice (some A2) m c2) : Value) = zz55
      try generalize (cond b6_24 (undef) (.slice (some A2) m c2) : Value) = zz56
      try generalize (cond b6_11 (undef) (.string ((bS x.text))) : Value) = zz57
      try generalize (cond b6_11 (undef) (.slice (some A1) m c) : Value) = zz58
      try generalize (cond b6_24 (undef) (.slice (some A1) m c) : Value) = zz59
      have HW2 := Lib.hid (show Below w1.heap.size w1 wg1 from hS)
      clear hS
      obtain ⟨w2, rfl⟩ : ∃ x, x = wg1 := ⟨_, rfl⟩
      have HK := Lib.hid (show bT = !decide (noAt x = noAt y) from by
        rw [HEbT.out, seq_text]
        have e : decide ((x.n : Int) = (y.n : Int)) = decide (x.n = y.n) := decide_eq_decide.2 (by omega)
        rw [e]
        have e2 : decide (noAt x = noAt y) = (decide (x.kind = y.kind) && (decide (x.text = y.text) && decide (x.n = y.n))) := by
          rw [Bool.eq_iff_iff]; simp only [decide_eq_true_eq, Bool.and_eq_true]; exact noAt_eq
        rw [e2]
        cases decide (x.kind = y.kind) <;> cases decide (x.text = y.text) <;> cases decide (x.n = y.n) <;> rfl)
      have HTX := Lib.hid (show (l.take (i + 1)).map noAt = (l.take i).map noAt ++ [noAt x] from by rw [List.take_add_one, HX.out]; simp)
      have HTY := Lib.hid (show (o.take (i + 1)).map noAt = (o.take i).map noAt ++ [noAt y] from by rw [List.take_add_one, HY.out]; simp)
      cases bT
      · have HE := Lib.hid (show noAt x = noAt y from by have := HK.out; simpa using this)
        go_wp2
        go_roundg (gk - 1)
        · exact ⟨i + 1, by omega, by go_num, Lib.hid (by rw [HTX.out, HTY.out, HI.out, HE.out]), bl_ca HB.out HW2.out⟩
        · omega
      · have HF := Lib.hid (show r = false from by
          have h9 : noAt x ≠ noAt y := by have := HK.out; simpa using this
          rw [HR.out, decide_eq_false]
          intro e
          have h8 := congrArg (fun z => z[i]?) e
          simp only [List.getElem?_map, HX.out, HY.out, Option.map_some, Option.some.injEq] at h8
          exact h9 h8)
        go_wp2
        go_ret
        exact ⟨ret_bool HF.out.symm, bl_ca HB.out HW2.out⟩
    · obtain rfl : i = m := by omega
      have hi1 : (i : Int) ≤ (i : Int) := by omega
      have HF := Lib.hid (show r = true from by
        rw [HR.out, decide_eq_true]
        have := HI.out
        rwa [List.take_of_length_le (by rw [HL.out]; exact Nat.le_refl _), List.take_of_length_le (by rw [HL2.out]; exact Nat.le_refl _)] at this)
      clear hb
      go_wp2
      go_ret
      exact ⟨ret_bool HF.out.symm, HB.out⟩
end Go.Proofs.YtnpicnddcoaboaaGreatDoor
