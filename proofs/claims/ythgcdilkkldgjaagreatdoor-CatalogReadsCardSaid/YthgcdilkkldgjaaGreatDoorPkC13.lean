/- The reference's Line and Print. Conditions: the tables may be. -/
import Derived.Test.YthgcdilkkldgjaaGreatDoorPkC12
import Derived.RangeFuncNested
import Derived.RangeFuncBound
import Derived.RangeFuncCalls
import Derived.RangeFuncLeaves
import Derived.RangeFuncBox
import Derived.Shelf.Abstract
import Derived.Shelf.RegionOpen
import Derived.WalkKit
import Derived.WalkMore
import Derived.OwnWalkIn
import Derived.TacticsInMore
import Derived.LoopNIn
import Derived.LoopIn
import Derived.Maps.AppendAt
namespace Go.Proofs.YthgcdilkkldgjaaGreatDoor
open Go.RowKit
noncomputable def jn (l : List ByteArray) : List UInt8 := Lib.join (l.map (·.data.toList)) [32]
theorem join_snoc (x : List UInt8) : ∀ (l : List (List UInt8)), l ≠ [] → Lib.join (l ++ [x]) [32] = Lib.join l [32] ++ 32 :: x
  | [], h => absurd rfl h
  | [y], _ => by rw [List.singleton_append, join_two, Lib.join_one, Lib.join_one]
  | y :: z :: r, _ => by
    rw [List.cons_append, List.cons_append, join_two, join_two, ← List.cons_append, join_snoc x (z :: r) (by simp), List.append_assoc]
    rfl
theorem jn_snoc {l : List ByteArray} (h : l ≠ []) (x : ByteArray) : jn (l ++ [x]) = jn l ++ 32 :: x.data.toList := by
  unfold jn
  rw [List.map_append]
  exact join_snoc _ _ (by simpa using h)
theorem jn_two (x y : ByteArray) : jn [x, y] = x.data.toList ++ 32 :: y.data.toList := by
  unfold jn
  simp only [List.map_cons, List.map_nil]
  rw [join_two, Lib.join_one]
theorem ba_cat (l : List UInt8) (x : ByteArray) : (⟨l.toArray⟩ : ByteArray) ++ (⟨#[32]⟩ : ByteArray) ++ x = ⟨(l ++ 32 :: x.data.toList).toArray⟩ := by
  apply ByteArray.ext
  apply Array.toList_inj.1
  rw [ByteArray.data_append, ByteArray.data_append, Array.toList_append, Array.toList_append]
  simp
theorem addr_add0 (p : Addr) : p.add 0 = p := by
  obtain ⟨b, o, s⟩ := p
  simp [Addr.add]
theorem name_le {s : ByteArray} (h : nameB s = true) : s.size ≤ 16 := by
  unfold nameB at h
  simp only [Bool.and_eq_true, decide_eq_true_eq] at h
  exact h.2.1
noncomputable def W1 (t : TC) (i : Nat) : List ByteArray := sTable :: t.name :: colsW (t.cols.take i)
noncomputable def W2 (t : TC) (j : Nat) : List ByteArray := (sTable :: t.name :: colsW t.cols) ++ (if j = 0 then [] else sBy :: keysW t (t.keys.take j))
set_option maxRecDepth 100000 in
set_option maxHeartbeats 8000000 in
theorem rline_any (F F2 : Nat → Prop) (t : TC) (A : Option Addr) (n c : Nat) (B : Option Addr) (m d : Nat) (w : World) (h : LCO.rd w F A n t.cols) (h2 : LK.rd w F2 B m t.keys) (ht : TabP t) :
    Calls Tryz.prog 22 #[.agg (t.cells A n c B m d)] w fun e w' => e = .returned (.string ⟨(lineL t).toArray⟩) ∧ Below w.heap.size w w' := by
  have HL1 := Lib.hid (Lay.rd_len h)
  have HL2 := Lib.hid (Lay.rd_len h2)
  have HTP := Lib.hid ht
  have hn4 : n ≤ 4 := by rw [← HL1.out]; exact ht.hi
  have hm4 : m ≤ 4 := by rw [← HL2.out]; exact ht.keys.1
  have q1 := bl_al (Below.refl w.heap.size w) (.cells (t.cells A n c B m d) 41)
  have HR1 := Lib.hid (Lay.rd_below h q1)
  have HR2 := Lib.hid (Lay.rd_below h2 q1)
  have HB1 := Lib.hid (Blk.new w 41 (t.cells A n c B m d))
  have HQ1 := Lib.hid q1
  have hnm : t.name.size ≤ 16 := name_le ht.nm
  have f0 : ¬ (9223372036854775807 < 6 + t.name.size) := by omega
  clear q1 h h2 ht
  have y0 := HB1.out.cell 0
  have y1 := HB1.out.cell 1
  have y2 := HB1.out.cell 2
  go_enter Tryz.func22, Tryz.ntmps22
  go_wp2_with fail
  generalize w.alloc (.cells (t.cells A n c B m d) 41) = w1 at *
  clear y0 y1 y2
  go_loopg [3, 4] n (fun g a b wr => ∃ (i : Nat) (S : ByteArray), i + g = n ∧ a = .string S ∧ b = .int .i64 i ∧ S.size ≤ 30 + 30 * i ∧ Hid (S = ⟨(jn (W1 t i)).toArray⟩) ∧ Hid (Below w1.heap.size w1 wr))
  case atStart => exact ⟨0, _, by omega, rfl, rfl, by rw [ByteArray.size_append]; show 6 + t.name.size ≤ _; omega, Lib.hid (by
    unfold W1
    rw [List.take_zero, show colsW [] = [] from rfl, jn_two]
    apply ByteArray.ext
    apply Array.toList_inj.1
    rw [ByteArray.data_append, Array.toList_append]
    simp [sTable]), Lib.hid (Below.refl _ _)⟩
  case round =>
    obtain ⟨i, S, hig, rfl, rfl, hSs, HS, HBL⟩ := hrel
    have HBX := Lib.hid (HB1.out.ca HBL.out)
    have y0 := HBX.out.cell 0
    have y1 := HBX.out.cell 1
    have y2 := HBX.out.cell 2
    by_cases hlt : i < n
    · have hi1 : (i : Int) < (n : Int) := by omega
      obtain ⟨p, x, rfl, hx, s1⟩ := LCO_at (Lay.rd_below HR1.out HBL.out) hlt
      have e0 := s1.c0
      have e1 := s1.c1
      have hb := HTP.out.ok i x hx
      unfold colB at hb
      simp only [Bool.and_eq_true] at hb
      have hxn := name_le hb.1
      have hxw := wordS_len x.kind
      obtain ⟨xn, hxnE⟩ : ∃ xn, xn = x.name := ⟨_, rfl⟩
      obtain ⟨xw, hxwE⟩ : ∃ xw, xw = wordS x.kind := ⟨_, rfl⟩
      have HXW := Lib.hid hxwE
      rw [← hxnE] at e0 hxn
      rw [← hxwE] at hxw
      have HN := Lib.hid (show S ++ (⟨#[32]⟩ : ByteArray) ++ xn ++ (⟨#[32]⟩ : ByteArray) ++ xw = ⟨(jn (W1 t (i + 1))).toArray⟩ from by
        rw [HS.out, ba_cat, ba_cat, hxnE, hxwE]
        unfold W1
        rw [take_next hx, colsW_snoc, show sTable :: t.name :: (colsW (t.cols.take i) ++ [x.name, wordS x.kind]) = ((sTable :: t.name :: colsW (t.cols.take i)) ++ [x.name]) ++ [wordS x.kind] from by simp, jn_snoc (by simp), jn_snoc (by simp)])
      have f1 : ¬ (9223372036854775807 < S.size + 1) := by omega
      have f2 : ¬ (9223372036854775807 < S.size + 1 + xn.size) := by omega
      have f3 : ¬ (9223372036854775807 < S.size + 1 + xn.size + 1) := by omega
      have f4 : ¬ (9223372036854775807 < S.size + 1 + xn.size + 1 + xw.size) := by omega
      obtain ⟨xk, hxk⟩ : ∃ xk, xk = x.kind := ⟨_, rfl⟩
      rw [← hxk] at e1 HXW
      clear hx s1 hb hxnE hxwE HS hxk
      go_upto_region 5 with fail
      clear y0 y1 y2
      refine wp_region_ps (S := fun _ _ w' => Below wr.heap.size wr w') (by kernel_rfl) ?spswg1 ?ppswg1
      case spswg1 =>
        exact (Below.refl wr.heap.size wr).drew
      refine Ps.st (i := 0) (d := some 16) (u := (.string S)) rfl rfl (by exact StepS.pure nP rfl fun _ => rfl) ?_
      try simp only [Act.put, sA, sZ, sS]
      refine Ps.st (i := 1) (d := some 17) (u := (.string (S ++ (⟨#[32]⟩ : ByteArray)))) rfl rfl (by exact StepS.pure nP rfl fun _ => by first | rfl | (go_simp; done) | (go_simp; rfl)) ?_
      try simp only [Act.put, sA, sZ, sS]
      refine Ps.st (i := 2) (d := some 18) (u := (.pointer (some ⟨w.heap.size, 1, none⟩))) rfl rfl (by exact StepS.pure nP rfl fun _ => rfl) ?_
      try simp only [Act.put, sA, sZ, sS]
      refine Ps.st (i := 3) (d := some 19) (u := (.slice (some p) n c)) rfl rfl ?ywg1_5 ?rwg1_5
      case ywg1_5 =>
        refine StepS.read [] (by kernel_rfl) nP (by rfl) (fun L9 m9 w9 hSh hAt hDn hS => ?_)
        have hT : Below wr.heap.size wr w9 := hS
        have x0 : w9.cell? ⟨w.heap.size, 1, none⟩ = some (.slice (some p) n c) := (HBX.out.ca hT).cell 1
        clear hT hS
        go_simp
        try rfl
      try simp only [Act.put, sA, sZ, sS]
      refine Ps.st (i := 4) (d := some 20) (u := (.int .i64 ((i : Int)))) rfl rfl (by exact StepS.pure nP rfl fun _ => rfl) ?_
      try simp only [Act.put, sA, sZ, sS]
      refine Ps.st (i := 5) (d := some 21) (u := (.pointer (some (p.add (i * 2))))) rfl rfl (by exact StepS.pure nP rfl fun _ => by first | rfl | (go_simp; done) | (go_simp; rfl)) ?_
      try simp only [Act.put, sA, sZ, sS]
      refine Ps.st (i := 6) (d := some 22) (u := (.pointer (some (p.add (i * 2))))) rfl rfl (by exact StepS.pure nP rfl fun _ => rfl) ?_
      try simp only [Act.put, sA, sZ, sS]
      refine Ps.st (i := 7) (d := some 23) (u := (.string xn)) rfl rfl ?ywg1_9 ?rwg1_9
      case ywg1_9 =>
        refine StepS.read [] (by kernel_rfl) nP (by rfl) (fun L9 m9 w9 hSh hAt hDn hS => ?_)
        have hT : Below wr.heap.size wr w9 := hS
        have x0 : w9.cell? (p.add (i * 2)) = some (.string xn) := ce e0 hT
        clear hT hS
        go_simp
        try rfl
      try simp only [Act.put, sA, sZ, sS]
      refine Ps.st (i := 8) (d := some 24) (u := (.string ((S ++ (⟨#[32]⟩ : ByteArray)) ++ xn))) rfl rfl (by exact StepS.pure nP rfl fun _ => by first | rfl | (go_simp; done) | (go_simp; rfl)) ?_
      try simp only [Act.put, sA, sZ, sS]
      refine Ps.st (i := 9) (d := some 25) (u := (.string (((S ++ (⟨#[32]⟩ : ByteArray)) ++ xn) ++ (⟨#[32]⟩ : ByteArray)))) rfl rfl (by exact StepS.pure nP rfl fun _ => by first | rfl | (go_simp; done) | (go_simp; rfl)) ?_
      try simp only [Act.put, sA, sZ, sS]
      refine Ps.st (i := 10) (d := some 26) (u := (.pointer (some ⟨w.heap.size, 1, none⟩))) rfl rfl (by exact StepS.pure nP rfl fun _ => rfl) ?_
      try simp only [Act.put, sA, sZ, sS]
      refine Ps.st (i := 11) (d := some 27) (u := (.slice (some p) n c)) rfl rfl ?ywg1_13 ?rwg1_13
      case ywg1_13 =>
        refine StepS.read [] (by kernel_rfl) nP (by rfl) (fun L9 m9 w9 hSh hAt hDn hS => ?_)
        have hT : Below wr.heap.size wr w9 := hS
        have x0 : w9.cell? ⟨w.heap.size, 1, none⟩ = some (.slice (some p) n c) := (HBX.out.ca hT).cell 1
        clear hT hS
        go_simp
        try rfl
      try simp only [Act.put, sA, sZ, sS]
      refine Ps.st (i := 12) (d := some 28) (u := (.int .i64 ((i : Int)))) rfl rfl (by exact StepS.pure nP rfl fun _ => rfl) ?_
      try simp only [Act.put, sA, sZ, sS]
      refine Ps.st (i := 13) (d := some 29) (u := (.pointer (some (p.add (i * 2))))) rfl rfl (by exact StepS.pure nP rfl fun _ => by first | rfl | (go_simp; done) | (go_simp; rfl)) ?_
      try simp only [Act.put, sA, sZ, sS]
      refine Ps.st (i := 14) (d := some 30) (u := (.pointer (some ⟨(p.add (i * 2)).block, (p.add (i * 2)).off + 1, none⟩))) rfl rfl (by exact StepS.pure nP rfl fun _ => rfl) ?_
      try simp only [Act.put, sA, sZ, sS]
      refine Ps.st (i := 15) (d := some 31) (u := (.int .i64 (xk))) rfl rfl ?ywg1_17 ?rwg1_17
      case ywg1_17 =>
        refine StepS.read [] (by kernel_rfl) nP (by rfl) (fun L9 m9 w9 hSh hAt hDn hS => ?_)
        have hT : Below wr.heap.size wr w9 := hS
        have x0 : w9.cell? ⟨(p.add (i * 2)).block, (p.add (i * 2)).off + 1, none⟩ = some (.int .i64 (xk)) := ce e1 hT
        clear hT hS
        go_simp
        try rfl
      try simp only [Act.put, sA, sZ, sS]
      refine Ps.st (i := 16) (d := some 32) (u := (.string xw)) rfl rfl ?ywg1_18 ?rwg1_18
      case ywg1_18 =>
        refine StepS.call ?fwg1_18 ?awg1_18 [] (by kernel_rfl) (by rfl) (fun w9 => ?hwg1_18) (fun L9 m9 w9 hSh hAt hDn hS => ?cwg1_18)
        case hwg1_18 => go_simp; refine ⟨?_, ?_⟩ <;> rfl
        case cwg1_18 =>
          have hT : Below wr.heap.size wr w9 := hS
          refine (rword_any xk w9).mono ?_
          rintro e w8 ⟨rfl, rfl⟩
          exact ⟨by rw [HXW.out], hT⟩
      try simp only [Act.put, sA, sZ, sS]
      refine Ps.st (i := 17) (d := some 33) (u := (.string ((((S ++ (⟨#[32]⟩ : ByteArray)) ++ xn) ++ (⟨#[32]⟩ : ByteArray)) ++ xw))) rfl rfl (by exact StepS.pure nP rfl fun _ => by first | rfl | (go_simp; done) | (go_simp; rfl)) ?_
      try simp only [Act.put, sA, sZ, sS]
      refine Ps.st (i := 18) (d := some 3) (u := (.string ((((S ++ (⟨#[32]⟩ : ByteArray)) ++ xn) ++ (⟨#[32]⟩ : ByteArray)) ++ xw))) rfl rfl (by exact StepS.pure nP rfl fun _ => rfl) ?_
      try simp only [Act.put, sA, sZ, sS]
      refine Ps.done (by kernel_rfl) (fun wg1 hS => ?_) _
      have HT6 := Lib.hid (show Below wr.heap.size wr wg1 from hS)
      clear hS
      obtain ⟨w6, rfl⟩ : ∃ x, x = wg1 := ⟨_, rfl⟩
      have HBL5 := Lib.hid (bl_ca HBL.out HT6.out)
      clear HBL HBX HT6 e0 e1
      go_wp2_with fail
      go_roundg (gk - 1)
      · exact ⟨i + 1, _, by omega, rfl, by go_num, by simp only [ByteArray.size_append]; show S.size + 1 + xn.size + 1 + xw.size ≤ _; omega, HN, HBL5⟩
      · omega
    · obtain rfl : i = n := by omega
      have hi1 : (i : Int) ≤ (i : Int) := by omega
      go_wp2_with fail
      go_loopg [3, 5] m (fun g a b wq => ∃ (j : Nat) (S : ByteArray), j + g = m ∧ a = .string S ∧ b = .int .i64 j ∧ S.size ≤ 200 + 30 * j ∧ Hid (S = ⟨(jn (W2 t j)).toArray⟩) ∧ Hid (Below w1.heap.size w1 wq))
      case atStart => exact ⟨0, S, by omega, rfl, rfl, by omega, Lib.hid (by
        rw [HS.out]
        unfold W1 W2
        rw [if_pos rfl, List.append_nil, List.take_of_length_le (by rw [HL1.out]; exact Nat.le_refl _)]), HBL⟩
      case round =>
        clear HS hSs y0 y1 y2
        clear S
        obtain ⟨j, S, hjg, rfl, rfl, hSs, HS, HBQ⟩ := hrel
        have HBX := Lib.hid (HB1.out.ca HBQ.out)
        have y1 := HBX.out.cell 1
        have y2 := HBX.out.cell 2
        by_cases hlt : j < m
        · have hi1 : (j : Int) < (m : Int) := by omega
          obtain ⟨p2, k, rfl, hk, e2⟩ := LK_at (Lay.rd_below HR2.out HBQ.out) hlt
          have hkm := List.mem_of_getElem? hk
          obtain ⟨r, x, rfl, hx, hna⟩ := key_at HTP.out hkm
          have hrl : r < i := by
            rw [← HL1.out]
            exact (List.getElem?_eq_some_iff.1 hx).1
          obtain ⟨p, x', rfl, hx', s1⟩ := LCO_at (Lay.rd_below HR1.out HBQ.out) hrl
          obtain rfl : x = x' := by rw [hx] at hx'; injection hx'
          have e0 := s1.c0
          have hb := HTP.out.ok r x hx
          unfold colB at hb
          simp only [Bool.and_eq_true] at hb
          have hxn := name_le hb.1
          obtain ⟨xn, hxnE⟩ : ∃ xn, xn = x.name := ⟨_, rfl⟩
          rw [← hxnE] at e0 hxn
          have HNX : ∀ S2 : ByteArray, Hid (S2 = ⟨(jn ((sTable :: t.name :: colsW t.cols) ++ sBy :: keysW t (t.keys.take j))).toArray⟩) → Hid (S2 ++ (⟨#[32]⟩ : ByteArray) ++ xn = ⟨(jn (W2 t (j + 1))).toArray⟩) := fun S2 H2 => Lib.hid (by
            rw [H2.out, ba_cat, hxnE]
            unfold W2
            rw [if_neg (by omega), take_next hk, keysW_snoc, hna, ← List.cons_append, ← List.append_assoc, jn_snoc (by simp)])
          have hrx : (r : Int) < (i : Int) := by omega
          clear hx hx' s1 hb hxnE hkm
          by_cases hj : j = 0
          · subst hj
            have HS2 := Lib.hid (show S ++ (⟨#[32, 98, 121]⟩ : ByteArray) = ⟨(jn ((sTable :: t.name :: colsW t.cols) ++ sBy :: keysW t (t.keys.take 0))).toArray⟩ from by
              rw [HS.out, List.take_zero, show keysW t [] = [] from rfl, jn_snoc (by simp)]
              unfold W2
              rw [if_pos rfl, List.append_nil]
              apply ByteArray.ext
              apply Array.toList_inj.1
              rw [ByteArray.data_append, Array.toList_append]
              simp [sBy])
            have f0 : ¬ (9223372036854775807 < S.size + 3) := by omega
            obtain ⟨S2, hS2⟩ : ∃ S2, S2 = S ++ (⟨#[32, 98, 121]⟩ : ByteArray) := ⟨_, rfl⟩
            have hsz2 : S2.size = S.size + 3 := by rw [hS2, ByteArray.size_append]; rfl
            rw [← hS2] at HS2
            have HN := HNX S2 HS2
            have f1 : ¬ (9223372036854775807 < S2.size + 1) := by omega
            have f2 : ¬ (9223372036854775807 < S2.size + 1 + xn.size) := by omega
            have hSs2 : S2.size ≤ 203 := by omega
            clear hsz2
            go_upto_region 11 with fail
            rw [← hS2]
            clear y1 y2 hS2 HNX HS2 f0
            have e2 : wr.cell? p2 = some (.int .i64 (r : Int)) := by rw [← addr_add0 p2]; exact e2
            refine wp_region_ps (S := fun _ _ w' => Below wr.heap.size wr w') (by kernel_rfl) ?spswg21 ?ppswg21
            case spswg21 =>
              exact (Below.refl wr.heap.size wr).drew
            refine Ps.st (i := 0) (d := some 45) (u := (.string S2)) rfl rfl (by exact StepS.pure nP rfl fun _ => rfl) ?_
            try simp only [Act.put, sA, sZ, sS]
            refine Ps.st (i := 1) (d := some 46) (u := (.string (S2 ++ (⟨#[32]⟩ : ByteArray)))) rfl rfl (by exact StepS.pure nP rfl fun _ => by first | rfl | (go_simp; done) | (go_simp; rfl)) ?_
            try simp only [Act.put, sA, sZ, sS]
            refine Ps.st (i := 2) (d := some 47) (u := (.pointer (some ⟨w.heap.size, 1, none⟩))) rfl rfl (by exact StepS.pure nP rfl fun _ => rfl) ?_
            try simp only [Act.put, sA, sZ, sS]
            refine Ps.st (i := 3) (d := some 48) (u := (.slice (some p) i c)) rfl rfl ?ywg21_25 ?rwg21_25
            case ywg21_25 =>
              refine StepS.read [] (by kernel_rfl) nP (by rfl) (fun L9 m9 w9 hSh hAt hDn hS => ?_)
              have hT : Below wr.heap.size wr w9 := hS
              have x0 : w9.cell? ⟨w.heap.size, 1, none⟩ = some (.slice (some p) i c) := (HBX.out.ca hT).cell 1
              clear hT hS
              go_simp
              try rfl
            try simp only [Act.put, sA, sZ, sS]
            refine Ps.st (i := 4) (d := some 49) (u := (.pointer (some ⟨w.heap.size, 2, none⟩))) rfl rfl (by exact StepS.pure nP rfl fun _ => rfl) ?_
            try simp only [Act.put, sA, sZ, sS]
            refine Ps.st (i := 5) (d := some 50) (u := (.slice (some p2) m d)) rfl rfl ?ywg21_27 ?rwg21_27
            case ywg21_27 =>
              refine StepS.read [] (by kernel_rfl) nP (by rfl) (fun L9 m9 w9 hSh hAt hDn hS => ?_)
              have hT : Below wr.heap.size wr w9 := hS
              have x0 : w9.cell? ⟨w.heap.size, 2, none⟩ = some (.slice (some p2) m d) := (HBX.out.ca hT).cell 2
              clear hT hS
              go_simp
              try rfl
            try simp only [Act.put, sA, sZ, sS]
            refine Ps.st (i := 6) (d := some 51) (u := (.int .i64 (((0 : Nat) : Int)))) rfl rfl (by exact StepS.pure nP rfl fun _ => rfl) ?_
            try simp only [Act.put, sA, sZ, sS]
            refine Ps.st (i := 7) (d := some 52) (u := (.pointer (some (p2)))) rfl rfl (by exact StepS.pure nP rfl fun _ => by first | rfl | (go_simp; done) | (go_simp; rfl)) ?_
            try simp only [Act.put, sA, sZ, sS]
            refine Ps.st (i := 8) (d := some 53) (u := (.int .i64 ((r : Int)))) rfl rfl ?ywg21_30 ?rwg21_30
            case ywg21_30 =>
              refine StepS.read [] (by kernel_rfl) nP (by rfl) (fun L9 m9 w9 hSh hAt hDn hS => ?_)
              have hT : Below wr.heap.size wr w9 := hS
              have x0 : w9.cell? (p2) = some (.int .i64 ((r : Int))) := ce e2 hT
              clear hT hS
              go_simp
              try rfl
            try simp only [Act.put, sA, sZ, sS]
            refine Ps.st (i := 9) (d := some 54) (u := (.pointer (some (p.add (r * 2))))) rfl rfl (by exact StepS.pure nP rfl fun _ => by first | rfl | (go_simp; done) | (go_simp; rfl)) ?_
            try simp only [Act.put, sA, sZ, sS]
            refine Ps.st (i := 10) (d := some 55) (u := (.pointer (some (p.add (r * 2))))) rfl rfl (by exact StepS.pure nP rfl fun _ => rfl) ?_
            try simp only [Act.put, sA, sZ, sS]
            refine Ps.st (i := 11) (d := some 56) (u := (.string xn)) rfl rfl ?ywg21_33 ?rwg21_33
            case ywg21_33 =>
              refine StepS.read [] (by kernel_rfl) nP (by rfl) (fun L9 m9 w9 hSh hAt hDn hS => ?_)
              have hT : Below wr.heap.size wr w9 := hS
              have x0 : w9.cell? (p.add (r * 2)) = some (.string xn) := ce e0 hT
              clear hT hS
              go_simp
              try rfl
            try simp only [Act.put, sA, sZ, sS]
            refine Ps.st (i := 12) (d := some 57) (u := (.string ((S2 ++ (⟨#[32]⟩ : ByteArray)) ++ xn))) rfl rfl (by exact StepS.pure nP rfl fun _ => by first | rfl | (go_simp; done) | (go_simp; rfl)) ?_
            try simp only [Act.put, sA, sZ, sS]
            refine Ps.st (i := 13) (d := some 3) (u := (.string ((S2 ++ (⟨#[32]⟩ : ByteArray)) ++ xn))) rfl rfl (by exact StepS.pure nP rfl fun _ => rfl) ?_
            try simp only [Act.put, sA, sZ, sS]
            refine Ps.done (by kernel_rfl) (fun wg21 hS => ?_) _
            have HT6 := Lib.hid (show Below wr.heap.size wr wg21 from hS)
            clear hS
            obtain ⟨w6, rfl⟩ : ∃ x, x = wg21 := ⟨_, rfl⟩
            have HBL5 := Lib.hid (bl_ca HBQ.out HT6.out)
            clear HBQ HBX HT6 e0 e2
            go_wp2_with fail
            go_roundg (gk - 1)
            · exact ⟨0 + 1, _, by omega, rfl, by go_num, by simp only [ByteArray.size_append]; show S2.size + 1 + xn.size ≤ _; omega, HN, HBL5⟩
            · omega
          · have hj0 : ¬ ((j : Int) = 0) := by omega
            have HN := HNX S (Lib.hid (by rw [HS.out]; unfold W2; rw [if_neg hj]))
            have f1 : ¬ (9223372036854775807 < S.size + 1) := by omega
            have f2 : ¬ (9223372036854775807 < S.size + 1 + xn.size) := by omega
            go_upto_region 11 with fail
            clear y1 y2 HNX
            refine wp_region_ps (S := fun _ _ w' => Below wr.heap.size wr w') (by kernel_rfl) ?spswg36 ?ppswg36
            case spswg36 =>
              exact (Below.refl wr.heap.size wr).drew
            refine Ps.st (i := 0) (d := some 45) (u := (.string S)) rfl rfl (by exact StepS.pure nP rfl fun _ => rfl) ?_
            try simp only [Act.put, sA, sZ, sS]
            refine Ps.st (i := 1) (d := some 46) (u := (.string (S ++ (⟨#[32]⟩ : ByteArray)))) rfl rfl (by exact StepS.pure nP rfl fun _ => by first | rfl | (go_simp; done) | (go_simp; rfl)) ?_
            try simp only [Act.put, sA, sZ, sS]
            refine Ps.st (i := 2) (d := some 47) (u := (.pointer (some ⟨w.heap.size, 1, none⟩))) rfl rfl (by exact StepS.pure nP rfl fun _ => rfl) ?_
            try simp only [Act.put, sA, sZ, sS]
            refine Ps.st (i := 3) (d := some 48) (u := (.slice (some p) i c)) rfl rfl ?ywg36_40 ?rwg36_40
            case ywg36_40 =>
              refine StepS.read [] (by kernel_rfl) nP (by rfl) (fun L9 m9 w9 hSh hAt hDn hS => ?_)
              have hT : Below wr.heap.size wr w9 := hS
              have x0 : w9.cell? ⟨w.heap.size, 1, none⟩ = some (.slice (some p) i c) := (HBX.out.ca hT).cell 1
              clear hT hS
              go_simp
              try rfl
            try simp only [Act.put, sA, sZ, sS]
            refine Ps.st (i := 4) (d := some 49) (u := (.pointer (some ⟨w.heap.size, 2, none⟩))) rfl rfl (by exact StepS.pure nP rfl fun _ => rfl) ?_
            try simp only [Act.put, sA, sZ, sS]
            refine Ps.st (i := 5) (d := some 50) (u := (.slice (some p2) m d)) rfl rfl ?ywg36_42 ?rwg36_42
            case ywg36_42 =>
              refine StepS.read [] (by kernel_rfl) nP (by rfl) (fun L9 m9 w9 hSh hAt hDn hS => ?_)
              have hT : Below wr.heap.size wr w9 := hS
              have x0 : w9.cell? ⟨w.heap.size, 2, none⟩ = some (.slice (some p2) m d) := (HBX.out.ca hT).cell 2
              clear hT hS
              go_simp
              try rfl
            try simp only [Act.put, sA, sZ, sS]
            refine Ps.st (i := 6) (d := some 51) (u := (.int .i64 ((j : Int)))) rfl rfl (by exact StepS.pure nP rfl fun _ => rfl) ?_
            try simp only [Act.put, sA, sZ, sS]
            refine Ps.st (i := 7) (d := some 52) (u := (.pointer (some (p2.add j)))) rfl rfl (by exact StepS.pure nP rfl fun _ => by first | rfl | (go_simp; done) | (go_simp; rfl)) ?_
            try simp only [Act.put, sA, sZ, sS]
            refine Ps.st (i := 8) (d := some 53) (u := (.int .i64 ((r : Int)))) rfl rfl ?ywg36_45 ?rwg36_45
            case ywg36_45 =>
              refine StepS.read [] (by kernel_rfl) nP (by rfl) (fun L9 m9 w9 hSh hAt hDn hS => ?_)
              have hT : Below wr.heap.size wr w9 := hS
              have x0 : w9.cell? (p2.add j) = some (.int .i64 ((r : Int))) := ce e2 hT
              clear hT hS
              go_simp
              try rfl
            try simp only [Act.put, sA, sZ, sS]
            refine Ps.st (i := 9) (d := some 54) (u := (.pointer (some (p.add (r * 2))))) rfl rfl (by exact StepS.pure nP rfl fun _ => by first | rfl | (go_simp; done) | (go_simp; rfl)) ?_
            try simp only [Act.put, sA, sZ, sS]
            refine Ps.st (i := 10) (d := some 55) (u := (.pointer (some (p.add (r * 2))))) rfl rfl (by exact StepS.pure nP rfl fun _ => rfl) ?_
            try simp only [Act.put, sA, sZ, sS]
            refine Ps.st (i := 11) (d := some 56) (u := (.string xn)) rfl rfl ?ywg36_48 ?rwg36_48
            case ywg36_48 =>
              refine StepS.read [] (by kernel_rfl) nP (by rfl) (fun L9 m9 w9 hSh hAt hDn hS => ?_)
              have hT : Below wr.heap.size wr w9 := hS
              have x0 : w9.cell? (p.add (r * 2)) = some (.string xn) := ce e0 hT
              clear hT hS
              go_simp
              try rfl
            try simp only [Act.put, sA, sZ, sS]
            refine Ps.st (i := 12) (d := some 57) (u := (.string ((S ++ (⟨#[32]⟩ : ByteArray)) ++ xn))) rfl rfl (by exact StepS.pure nP rfl fun _ => by first | rfl | (go_simp; done) | (go_simp; rfl)) ?_
            try simp only [Act.put, sA, sZ, sS]
            refine Ps.st (i := 13) (d := some 3) (u := (.string ((S ++ (⟨#[32]⟩ : ByteArray)) ++ xn))) rfl rfl (by exact StepS.pure nP rfl fun _ => rfl) ?_
            try simp only [Act.put, sA, sZ, sS]
            refine Ps.done (by kernel_rfl) (fun wg36 hS => ?_) _
            have HT6 := Lib.hid (show Below wr.heap.size wr wg36 from hS)
            clear hS
            obtain ⟨w6, rfl⟩ : ∃ x, x = wg36 := ⟨_, rfl⟩
            have HBL5 := Lib.hid (bl_ca HBQ.out HT6.out)
            clear HBQ HBX HT6 e0 e2
            go_wp2_with fail
            go_roundg (gk - 1)
            · exact ⟨j + 1, _, by omega, rfl, by go_num, by simp only [ByteArray.size_append]; show S.size + 1 + xn.size ≤ _; omega, HN, HBL5⟩
            · omega
        · obtain rfl : j = m := by omega
          have hi1 : (j : Int) ≤ (j : Int) := by omega
          have f1 : ¬ (9223372036854775807 < S.size + 1) := by omega
          have HE := Lib.hid (show S ++ (⟨#[10]⟩ : ByteArray) = ⟨(lineL t).toArray⟩ from by
            rw [HS.out]
            unfold lineL W2 lineW jn
            rw [HL2.out, List.take_of_length_le (by rw [HL2.out]; exact Nat.le_refl _)]
            apply ByteArray.ext
            apply Array.toList_inj.1
            rw [ByteArray.data_append, Array.toList_append]
            all_goals simp)
          go_wp2
          go_ret
          exact ⟨by rw [← HE.out]; rfl, bl_ca HQ1.out HBQ.out⟩
end Go.Proofs.YthgcdilkkldgjaaGreatDoor
/- The reference's Print. Conditions: the catalog may be. -/
namespace Go.Proofs.YthgcdilkkldgjaaGreatDoor
open Go.RowKit
theorem catP_sz {l : List TC} (h : CatP l) {k : Nat} {t : TC} (hk : l[k]? = some t) : TabP t ∧ Sz t ∧ (lineL t).length ≤ 2000000 := by
  have ht := (tabB_iff t).1 (h.ok k t hk)
  have hs : Sz t := ⟨by have := name_le ht.nm; omega, fun j c hc => by
    have hb := ht.ok j c hc
    unfold colB at hb
    simp only [Bool.and_eq_true] at hb
    have := name_le hb.1
    omega⟩
  exact ⟨ht, hs, lineL_len hs ht.hi ht.keys.1⟩
set_option maxRecDepth 100000 in
set_option maxHeartbeats 4000000 in
theorem rprint_any (F : Nat → Prop) (l : List TC) (A : Option Addr) (m c : Nat) (w : World) (h : LT3.rd w F A m l) (hc : CatP l) :
    Calls Tryz.prog 9 #[.agg #[.slice A m c]] w fun e w' => e = .returned (.string ⟨(linesL l).toArray⟩) ∧ Below w.heap.size w w' := by
  have HL := Lib.hid (Lay.rd_len h)
  have hm4 : m ≤ 4 := by rw [← HL.out]; exact hc.hi
  have HC := Lib.hid hc
  have q1 := bl_al (Below.refl w.heap.size w) (.cells #[.slice A m c] 24)
  have HR1 := Lib.hid (Lay.rd_below h q1)
  have HB1 := Lib.hid (Blk.new w 24 #[.slice A m c])
  have HQ1 := Lib.hid q1
  clear q1 h hc
  go_enter Tryz.func9, Tryz.ntmps9
  go_wp2_with fail
  generalize w.alloc (.cells #[.slice A m c] 24) = w1 at *
  go_loopg [3, 4] m (fun g a b wr => ∃ (i : Nat) (S : ByteArray), i + g = m ∧ a = .string S ∧ b = .int .i64 i ∧ S.size ≤ 2000000 * i ∧ Hid (S = ⟨(linesL (l.take i)).toArray⟩) ∧ Hid (Below w1.heap.size w1 wr))
  case atStart => exact ⟨0, ⟨#[]⟩, by omega, rfl, rfl, Nat.le_refl _, Lib.hid (by rw [List.take_zero]; rfl), Lib.hid (Below.refl _ _)⟩
  case round =>
    obtain ⟨i, S, hig, rfl, rfl, hSs, HS, HBL⟩ := hrel
    have HBX := Lib.hid (HB1.out.ca HBL.out)
    have y0 := HBX.out.cell 0
    by_cases hlt : i < m
    · have hi1 : (i : Int) < (m : Int) := by omega
      obtain ⟨p, t, A1, n1, c1, B1, m1, d1, rfl, hx, s1⟩ := LT3_at (Lay.rd_below HR1.out HBL.out) hlt
      have e0 := s1.c0
      have e1 := s1.c1
      have e2 := s1.c2
      have HR := Lib.hid s1.rd
      have HK := Lib.hid s1.rk
      obtain ⟨ht, hs, hl⟩ := catP_sz HC.out hx
      have HTP := Lib.hid ht
      obtain ⟨x, hxE⟩ : ∃ x : ByteArray, x = ⟨(lineL t).toArray⟩ := ⟨_, rfl⟩
      have hxs : x.size ≤ 2000000 := by rw [hxE]; show (lineL t).toArray.size ≤ _; rw [List.size_toArray]; exact hl
      have HN := Lib.hid (show S ++ x = ⟨(linesL (l.take (i + 1))).toArray⟩ from by
        rw [HS.out, hxE, take_next hx, linesL_snoc, ba_append])
      have f1 : ¬ (9223372036854775807 < S.size + x.size) := by omega
      clear hx s1 ht hs hl HS
      go_wp2_with fail
      refine (rline_any _ _ t A1 n1 c1 B1 m1 d1 wr HR.out HK.out HTP.out).mono ?_
      rintro e w9 ⟨rfl, q9⟩
      rw [← hxE]
      have HB9 := Lib.hid (bl_ca HBL.out q9)
      clear hxE q9 y0 e0 e1 e2
      go_wp2
      go_roundg (gk - 1)
      · exact ⟨i + 1, _, by omega, rfl, by go_num, by rw [ByteArray.size_append]; omega, HN, HB9⟩
      · omega
    · obtain rfl : i = m := by omega
      have hi1 : (i : Int) ≤ (i : Int) := by omega
      have HE := Lib.hid (show S = ⟨(linesL l).toArray⟩ from by rw [HS.out, List.take_of_length_le (by rw [HL.out]; exact Nat.le_refl _)])
      clear HS
      go_wp2
      go_ret
      exact ⟨by rw [HE.out]; rfl, bl_ca HQ1.out HBL.out⟩
end Go.Proofs.YthgcdilkkldgjaaGreatDoor
/- strings.SplitAfterSeq and catalog.lines: the closures that they make. Conditions: none. -/
namespace Go.Proofs.YthgcdilkkldgjaaGreatDoor
open Go.RowKit
set_option maxRecDepth 100000 in
theorem splitSeq_any (s p : ByteArray) (k : Int) (w : World) : Calls Tryz.prog 65 #[.string s, .string p, .int .i64 k] w fun e w' => ∃ g, e = .returned (.func (.func 78) #[] #[.pointer (some ⟨g + 1, 0, none⟩), .pointer (some ⟨g, 0, none⟩), .pointer (some ⟨g + 2, 0, none⟩)]) ∧ g = w.heap.size ∧ Blk w' g 9 #[.string s] ∧ Blk w' (g + 1) 9 #[.string p] ∧ Blk w' (g + 2) 3 #[.int .i64 k] ∧ Below w.heap.size w w' ∧ w'.heap.size = w.heap.size + 3 := by
  have b0 := ((Blk.new w 9 #[.string s]).alloc (.cells #[.string p] 9)).alloc (.cells #[.int .i64 k] 3)
  have b1 := (Blk.new (w.alloc (.cells #[.string s] 9)) 9 #[.string p]).alloc (.cells #[.int .i64 k] 3)
  have b2 := Blk.new ((w.alloc (.cells #[.string s] 9)).alloc (.cells #[.string p] 9)) 3 #[.int .i64 k]
  rw [World.size_alloc] at b1
  rw [World.size_alloc, World.size_alloc] at b2
  go_enter Tryz.func65, Tryz.ntmps65
  go_wp2
  go_ret
  exact ⟨w.heap.size, rfl, rfl, b0, b1, b2, bl_al (bl_al (bl_al (Below.refl w.heap.size w) _) _) _, by simp only [World.size_alloc]⟩
set_option maxRecDepth 100000 in
theorem splitAfterSeq_any (s p : ByteArray) (w : World) : Calls Tryz.prog 45 #[.string s, .string p] w fun e w' => ∃ g, e = .returned (.func (.func 78) #[] #[.pointer (some ⟨g + 1, 0, none⟩), .pointer (some ⟨g, 0, none⟩), .pointer (some ⟨g + 2, 0, none⟩)]) ∧ g = w.heap.size ∧ Blk w' g 9 #[.string s] ∧ Blk w' (g + 1) 9 #[.string p] ∧ Blk w' (g + 2) 3 #[.int .i64 p.size] ∧ Below w.heap.size w w' ∧ w'.heap.size = w.heap.size + 3 := by
  go_enter Tryz.func45, Tryz.ntmps45
  go_wp2_with fail
  refine (splitSeq_any s p _ w).mono ?_
  rintro e w1 ⟨g, rfl, rfl, h1, h2, h3, q⟩
  go_wp2
  go_ret
  exact ⟨w.heap.size, rfl, rfl, h1, h2, h3, q⟩
set_option maxRecDepth 100000 in
theorem lines_any (s : ByteArray) (w : World) : Calls Tryz.prog 23 #[.string s] w fun e w' => ∃ g, e = .returned (.func (.func 44) #[] #[.pointer (some ⟨g, 0, none⟩)]) ∧ g = w.heap.size ∧ Blk w' g 9 #[.string s] ∧ Below w.heap.size w w' ∧ w'.heap.size = w.heap.size + 1 := by
  have b0 := Blk.new w 9 #[.string s]
  go_enter Tryz.func23, Tryz.ntmps23
  go_wp2
  go_ret
  exact ⟨w.heap.size, rfl, rfl, b0, bl_al (Below.refl w.heap.size w) _, by simp only [World.size_alloc]⟩
end Go.Proofs.YthgcdilkkldgjaaGreatDoor
/- A range over a function that writes variables of its own between the rounds. Conditions: named in the law. -/
namespace Go.Proofs.YthgcdilkkldgjaaGreatDoor
open Go.RowKit
variable {F : Fence} {n : Nat} {P : Program}
/-- J stands whatever becomes of the blocks in M, and whatever is laid -/
def AbM {α : Type} (M : Nat → Prop) (J : List α → World → Prop) : Prop := ∀ s W W' row, J s W → W.grownBy W' row → (∀ r, row = some r → M r) → J s W'
/-- the blocks in Kq lie as they lay -/
def KpM (Kq : Nat → Prop) (W W' : World) : Prop := W.heap.size ≤ W'.heap.size ∧ ∀ r, Kq r → r < W.heap.size → W'.heap[r]? = W.heap[r]?
theorem KpM.trans {Kq : Nat → Prop} {A B C : World} (h : KpM Kq A B) (k : KpM Kq B C) : KpM Kq A C :=
  ⟨Nat.le_trans h.1 k.1, fun r hr hl => (k.2 r hr (Nat.lt_of_lt_of_le hl h.1)).trans (h.2 r hr hl)⟩
theorem KpM.refl (Kq : Nat → Prop) (A : World) : KpM Kq A A := ⟨Nat.le_refl _, fun _ _ _ => rfl⟩
theorem KpM.mono {Kq Kr : Nat → Prop} {A B : World} (h : KpM Kq A B) (hk : ∀ r, Kr r → Kq r) : KpM Kr A B := ⟨h.1, fun r hr => h.2 r (hk r hr)⟩
theorem KpM.of_grown {Kq : Nat → Prop} {A B : World} {row : Option Nat} (h : A.grownBy B row) (hk : ∀ r, row = some r → ¬ Kq r) : KpM Kq A B :=
  ⟨h.size, fun r hr hl => h.block r hl (fun e => hk r e.symm hr)⟩
theorem KpM.of_below {Kq : Nat → Prop} {A B : World} (h : Below A.heap.size A B) : KpM Kq A B := ⟨h.size, fun r _ hl => h.block r hl⟩
/-- the contract of an iterator that writes the blocks in M alone, wants the blocks in Kq kept, and lays none of its own beyond Bf ahead of its first round -/
def SeqM {α : Type} (F : Fence) (n : Nat) (P : Program) (g : Nat) (lb : Array Value) (encs : α → Array Value) (S Sp : List α → Prop) (N : Nat) (M Kq : Nat → Prop) (Bf : Nat) (w : World) : Prop :=
  ∀ (l : Nat) (J Jx : List α → World → Prop), AbM M J → AbM M Jx →
    (∀ pre x W1, J pre W1 → Bf ≤ W1.heap.size → Sp (pre ++ [x]) → pre.length < N → YieldAt F (n - 1) P l (encs x) W1 fun e W' =>
      (e = .returned (.bool true) ∧ J (pre ++ [x]) W' ∧ KpM Kq W1 W') ∨ (e = .returned (.bool false) ∧ Jx (pre ++ [x]) W' ∧ KpM Kq W1 W')) →
    J [] w →
    CallsIn F n P g (#[.func (.yield l) #[] #[]] ++ lb) w fun e W' => (∃ v, e = .returned v) ∧ ((∃ xs, S xs ∧ J xs W') ∨ (∃ pre, Sp pre ∧ Jx pre W'))
/-- how the body of a round may be left -/
def postM {α : Type} (Kq : Nat → Prop) (I : List α → World → Prop) (Ix : Code → List α → World → Prop) (xs : List α) (W : World) : Exit → Act → World → Prop
  | .normal, _, W' => KpM Kq W W' ∧ I xs W'
  | .ret, _, W' => KpM Kq W W' ∧ Ix .ret xs W'
  | .exit id, _, W' => KpM Kq W W' ∧ Ix (.exit id) xs W'
  | .goto t, _, W' => KpM Kq W W' ∧ Ix (.goto t) xs W'
  | .panic _, _, _ => False
  | .outgrown, _, _ => False
theorem wpIn_rangeFunc_M {α : Type} {g : Operand} {ps : Array Tmp} {assign body : Code} {Q : Exit → Act → World → Prop} {a : Act} {w : World}
    (hro : F.round = none) (h1 : 1 ≤ n) {gf : Nat} {lb : Array Value} (hg : a.eval g = .func (.func gf) #[] lb) (hFg : F.fn gf) (eg : ∀ args w, (callFunc gf args).run P w = .ok (.enter gf args) w)
    {encs : α → Array Value} {S Sp : List α → Prop} {N Bf : Nat} (M Kq : Nat → Prop)
    (hseq : ∀ W1, Below w.heap.size w W1 → W1.heap.size = w.heap.size + 2 → SeqM F (n - 1) P gf lb encs S Sp N M Kq Bf W1)
    (hM : ∀ r, M r → r ≠ w.heap.size ∧ r ≠ w.heap.size + 1) (hKq : ∀ r, Kq r → r ≠ w.heap.size ∧ r ≠ w.heap.size + 1) (hps : ∀ x, (encs x).size = ps.size)
    (I : List α → World → Prop) (Ix : Code → List α → World → Prop) (hI : AbM (fun r => M r ∨ r = w.heap.size ∨ r = w.heap.size + 1) I) (hIx : ∀ c, AbM (fun r => M r ∨ r = w.heap.size ∨ r = w.heap.size + 1) (Ix c)) (h0 : I [] w) (a₁ : α → Act)
    (hassign : ∀ (l : Nat) (x : α) (W : World) (K : Act → World → Prop), K (a₁ x) W →
      assign.wpIn (F.inRound l) (n - 1 - 1) P (Exit.then K (fun _ _ _ => False)) { tmps := (ps.zip (encs x)).foldl (fun t (p, v) => t.setIfInBounds p v) a.tmps, defers := [] } W)
    (hbody : ∀ (l : Nat) (pre : List α) (x : α) (W : World), I pre W → Bf ≤ W.heap.size → Sp (pre ++ [x]) → pre.length < N →
      body.wpIn (F.inRound l) (n - 1 - 1) P (postM (fun r => Kq r ∨ r = w.heap.size ∨ r = w.heap.size + 1) I Ix (pre ++ [x]) W) (a₁ x) W)
    (hdone : ∀ (D : Nat) (xs : List α) (W : World), D = w.heap.size → S xs → I xs W → W.heap[D]? = some (.deferred (some [])) → Q .normal { a with defers := { target := .collected D, args := #[] } :: a.defers } W)
    (hstop : ∀ (D : Nat) (c : Code) (pre : List α) (W : World), D = w.heap.size → Sp pre → Ix c pre W → W.heap[D]? = some (.deferred (some [])) → c.wpIn F n P Q { a with defers := { target := .collected D, args := #[] } :: a.defers } W) :
    (Code.rangeFunc g ps assign body).wpIn F n P Q a w := by
  refine wpIn_rangeFunc ?_
  intro fn hfn
  rw [hro]
  obtain ⟨rec, hrec⟩ : ∃ rec : LoopState → Option Code → Loop, rec = fun st pe => { state := st, pending := pe, fn, tmps := a.tmps, params := ps, assign, body, defers := w.heap.size } := ⟨_, rfl⟩
  obtain ⟨W1, hW1⟩ : ∃ W1, (w.alloc (.deferred (some []))).alloc (.loop (rec .ready none)) = W1 := ⟨_, rfl⟩
  have hL1 : W1.heap[w.heap.size + 1]? = some (.loop (rec .ready none)) := by
    rw [← hW1]; have := World.alloc_heap_new (w.alloc (.deferred (some []))) (.loop (rec .ready none)); rwa [World.size_alloc] at this
  have hK1 : W1.heap[w.heap.size]? = some (.deferred (some [])) := by
    rw [← hW1]; exact (Below.heap_alloc _ _ _ (by simp)).trans (World.alloc_heap_new w _)
  have hI1 : I [] W1 := by
    rw [← hW1]
    exact hI _ _ _ none (hI _ _ _ none h0 (World.grownBy_alloc w _ none) (fun r e => by cases e)) (World.grownBy_alloc _ _ none) (fun r e => by cases e)
  have hb1 : Below w.heap.size w W1 := by
    rw [← hW1]; exact ((Below.refl _ w).alloc (Nat.le_refl _) _).alloc (by simp) _
  have hz1 : W1.heap.size = w.heap.size + 2 := by rw [← hW1, World.size_alloc, World.size_alloc]
  have hput : ∀ (J : List α → World → Prop), AbM (fun r => M r ∨ r = w.heap.size ∨ r = w.heap.size + 1) J → ∀ pre W o, J pre W → J pre (W.putObj (w.heap.size + 1) o) := fun J hJ pre W o h =>
    hJ _ _ _ (some (w.heap.size + 1)) h (grownBy_putObj' W _ o) (fun r e => .inr (.inr (by injection e with e; exact e.symm)))
  refine ⟨w.heap.size + 1, [{ target := .collected w.heap.size, args := #[] }], W1, { target := .fn (.func gf) lb, args := #[.func (.yield (w.heap.size + 1)) #[] #[]] }, W1, gf,
    #[.func (.yield (w.heap.size + 1)) #[] #[]] ++ lb, W1, ?_, ?_, ?_, ?_, fun _ => h1, ?_⟩
  · rw [← hW1, hrec]; exact run_enterLoop_outer _ _ _ _ _
  · simp only [resolve, hg]
    simp [go_sem]
  · intro f' hf'; simp [Target.leads] at hf'; subst hf'; exact hFg
  · simp [invoke, go_sem, eg]
  · have hab : ∀ {A B : World} {row : Option Nat} {k : Nat} {o : Obj}, A.grownBy B row → (∀ r, row = some r → M r) → (k = w.heap.size ∨ k = w.heap.size + 1) → A.heap[k]? = some o → B.heap[k]? = some o := fun {A B row k o} hg hr hk ho => by
      refine (hg.block k (Array.getElem?_eq_some_iff.1 ho).1 (fun e => ?_)).trans ho
      have := hM k (hr k e.symm)
      omega
    refine (hseq W1 hb1 hz1 (w.heap.size + 1)
      (fun pre W => I pre W ∧ W.heap[w.heap.size + 1]? = some (.loop (rec .ready none)) ∧ W.heap[w.heap.size]? = some (.deferred (some [])))
      (fun pre W => ∃ c, Ix c pre W ∧ W.heap[w.heap.size + 1]? = some (.loop (rec .done (some c))) ∧ W.heap[w.heap.size]? = some (.deferred (some [])))
      (fun s A B row hs hg' hr => ⟨hI s A B row hs.1 hg' (fun r e => .inl (hr r e)), hab hg' hr (.inr rfl) hs.2.1, hab hg' hr (.inl rfl) hs.2.2⟩)
      (fun s A B row hs hg' hr => by
        obtain ⟨c, hc, hl, hk⟩ := hs
        exact ⟨c, hIx c s A B row hc hg' (fun r e => .inl (hr r e)), hab hg' hr (.inr rfl) hl, hab hg' hr (.inl rfl) hk⟩)
      ?_ ⟨hI1, hL1, hK1⟩).mono ?_
    · rintro pre x W ⟨hi, hl, hk⟩ hbf hsp hlen
      have hlt : w.heap.size + 1 < W.heap.size := (Array.getElem?_eq_some_iff.1 hl).1
      have hy := run_yield (P := P) (args := encs x) hl (by rw [hrec]; exact hps x)
      rw [hrec] at hy
      refine ⟨fn, _, assign, body, hy, roundIn_of_wpIn hfn (hassign _ x W _ ⟨_, run_beginRound hl (by rw [hrec]), ?_⟩)⟩
      have hl2 : (W.putObj (w.heap.size + 1) (.loop { rec .ready none with state := .busy })).heap[w.heap.size + 1]? = some (.loop { rec .ready none with state := .busy }) := World.putObj_heap_same hlt
      have hk2 : (W.putObj (w.heap.size + 1) (.loop { rec .ready none with state := .busy })).heap[w.heap.size]? = some (.deferred (some [])) := (World.putObj_heap_other (by omega)).trans hk
      have hw2 : ∀ (W : World) o, KpM Kq W (W.putObj (w.heap.size + 1) o) := fun W o => KpM.of_grown (grownBy_putObj' W _ o) (fun r e hr => by injection e with e; have := (hKq r hr).2; omega)
      have hsz2 : (W.putObj (w.heap.size + 1) (.loop { rec .ready none with state := .busy })).heap.size = W.heap.size := Nat.le_antisymm (by simp [World.putObj]) (grownBy_putObj' W _ _).size
      refine wpIn_mono (hbody _ pre x _ (hput I hI _ _ _ hi) (by rw [hsz2]; exact hbf) hsp hlen) ?_
      have fin : ∀ (jump : Option Code) (W3 : World), KpM (fun r => Kq r ∨ r = w.heap.size ∨ r = w.heap.size + 1) (W.putObj (w.heap.size + 1) (.loop { rec .ready none with state := .busy })) W3 →
          (Instr.endRound (w.heap.size + 1) jump).run P W3 = .ok (.bool jump.isNone) (W3.putObj (w.heap.size + 1) (.loop (rec (if jump.isNone then .ready else .done) jump))) ∧
          W3.heap[w.heap.size + 1]? = some (.loop { rec .ready none with state := .busy }) ∧
          (W3.putObj (w.heap.size + 1) (.loop (rec (if jump.isNone then .ready else .done) jump))).heap[w.heap.size + 1]? = some (.loop (rec (if jump.isNone then .ready else .done) jump)) ∧
          (W3.putObj (w.heap.size + 1) (.loop (rec (if jump.isNone then .ready else .done) jump))).heap[w.heap.size]? = some (.deferred (some [])) := fun jump W3 hk3 => by
        have hl3 := (hk3.2 _ (.inr (.inr rfl)) (by rw [hsz2]; exact hlt)).trans hl2
        have hk4 := (hk3.2 _ (.inr (.inl rfl)) (by rw [hsz2]; omega)).trans hk2
        have := run_endRound (P := P) jump hl3
        rw [hrec] at this ⊢
        exact ⟨this, by rw [hrec] at hl3; exact hl3, World.putObj_heap_same (Array.getElem?_eq_some_iff.1 hl3).1, (World.putObj_heap_other (by omega)).trans hk4⟩
      rintro e a3 W3 hp
      cases e with
      | normal =>
        obtain ⟨hk3, hi3⟩ := hp
        obtain ⟨hr, hl3, hl4, hk4⟩ := fin none W3 hk3
        exact ⟨_, _, hr, .inl ⟨rfl, ⟨hput I hI _ _ _ hi3, hl4, hk4⟩, ((hw2 _ _).trans (hk3.mono (fun r h => .inl h))).trans (hw2 _ _)⟩⟩
      | ret =>
        obtain ⟨hk3, hi3⟩ := hp
        obtain ⟨hr, hl3, hl4, hk4⟩ := fin (some .ret) W3 hk3
        exact ⟨_, _, hr, .inr ⟨rfl, ⟨.ret, hput _ (hIx _) _ _ _ hi3, hl4, hk4⟩, ((hw2 _ _).trans (hk3.mono (fun r h => .inl h))).trans (hw2 _ _)⟩⟩
      | exit id =>
        obtain ⟨hk3, hi3⟩ := hp
        obtain ⟨hr, hl3, hl4, hk4⟩ := fin (some (.exit id)) W3 hk3
        exact ⟨_, _, hr, .inr ⟨rfl, ⟨.exit id, hput _ (hIx _) _ _ _ hi3, hl4, hk4⟩, ((hw2 _ _).trans (hk3.mono (fun r h => .inl h))).trans (hw2 _ _)⟩⟩
      | goto t =>
        obtain ⟨hk3, hi3⟩ := hp
        obtain ⟨hr, hl3, hl4, hk4⟩ := fin (some (.goto t)) W3 hk3
        exact ⟨_, _, hr, .inr ⟨rfl, ⟨.goto t, hput _ (hIx _) _ _ _ hi3, hl4, hk4⟩, ((hw2 _ _).trans (hk3.mono (fun r h => .inl h))).trans (hw2 _ _)⟩⟩
      | panic ch => exact hp.elim
      | outgrown => exact hp.elim
    · rintro e W2 ⟨⟨v, rfl⟩, (⟨xs, hS, hi, hl, hk⟩ | ⟨pre, hSp, c, hi, hl, hk⟩)⟩
      · exact ⟨none, _, by have := run_endLoop (P := P) hl (by rw [hrec]; simp); rw [hrec] at this; exact this, hdone _ xs _ rfl hS (hput I hI _ _ _ hi) ((World.putObj_heap_other (by omega)).trans hk)⟩
      · exact ⟨some c, _, by have := run_endLoop (P := P) hl (by rw [hrec]; simp); rw [hrec] at this; exact this, hstop _ c pre _ rfl hSp (hput _ (hIx c) _ _ _ hi) ((World.putObj_heap_other (by omega)).trans hk)⟩
end Go.Proofs.YthgcdilkkldgjaaGreatDoor
/- strings.splitSeq$1: the pieces of a text, one by one; it writes its captured text. Conditions: a text of at most 1000 bytes, cut at line feeds. -/
namespace Go.Proofs.YthgcdilkkldgjaaGreatDoor
open Go.RowKit Go.Shelf
attribute [local go_sem] Oper.semAt_some
theorem grown_of_below {w w' : World} (h : Below w.heap.size w w') : w.grownBy w' none := ⟨h.os, h.tape, h.output, h.size, fun k hk _ => h.block k hk⟩
def encP (x : List UInt8) : Array Value := #[.string ⟨x.toArray⟩]
theorem encP_ba (D : ByteArray) : encP D.data.toList = #[.string D] := by unfold encP; simp
/-- what the iterator knows of its own variables -/
def SpB (W : World) (gs gp gk : Nat) (r : ByteArray) : Prop := Blk W gs 9 #[.string r] ∧ Blk W gp 9 #[.string ⟨#[10]⟩] ∧ Blk W gk 3 #[.int .i64 1]
theorem blk_same {w w' : World} {g : Nat} {t : TypeId} {cs : Array Value} (h : Blk w g t cs) (hk : w'.heap[g]? = w.heap[g]?) : Blk w' g t cs := hk.trans h
theorem SpB.keep {W W' : World} {gs gp gk : Nat} {r : ByteArray} (h : SpB W gs gp gk r) (hk : KpM (fun x => x = gs ∨ x = gp ∨ x = gk) W W') : SpB W' gs gp gk r :=
  ⟨blk_same h.1 (hk.2 _ (.inl rfl) h.1.lt), blk_same h.2.1 (hk.2 _ (.inr (.inl rfl)) h.2.1.lt), blk_same h.2.2 (hk.2 _ (.inr (.inr rfl)) h.2.2.lt)⟩
def szB (v : Option Value) : Nat := match v with | some (.string s) => s.size | _ => 0
set_option maxRecDepth 100000 in
set_option maxHeartbeats 8000000 in
theorem split1_in (n : Nat) (hn : 1 ≤ n) (gs gp gk : Nat) (s : ByteArray) (W : World) (hs : s.size ≤ 1000) (h1 : gs ≠ gp) (h2 : gs ≠ gk) (hb : SpB W gs gp gk s) :
    SeqM Fence.wide n Tryz.prog 78 #[.pointer (some ⟨gp, 0, none⟩), .pointer (some ⟨gs, 0, none⟩), .pointer (some ⟨gk, 0, none⟩)] encP (fun xs => xs = pcs s.data.toList) (fun pre => pre <+: pcs s.data.toList) (pcs s.data.toList).length (fun r => r = gs) (fun r => r = gs ∨ r = gp ∨ r = gk) W.heap.size W := by
  intro l J Jx hJ hJx hY h0
  have HJ := Lib.hid hJ
  have HJX := Lib.hid hJx
  have HY := Lib.hid hY
  have HNE := Lib.hid (And.intro h1 h2)
  clear hJ hJx hY h1 h2
  refine callsIn_of_wp Tryz.func78 rfl trivial ?_ rfl
  simp only [Tryz.ntmps78, List.size_toArray, List.length_cons, List.length_nil, Nat.reduceAdd, Nat.reduceSub, Array.replicate_succ, Array.replicate_zero, List.push_toArray, List.append_toArray, List.nil_append, List.cons_append]
  have x1 : W.cell? ⟨gp, 0, none⟩ = some (.string ⟨#[10]⟩) := hb.2.1.cell 0
  gi_wp2
  gi_loopw [7] (fun i wr => ∃ (pre : List (List UInt8)) (r : ByteArray), J pre wr ∧ Hid (SpB wr gs gp gk r) ∧ Hid (pcs s.data.toList = pre ++ pcs r.data.toList) ∧ W.heap.size ≤ wr.heap.size ∧ r.size ≤ 1000) (fun _ wr => szB (wr.cell? ⟨gs, 0, none⟩))
  case atStart => exact ⟨[], s, h0, Lib.hid hb, Lib.hid rfl, Nat.le_refl _, hs⟩
  case round =>
    clear x1
    obtain ⟨pre, r, hJs, HS, HP, hsz, hr⟩ := hrel
    have HJS := Lib.hid hJs
    clear hJs
    have x1 : wr.cell? ⟨gp, 0, none⟩ = some (.string ⟨#[10]⟩) := HS.out.2.1.cell 0
    have x2 : wr.cell? ⟨gs, 0, none⟩ = some (.string r) := HS.out.1.cell 0
    have x3 : wr.cell? ⟨gk, 0, none⟩ = some (.int .i64 1) := HS.out.2.2.cell 0
    have HLR := Lib.hid (show r.data.toList.length = r.size from by simp)
    rcases idxB_range r.data.toList 10 with hm | ⟨i, hi, hlt⟩
    · -- the last piece
      have HPC := Lib.hid (show pcs s.data.toList = pre ++ [r.data.toList] from by rw [HP.out, pcs_none _ hm])
      have HIX := Lib.hid (Tryz.strings_Index_one r 10 wr)
      rw [hm] at HIX
      obtain ⟨fn, tmps, assign, body, hy, hR⟩ := HY.out pre r.data.toList wr HJS.out hsz (by rw [HPC.out]; exact List.prefix_refl _) (by rw [HPC.out]; simp)
      rw [encP_ba] at hy
      have HRR := Lib.hid hR
      clear hm hR
      gi_wp2
      refine ⟨trivial, (callsIn_wide.2 HIX.out).mono ?_⟩
      rintro e w2 ⟨rfl, rfl⟩
      gi_wp2
      refine HRR.out.mono ?_
      rintro e W3 (⟨rfl, hJ3, hk3⟩ | ⟨rfl, hJx3, _⟩)
      · have HJ3 := Lib.hid hJ3
        clear hJ3 hk3 hy
        gi_wp2
        go_end0
        exact ⟨⟨_, rfl⟩, .inl ⟨_, HPC.out.symm, HJ3.out⟩⟩
      · have HJ3 := Lib.hid hJx3
        clear hJx3 hy
        gi_wp2
        go_end0
        exact ⟨⟨_, rfl⟩, .inr ⟨_, by rw [HPC.out]; exact List.prefix_refl _, HJ3.out⟩⟩
    · have HPC := Lib.hid (show pcs s.data.toList = (pre ++ [r.data.toList.take (i + 1)]) ++ pcs (r.data.toList.drop (i + 1)) from by rw [HP.out, pcs_some _ i hi, List.append_assoc]; rfl)
      have HIX := Lib.hid (Tryz.strings_Index_one r 10 wr)
      rw [hi] at HIX
      have hlt2 : i < r.size := by rw [← HLR.out]; exact hlt
      have HX := Lib.hid (show (r.extract 0 (i + 1)).data.toList = r.data.toList.take (i + 1) from Lib.extract_from_zero r (i + 1))
      have HX2 := Lib.hid (show (r.extract (i + 1) r.size).data.toList = r.data.toList.drop (i + 1) from by rw [Lib.extract_data, List.take_of_length_le (by rw [List.length_drop, HLR.out]; exact Nat.le_refl _)])
      have hpl : pre.length < (pcs s.data.toList).length := by rw [HPC.out]; simp
      obtain ⟨fn, tmps, assign, body, hy, hR⟩ := HY.out pre (r.extract 0 (i + 1)).data.toList wr HJS.out hsz (by rw [HX.out, HPC.out]; exact List.prefix_append _ _) hpl
      rw [encP_ba] at hy
      have HRR := Lib.hid hR
      have HSZ := Lib.hid (show szB (wr.cell? ⟨gs, 0, none⟩) = r.size from by rw [x2]; rfl)
      clear hi hlt hR hpl
      gi_wp2
      refine ⟨trivial, (callsIn_wide.2 HIX.out).mono ?_⟩
      rintro e w2 ⟨rfl, rfl⟩
      have hi0 : 0 ≤ (i : Int) := by omega
      have hi1 : (i : Int) + 1 ≤ (r.size : Int) := by omega
      gi_wp2
      refine HRR.out.mono ?_
      rintro e W3 (⟨rfl, hJ3, hk3⟩ | ⟨rfl, hJx3, _⟩)
      · have HJ3 := Lib.hid hJ3
        have HS3 := Lib.hid (HS.out.keep hk3)
        have hsz3 := hk3.1
        clear hJ3 hk3 hy x1 x2 x3
        have x1 : W3.cell? ⟨gp, 0, none⟩ = some (.string ⟨#[10]⟩) := HS3.out.2.1.cell 0
        have x2 : W3.cell? ⟨gs, 0, none⟩ = some (.string r) := HS3.out.1.cell 0
        have f2 : W3.frozen? ⟨gs, 0, none⟩ = false := HS3.out.1.frozen 0
        have hi2 : 0 ≤ (i : Int) + 1 := by omega
        gi_wp2
        have hb1 : Blk (W3.setCell ⟨gs, 0, none⟩ (.string (r.extract (i + 1) r.size))) gs 9 #[.string (r.extract (i + 1) r.size)] := by simpa using HS3.out.1.set_ 0 (.string (r.extract (i + 1) r.size))
        have hxs : (r.extract (i + 1) r.size).size = r.size - (i + 1) := by rw [ByteArray.size_extract]; omega
        have hsz4 : (W3.setCell ⟨gs, 0, none⟩ (.string (r.extract (i + 1) r.size))).heap.size = W3.heap.size := World.size_setCell _ _ _
        go_roundw
        case rel => exact ⟨pre ++ [(r.extract 0 (i + 1)).data.toList], r.extract (i + 1) r.size, HJ.out _ _ _ (some gs) HJ3.out (grownBy_setCell' W3 gs _) (fun r e => by injection e with e; exact e.symm), Lib.hid ⟨hb1, HS3.out.2.1.far (p := ⟨gs, 0, none⟩) (Ne.symm HNE.out.1) _, HS3.out.2.2.far (p := ⟨gs, 0, none⟩) (Ne.symm HNE.out.2) _⟩, Lib.hid (by rw [HPC.out, HX.out, HX2.out]), by rw [hsz4]; omega, by omega⟩
        case measure =>
          have hc : (W3.setCell ⟨gs, 0, none⟩ (.string (r.extract (i + 1) r.size))).cell? ⟨gs, 0, none⟩ = some (.string (r.extract (i + 1) r.size)) := hb1.cell 0
          rw [HSZ.out, hc]
          show (r.extract (i + 1) r.size).size < r.size
          omega
      · have HJ3 := Lib.hid hJx3
        clear hJx3 hy
        gi_wp2
        refine bodyPost_ret (results_none rfl _ _ _) rfl ?_
        exact ⟨⟨_, rfl⟩, .inr ⟨_, by rw [HX.out, HPC.out]; exact List.prefix_append _ _, HJ3.out⟩⟩
end Go.Proofs.YthgcdilkkldgjaaGreatDoor
