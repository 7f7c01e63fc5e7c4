/- The layer's all: a text's tokens, one by one. Conditions: a text of at most 600 bytes; what the tables hold. -/
import Derived.Test.YtnpicnddcoaboaaGreatDoorLxG6
import Derived.RangeFuncNested
import Derived.RangeFuncBound
import Derived.RangeFuncCalls
import Derived.RangeFuncLeaves
import Derived.RangeFuncBox
import Derived.Shelf.Abstract
import Derived.Shelf.RegionOpen
import Derived.WalkKit
import Derived.WalkMore
import Derived.OwnWalkIn
import Derived.TacticsInMore
import Derived.LoopNIn
import Derived.LoopIn
import Derived.Maps.AppendAt
namespace Go.Proofs.YtnpicnddcoaboaaGreatDoor
open Go.RowKit Go.Shelf
attribute [local go_sem] Oper.semAt_some
theorem grown_of_below {w w' : World} (h : Below w.heap.size w w') : w.grownBy w' none := ⟨h.os, h.tape, h.output, h.size, fun k hk _ => h.block k hk⟩
/-- so far these were told, and one stands at this place -/
def RunP (l : List UInt8) (pre : List (Tk × Bool)) (p : Nat) : Prop := (∀ x ∈ pre, x.2 = true) ∧ p ≤ l.length ∧ lexF l 0 = (pre.map Prod.fst ++ (lexF (l.drop p) p).1, (lexF (l.drop p) p).2)
/-- the last one told is wrong -/
def BadP (l : List UInt8) (ys : List (Tk × Bool)) : Prop := ∃ pre t p, ys = pre ++ [(t, false)] ∧ RunP l pre p ∧ lexF (l.drop p) p = ([], some p) ∧ t.at_ = (p : Int)
def DoneP (l : List UInt8) (ys : List (Tk × Bool)) : Prop := RunP l ys l.length ∨ BadP l ys
def StopP (l : List UInt8) (ys : List (Tk × Bool)) : Prop := (∃ p, RunP l ys p) ∨ BadP l ys
theorem RunP.start (l : List UInt8) : RunP l [] 0 := ⟨by simp, Nat.zero_le _, rfl⟩
theorem RunP.blank {l : List UInt8} {pre : List (Tk × Bool)} {p : Nat} {b : UInt8} (h : RunP l pre p) (hb : l[p]? = some b) (hbl : blU b = true) : RunP l pre (p + 1) := by
  have hp : p < l.length := by
    rcases Nat.lt_or_ge p l.length with h1 | h1
    · exact h1
    · rw [List.getElem?_eq_none h1] at hb; cases hb
  exact ⟨h.1, hp, by rw [h.2.2, drop_at hb, lexF_blank hbl]⟩
theorem RunP.tok {l : List UInt8} {pre : List (Tk × Bool)} {p n : Nat} {b : UInt8} {t : Tk} (h : RunP l pre p) (hb : l[p]? = some b) (hbl : blU b = false) (ho : (firstU (l.drop p)).2.2 = true) (ht : t = { (firstU (l.drop p)).1 with at_ := (p : Int) }) (hn : n = (firstU (l.drop p)).2.1) : RunP l (pre ++ [(t, true)]) (p + n) := by
  have hfp := first_pos ho
  rw [List.length_drop] at hfp
  refine ⟨fun x hx => ?_, by omega, ?_⟩
  · rcases List.mem_append.1 hx with hx | hx
    · exact h.1 x hx
    · rw [List.mem_singleton.1 hx]
  · have e := lexF_tok (p := p) (t := (firstU (l.drop p)).1) (n := (firstU (l.drop p)).2.1) hbl (by rw [← drop_at hb]; exact Prod.ext rfl (Prod.ext rfl ho))
    rw [← drop_at hb, List.drop_drop] at e
    rw [h.2.2, e, ht, hn]
    simp
theorem RunP.bad {l : List UInt8} {pre : List (Tk × Bool)} {p : Nat} {b : UInt8} {t : Tk} (h : RunP l pre p) (hb : l[p]? = some b) (hbl : blU b = false) (ho : (firstU (l.drop p)).2.2 = false) (ht : t.at_ = (p : Int)) : BadP l (pre ++ [(t, false)]) :=
  ⟨pre, t, p, rfl, h, by rw [drop_at hb] at ho ⊢; exact lexF_bad hbl ho, ht⟩
theorem blank_idx (c : UInt8) : (decide (0 ≤ Lib.indexByte [32, 9, 10, 13] c)) = blU c := by
  have h : ∀ k : UInt8, (c = k) ↔ (c.toNat : Int) = (k.toNat : Int) := fun k => ⟨fun e => by rw [e], fun e => UInt8.toNat_inj.1 (by omega)⟩
  have e : (decide (0 ≤ Lib.indexByte [32, 9, 10, 13] c)) = decide (c ∈ ([32, 9, 10, 13] : List UInt8)) := by
    simp only [Lib.indexByte, List.mem_cons, List.not_mem_nil, or_false]
    by_cases h1 : c = 32
    · subst h1; rfl
    · by_cases h2 : c = 9
      · subst h2; rfl
      · by_cases h3 : c = 10
        · subst h3; rfl
        · by_cases h4 : c = 13
          · subst h4; rfl
          · simp [h1, h2, h3, h4, Ne.symm h1, Ne.symm h2, Ne.symm h3, Ne.symm h4]
  rw [e]
  unfold blU blI
  rw [Bool.eq_iff_iff]
  simp only [decide_eq_true_eq, Bool.or_eq_true, List.mem_cons, List.not_mem_nil, or_false]
  rw [h 32, h 9, h 10, h 13]
  exact Iff.rfl
/-- what a round keeps: what lay at the start, and the text -/
def KpA (n₀ tb : Nat) (A B : World) : Prop := Below n₀ A B ∧ B.heap[tb]? = A.heap[tb]?
set_option maxRecDepth 100000 in
set_option maxHeartbeats 8000000 in
theorem all1_in (n : Nat) (hn : 1 ≤ n) (l tb : Nat) (s : ByteArray) (J Jx : List (Tk × Bool) → World → Prop) (w0 W : World) (hT : Tab w0) (hb0 : Below w0.heap.size w0 W) (hJ : AbidesFrom W.heap.size J) (hs : s.size ≤ 600)
    (hY : ∀ pre x W1, J pre W1 → pre.length < 601 → YieldAt Fence.wide (n - 1) Tryz.prog l #[.agg x.1.cells, .bool x.2] W1 fun e W' => (e = .returned (.bool true) ∧ J (pre ++ [x]) W' ∧ KpA w0.heap.size tb W1 W') ∨ (e = .returned (.bool false) ∧ Jx (pre ++ [x]) W'))
    (htb : W.cell? ⟨tb, 0, none⟩ = some (.string s)) (h0 : J [] W) :
    CallsIn Fence.wide n Tryz.prog 34 #[.func (.yield l) #[] #[], .pointer (some ⟨tb, 0, none⟩)] W fun e W' => (∃ v, e = .returned v) ∧ ((∃ ys, DoneP s.data.toList ys ∧ J ys W') ∨ (∃ pre, StopP s.data.toList pre ∧ Jx pre W')) := by
  have HL := Lib.hid (len_data s)
  have HT := Lib.hid hT
  have HB0 := Lib.hid hb0
  have HJ := Lib.hid hJ
  have HY := Lib.hid hY
  have HTB := Lib.hid htb
  clear hT hb0 hJ hY
  refine callsIn_of_wp Tryz.func34 rfl trivial ?_ rfl
  simp only [Tryz.ntmps34, List.size_toArray, List.length_cons, List.length_nil, Nat.reduceAdd, Nat.reduceSub, Array.replicate_succ, Array.replicate_zero, List.push_toArray, List.append_toArray, List.nil_append, List.cons_append]
  refine (wpIn_wide (n := n)).2 ?_
  go_step3
  refine (wpIn_wide (n := n)).1 ?_
  gi_wp2
  refine wpIn_label ?_
  gi_wp2
  gi_loopw [3] (fun i wr => ∃ (k : Nat) (pre : List (Tk × Bool)), i = .int .i64 k ∧ J pre wr ∧ KpA w0.heap.size tb W wr ∧ Hid (RunP s.data.toList pre k ∧ pre.length ≤ k)) (fun i _ => s.size - (intOf i).toNat)
  case atStart => exact ⟨0, [], rfl, h0, ⟨Below.refl _ _, rfl⟩, Lib.hid ⟨RunP.start _, Nat.le_refl _⟩⟩
  case round =>
    obtain ⟨k, pre, rfl, hJs, hk, HR⟩ := hrel
    have htb : wr.cell? ⟨tb, 0, none⟩ = some (.string s) := (cell_of_heap hk.2).trans HTB.out
    have HK := Lib.hid hk
    have HJS := Lib.hid hJs
    have hsz := hk.1.size
    clear hJs hk
    by_cases hlt : k < s.size
    · have hi1 : (k : Int) < (s.size : Int) := by omega
      obtain ⟨b, hb⟩ := byte_at hlt
      have hix := run_bt hb
      have HBX := Lib.hid hb
      obtain ⟨z, hz⟩ : ∃ z, z = Lib.indexByte [32, 9, 10, 13] b := ⟨_, rfl⟩
      have HBI := Lib.hid (show decide (0 ≤ z) = blU b from by rw [hz]; exact blank_idx b)
      have HIB := Lib.hid (fun W => (Tryz.strings_IndexByte ⟨#[32, 9, 10, 13]⟩ (b.toNat : Int) W).mono (R' := fun e w' => e = .returned (.int .i64 z) ∧ W = w') (fun e w' ⟨h1, h2⟩ => ⟨by rw [h1, hz, show ((b.toNat : Int)).toNat.toUInt8 = b from by rw [Int.toNat_natCast]; exact UInt8.toNat_inj.1 (by simp)], h2.symm⟩))
      clear hb hz
      gi_wp2
      refine ⟨trivial, (callsIn_wide.2 (HIB.out _)).mono ?_⟩
      rintro e w2 ⟨rfl, rfl⟩
      cases hbl : blU b
      case true =>
        rw [hbl] at HBI
        have hz0 : 0 ≤ z := by simpa using HBI.out
        have HRN := Lib.hid (show RunP s.data.toList pre (k + 1) ∧ pre.length ≤ k + 1 from ⟨HR.out.1.blank HBX.out hbl, by have := HR.out.2; omega⟩)
        clear hbl hix
        gi_wp2
        go_roundw
        case rel => exact ⟨k + 1, pre, by go_num, HJS.out, HK.out, HRN.out⟩
        case measure => simp [intOf]; omega
      case false =>
        rw [hbl] at HBI
        have hz0 : z < 0 := by have := HBI.out; simpa using this
        have HBL := Lib.hid hbl
        clear hbl hix
        have hT2 := Lib.hid (HT.out.below (HB0.out.trans HK.out.1))
        have HX := Lib.hid (show (s.extract k s.size).data.toList = s.data.toList.drop k from by rw [Lib.extract_data, List.take_of_length_le (by rw [List.length_drop, HL.out]; exact Nat.le_refl _)])
        have hx1 : 1 ≤ (s.extract k s.size).size := by rw [← len_data, HX.out, List.length_drop, HL.out]; omega
        have hx2 : (s.extract k s.size).size ≤ 100000 := by rw [← len_data, HX.out, List.length_drop, HL.out]; omega
        have HFI := Lib.hid (lfirst_any (s.extract k s.size) wr hT2.out hx1 hx2)
        clear hx1 hx2
        gi_wp2
        refine ⟨trivial, (callsIn_wide.2 HFI.out).mono ?_⟩
        rintro e w2 ⟨⟨t, m, rfl, ht⟩, q2⟩
        rw [HX.out] at ht ⊢
        obtain ⟨o, ho⟩ : ∃ o, o = (firstU (s.data.toList.drop k)).2.2 := ⟨_, rfl⟩
        rw [← ho] at ht ⊢
        obtain ⟨tk, ta, tx, tn⟩ := t
        have HO := Lib.hid ho
        have HTT := Lib.hid ht
        have b1 := bl_al (Below.refl w2.heap.size w2) (.cells #[.int .i64 tk, .int .i64 (k : Int), .string (bS tx), .int .u64 (tn : Int)] 29)
        have Q3 := Lib.hid (bl_ca q2 b1)
        have htl := World.block_lt_of_cell? wr _ htb
        have HKN := Lib.hid (show KpA w0.heap.size tb W (w2.alloc (.cells #[.int .i64 tk, .int .i64 (k : Int), .string (bS tx), .int .u64 (tn : Int)] 29)) from ⟨HK.out.1.trans (Q3.out.mono (Nat.le_trans HB0.out.size hsz)), (Q3.out.block _ htl).trans HK.out.2⟩)
        obtain ⟨fn, tmps, assign, body, hy, hR⟩ := HY.out pre (⟨tk, (k : Int), tx, tn⟩, o) (w2.alloc (.cells #[.int .i64 tk, .int .i64 (k : Int), .string (bS tx), .int .u64 (tn : Int)] 29)) (HJ.out _ _ _ none HJS.out (grown_of_below Q3.out) (fun r e => by cases e)) (by have := HR.out.2; omega)
        have HRR := Lib.hid hR
        clear b1 q2 ht ho hR htb htl
        cases o
        · have HBP := Lib.hid (HR.out.1.bad (t := ⟨tk, (k : Int), tx, tn⟩) HBX.out HBL.out HO.out.symm rfl)
          gi_wp2
          refine HRR.out.mono ?_
          rintro e W3 (⟨rfl, hJ3, hk3⟩ | ⟨rfl, hJx3⟩)
          · have HJ3 := Lib.hid hJ3
            clear hJ3 hk3 hy
            gi_wp2
            rw [Exit.noGoto_normal]
            go_end0
            exact ⟨⟨_, rfl⟩, .inl ⟨_, .inr HBP.out, HJ3.out⟩⟩
          · have HJ3 := Lib.hid hJx3
            clear hJx3 hy
            gi_wp2
            rw [Exit.noGoto_normal]
            go_end0
            exact ⟨⟨_, rfl⟩, .inr ⟨_, .inr HBP.out, HJ3.out⟩⟩
        · obtain ⟨hta, htm⟩ := HTT.out rfl
          have hfp := first_pos (l := s.data.toList.drop k) HO.out.symm
          rw [List.length_drop, HL.out] at hfp
          obtain ⟨j, hj⟩ : ∃ j, j = (firstU (s.data.toList.drop k)).2.1 := ⟨_, rfl⟩
          have HTK := Lib.hid (show (⟨tk, (k : Int), tx, tn⟩ : Tk) = { (firstU (s.data.toList.drop k)).1 with at_ := (k : Int) } from by
            have h1 := congrArg Tk.kind hta
            have h2 := congrArg Tk.text hta
            have h3 := congrArg Tk.n hta
            simp only at h1 h2 h3
            rw [h1, h2, h3])
          have HRN := Lib.hid (HR.out.1.tok HBX.out HBL.out HO.out.symm HTK.out hj)
          rw [← hj, Nat.zero_add] at htm
          rw [← hj] at hfp
          subst htm
          clear hta hj
          have HPL := Lib.hid (show (pre ++ [((⟨tk, (k : Int), tx, tn⟩ : Tk), true)]).length ≤ k + j from by rw [List.length_append]; have := HR.out.2; simp only [List.length_cons, List.length_nil]; omega)
          gi_wp2
          refine HRR.out.mono ?_
          rintro e W3 (⟨rfl, hJ3, hk3⟩ | ⟨rfl, hJx3⟩)
          · have HJ3 := Lib.hid hJ3
            have HK3 := Lib.hid (show KpA w0.heap.size tb W W3 from ⟨HKN.out.1.trans hk3.1, hk3.2.trans HKN.out.2⟩)
            clear hJ3 hk3 hy
            gi_wp2
            go_roundw
            case rel => exact ⟨k + j, _, by go_num, HJ3.out, HK3.out, Lib.hid ⟨HRN.out, HPL.out⟩⟩
            case measure => simp [intOf]; omega
          · have HJ3 := Lib.hid hJx3
            clear hJx3 hy
            gi_wp2
            rw [Exit.noGoto_normal]
            go_end0
            exact ⟨⟨_, rfl⟩, .inr ⟨_, .inl ⟨_, HRN.out⟩, HJ3.out⟩⟩
    · have hi1 : (s.size : Int) ≤ (k : Int) := by omega
      have HF := Lib.hid (show DoneP s.data.toList pre from .inl (by have h := HR.out.1; have h2 := h.2.1; rw [HL.out] at h2; rw [show k = s.data.toList.length from by rw [HL.out]; omega] at h; exact h))
      gi_wp2
      rw [Exit.noGoto_normal]
      go_end0
      exact ⟨⟨_, rfl⟩, .inl ⟨_, HF.out, HJS.out⟩⟩
end Go.Proofs.YtnpicnddcoaboaaGreatDoor
