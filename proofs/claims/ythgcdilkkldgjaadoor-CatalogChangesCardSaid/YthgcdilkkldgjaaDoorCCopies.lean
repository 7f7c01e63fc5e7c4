/- The layer's copies. Conditions: the slice reads so; the rows are not endless. -/
import Derived.Test.YthgcdilkkldgjaaDoorCClone
namespace Go.Proofs.YthgcdilkkldgjaaDoor
open Go.RowKit
set_option maxRecDepth 100000 in
set_option maxHeartbeats 4000000 in
theorem copies_any (F : Nat → Prop) (l : List TC) (A : Option Addr) (m c : Nat) (w : World) (h : LT3.rd w F A m l) (hm : m ≤ 100000) (hlen : ∀ (k : Nat) (t : TC), l[k]? = some t → t.cols.length ≤ 100000 ∧ t.keys.length ≤ 100000) :
    Calls Tryd.prog 30 #[.slice A m c] w fun e w' => ∃ A2 c2, e = .returned (.slice A2 m c2) ∧ LT3.own 28 w' w.heap.size (fun b => w.heap.size ≤ b ∧ b < w'.heap.size) A2 m c2 l ∧ Below w.heap.size w w' := by
  have HL := Lib.hid (Lay.rd_len h)
  have HLEN := Lib.hid hlen
  have HRD := Lib.hid h
  clear h hlen
  go_enter Tryd.func30, Tryd.ntmps30
  go_wp2_with fail
  go_loopg [3, 8] m (fun g a b wr => ∃ (i : Nat) (A2 : Option Addr) (c2 : Nat), i + g = m ∧ a = .slice A2 i c2 ∧ b = .int .i64 i ∧ LT3.own 28 wr w.heap.size (fun b => w.heap.size ≤ b ∧ b < wr.heap.size) A2 i c2 (l.take i) ∧ Below w.heap.size w wr)
  case atStart => exact ⟨0, none, 0, by omega, rfl, rfl, Lay.own_nil _ _, Below.refl _ _⟩
  case round =>
    obtain ⟨i, A2, c2, hig, rfl, rfl, hown, hbel⟩ := hrel
    have HOW := Lib.hid hown
    have HBL := Lib.hid hbel
    have h1 := Lay.rd_below HRD.out hbel
    have hsz := hbel.size
    clear hown hbel
    by_cases hlt : i < m
    · have hi1 : (i : Int) < (m : Int) := by omega
      obtain ⟨p, t, A1, n1, c1, B1, m1, d1, hAe, hx, s1⟩ := LT3_at h1 hlt
      obtain rfl : A = some p := hAe
      have HT := Lib.hid (take_next hx)
      have HLN := Lib.hid (HLEN.out i t hx)
      have HLC := Lib.hid (And.intro (Lay.rd_len s1.rd) (Lay.rd_len s1.rk))
      have e0 := s1.c0
      have e1 := s1.c1
      have e2 := s1.c2
      have q5 := bl_al (Below.refl wr.heap.size wr) (.cells (t.cells A1 n1 c1 B1 m1 d1) 28)
      have HCP := Lib.hid (copiedt_any F t A1 n1 c1 B1 m1 d1 _ (Lay.rd_below s1.rd q5) (Lay.rd_below s1.rk q5) (by have := HLN.out.1; rw [HLC.out.1] at this; exact this) (by have := HLN.out.2; rw [HLC.out.2] at this; exact this))
      have HOW5 := Lib.hid (Lay.own_below HOW.out q5)
      have HQ5 := Lib.hid q5
      have HOB := Lib.hid (fun k e => Lay.own_base HOW.out k e)
      have hs5 : (wr.alloc (.cells (t.cells A1 n1 c1 B1 m1 d1) 28)).heap.size = wr.heap.size + 1 := by simp only [World.size_alloc]
      clear hx s1 q5 HOW HLN HLC h1
      go_wp2_with fail
      refine HCP.out.mono ?_
      rintro e w6 ⟨A6, c6, B6, d6, rfl, hr6, h6a, h6b, hk6, h6c, h6d, q6⟩
      have hs6 := q6.size
      have q8 := bl_al (Below.refl w6.heap.size w6) (.cells #[.string t.name, .slice A6 n1 c6, .slice B6 m1 d6] 28)
      have HOW8 := Lib.hid (Lay.own_weak (G' := fun b => w.heap.size ≤ b ∧ b < w6.heap.size + 1) (fun b hb _ => ⟨hb.1, by have := hb.2; omega⟩) (Lay.own_below (Lay.own_below HOW5.out q6) q8))
      have HQ8 := Lib.hid (bl_ca HBL.out (bl_ca (bl_ca HQ5.out q6) q8))
      have HRB := Lib.hid (show LT3.rd (w6.alloc (.cells #[.string t.name, .slice A6 n1 c6, .slice B6 m1 d6] 28)) (fun b => wr.heap.size + 1 ≤ b ∧ b < w6.heap.size + 1) (some ⟨w6.heap.size, 0, none⟩) 1 [t] from Lay.rd_blk (Blk.new w6 28 _) rfl (Lay.reps_single ⟨A6, n1, c6, B6, m1, d6, rfl, h6a, h6b, Lay.rd_weak (fun b hb hl => by simp only [World.size_alloc] at hb hl; omega) (Lay.rd_below hr6 q8), h6c, h6d, Lay.rd_weak (fun b hb hl => by simp only [World.size_alloc] at hb hl; omega) (Lay.rd_below hk6 q8)⟩) (by omega))
      clear hr6 hk6 q6 q8 HOW5 HQ5 e0 e1 e2 HCP HBL
      go_wp2_with (at_builtin; refine wpList_appLs (L := LT3) rfl (.tmp 12) (.tmp 15) 22 rfl _ 3 64 Tryd.underlying22 Tryd.tableInfo rfl rfl (by omega) w.heap.size (fun b => w.heap.size ≤ b ∧ b < w6.heap.size + 1) (fun b => wr.heap.size + 1 ≤ b ∧ b < w6.heap.size + 1) A2 i c2 (l.take i) (some ⟨w6.heap.size, 0, none⟩) 1 1 [t] (i + 1) rfl rfl rfl HOW8.out HRB.out (fun b hb _ => ⟨⟨by omega, hb.2⟩, fun e => by have h9 := HOB.out b e; omega⟩) (fun b hb => by simp only [World.size_alloc]; omega) (by omega) (by unfold maxLen; omega) (by simp only [World.size_alloc]; omega) ?_; intro A9 c9 w9 ho9 hg9 hat9; have HBL9 := Lib.hid (HQ8.out.grown hg9 HQ8.out.size (fun k e => by have h9 := HOB.out k e; omega)); have HOW9 := Lib.hid ho9; have HSZ := Lib.hid hg9.size; clear ho9 hg9 hat9)
      have hsz9 := HSZ.out
      simp only [World.size_alloc] at hsz9
      go_roundg (gk - 1)
      · exact ⟨i + 1, A9, c9, by omega, rfl, by go_num, by rw [HT.out]; exact Lay.own_weak (fun b hb _ => ⟨hb.1, by have := hb.2; omega⟩) HOW9.out, HBL9.out⟩
      · omega
    · obtain rfl : i = m := by omega
      have hi1 : (i : Int) ≤ (i : Int) := by omega
      have HTK := Lib.hid (show l.take i = l from List.take_of_length_le (by rw [HL.out]; exact Nat.le_refl _))
      go_wp2
      go_ret
      exact ⟨A2, c2, rfl, by have h9 := HOW.out; rw [HTK.out] at h9; exact h9, HBL.out⟩
end Go.Proofs.YthgcdilkkldgjaaDoor
