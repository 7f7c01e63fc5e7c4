/- Which nets may be: net.Check. Conditions: the slice reads as these parcels. -/
import Derived.Test.YtnbcffnhgijmcaaNPair
namespace Go.Proofs.Ytnbcffnhgijmcaa
open Go.RowKit
def parB (sent last : Int) (p : PC) : Bool := decide (last < p.num) && decide (p.num ≤ sent) && pairB p.frm p.to && decide ((p.bs.length : Int) ≤ 60000) && (decide ((0 : Int) < p.bs.length) || !p.sp)
def goB (sent : Int) : Int → List PC → Bool
  | _, [] => true
  | last, p :: l => parB sent last p && goB sent p.num l
def chkB (sent : Int) (ps : List PC) : Bool := decide (sent ≤ 1099511627776) && decide ((ps.length : Int) ≤ 20000) && goB sent 0 ps
theorem drop_at {α : Type} {l : List α} {i : Nat} {x : α} (h : l[i]? = some x) : l.drop i = x :: l.drop (i + 1) := by
  obtain ⟨hi, rfl⟩ := List.getElem?_eq_some_iff.1 h
  exact List.drop_eq_getElem_cons hi
def errN (b : Bool) : Int := if b then 0 else 340
set_option maxRecDepth 100000 in
set_option maxHeartbeats 4000000 in
theorem check_any (F : Nat → Prop) (sent : Int) (A : Option Addr) (m c : Nat) (ps : List PC) (w : World) (h : LP.rd w F A m ps) (hm : m ≤ 9223372036854775807) :
    Calls Try.prog 17 #[.agg #[.int .u64 sent, .slice A m c]] w fun e w' => e = .returned (.int .i64 (errN (chkB sent ps))) ∧ Below w.heap.size w w' := by
  obtain ⟨r, hr⟩ : ∃ r, r = chkB sent ps := ⟨_, rfl⟩
  rw [← hr]
  have HL := Lib.hid h.1
  obtain ⟨ok, hok⟩ : ∃ ok, ok = (decide (sent ≤ 1099511627776) && decide ((ps.length : Int) ≤ 20000)) := ⟨_, rfl⟩
  have HG := Lib.hid (show r = (ok && goB sent 0 (ps.drop 0)) from by rw [hr, hok]; rfl)
  have HOK := Lib.hid hok
  clear hr hok
  go_enter Try.func17, Try.ntmps17
  go_wp2
  all_goals
    have b1 := bl_al (Below.refl w.heap.size w) (.cells #[.int .u64 sent, .slice A m c] 26)
    have hN := Blk.new w 26 #[.int .u64 sent, .slice A m c]
    have h0 := Lay.rd_below h b1
    generalize w.alloc (.cells #[.int .u64 sent, .slice A m c] 26) = w0 at *
    go_loopg [3, 4, 19] m (fun g o l s wr => ∃ (i : Nat) (b : Bool) (last : Int), i + g ≤ m ∧ m ≤ i + g ∧ s = .int .i64 i ∧ o = .bool b ∧ l = .int .u64 last ∧ Hid (r = (b && goB sent last (ps.drop i))) ∧ Below w0.heap.size w0 wr)
    case atStart => exact ⟨0, _, 0, by omega, by omega, rfl, rfl, rfl, Lib.hid (by rw [HG.out, HOK.out, HL.out]; first | (simp [*]; done) | (simp [*]; intro h1; omega)), Below.refl _ _⟩
    case round =>
      obtain ⟨i, b, last, hi1, hi2, rfl, rfl, rfl, HB, b0⟩ := hrel
      have hNr := hN.ca b0
      by_cases hi : i < m
      · obtain ⟨p, x, B, n', c', rfl, hx, s1⟩ := LP_at (Lay.rd_below h0 b0) hi
        have HD := Lib.hid (drop_at hx)
        have e0 := s1.c0
        have e1 := s1.c1
        have e2 := s1.c2
        have e3 := s1.c3
        have e4 := s1.c4
        have hnc : (n' : Int) ≤ c' := by have := s1.nc; omega
        have HLN := Lib.hid s1.len
        have bT := bl_al b0 (.cells #[.int .u64 x.num, .int .i64 x.frm, .int .i64 x.to, .slice B n' c', .bool x.sp] 29)
        have q0 : (wr.alloc (.cells #[.int .u64 x.num, .int .i64 x.frm, .int .i64 x.to, .slice B n' c', .bool x.sp] 29)).cell? ⟨w.heap.size, 0, none⟩ = some (.int .u64 sent) := (hNr.ca (bl_al (Below.refl _ _) _)).cell 0
        have HP := Lib.hid (fun w => pair_any x.frm x.to w)
        have HB2 := Lib.hid (show r = ((b && parB sent last x) && goB sent x.num (ps.drop (i + 1))) from by rw [HB.out, HD.out, goB, Bool.and_assoc])
        have HPB := Lib.hid (show parB sent last x = (decide (last < x.num) && decide (x.num ≤ sent) && pairB x.frm x.to && decide ((n' : Int) ≤ 60000) && (decide ((0 : Int) < n') || !x.sp)) from by unfold parB; rw [HLN.out])
        generalize pairB x.frm x.to = pb at *
        clear HB HD hx s1 HLN
        cases b
        · have HB3 := Lib.hid (show r = (false && goB sent x.num (ps.drop (i + 1))) from HB2.out)
          go_wp2
          go_roundg (gk - 1)
          · exact ⟨i + 1, false, x.num, by omega, by omega, by go_num, rfl, rfl, HB3, bT⟩
          · omega
        · by_cases c1 : last < x.num
          · by_cases c2 : x.num ≤ sent
            · cases pb
              · skip
                go_wp2_with fail
                refine (HP.out _).mono ?_
                rintro e w2 ⟨rfl, rfl⟩
                go_wp2
                go_roundg (gk - 1)
                · exact ⟨i + 1, _, x.num, by omega, by omega, by go_num, rfl, rfl, Lib.hid (by rw [HB2.out, HPB.out, dt c1, dt c2]; simp), bT⟩
                · omega
              · by_cases c0 : n' = 0
                · subst c0
                  obtain ⟨sp, hsp⟩ : ∃ sp, x.sp = sp := ⟨_, rfl⟩
                  rw [hsp] at e4 q0 bT HPB
                  clear hsp
                  cases sp
                  · skip
                    go_wp2_with fail
                    refine (HP.out _).mono ?_
                    rintro e w2 ⟨rfl, rfl⟩
                    go_wp2
                    go_roundg (gk - 1)
                    · exact ⟨i + 1, _, x.num, by omega, by omega, by go_num, rfl, rfl, Lib.hid (by rw [HB2.out, HPB.out, dt c1, dt c2]; simp), bT⟩
                    · omega
                  · skip
                    go_wp2_with fail
                    refine (HP.out _).mono ?_
                    rintro e w2 ⟨rfl, rfl⟩
                    go_wp2
                    go_roundg (gk - 1)
                    · exact ⟨i + 1, _, x.num, by omega, by omega, by go_num, rfl, rfl, Lib.hid (by rw [HB2.out, HPB.out, dt c1, dt c2]; simp), bT⟩
                    · omega
                · have c4 : (0 : Int) < n' := by omega
                  by_cases c3 : (n' : Int) ≤ 60000
                  · skip
                    go_wp2_with fail
                    refine (HP.out _).mono ?_
                    rintro e w2 ⟨rfl, rfl⟩
                    go_wp2
                    go_roundg (gk - 1)
                    · exact ⟨i + 1, _, x.num, by omega, by omega, by go_num, rfl, rfl, Lib.hid (by rw [HB2.out, HPB.out, dt c1, dt c2, dt c3, dt c4]; simp), bT⟩
                    · omega
                  · have c5 : (60000 : Int) < n' := by omega
                    go_wp2_with fail
                    refine (HP.out _).mono ?_
                    rintro e w2 ⟨rfl, rfl⟩
                    go_wp2
                    go_roundg (gk - 1)
                    · exact ⟨i + 1, _, x.num, by omega, by omega, by go_num, rfl, rfl, Lib.hid (by rw [HB2.out, HPB.out, dt c1, dt c2, df (by omega)]; simp), bT⟩
                    · omega
            · have c5 : sent < x.num := by omega
              go_wp2
              go_roundg (gk - 1)
              · exact ⟨i + 1, _, x.num, by omega, by omega, by go_num, rfl, rfl, Lib.hid (by rw [HB2.out, HPB.out, dt c1, df (by omega)]; simp), bT⟩
              · omega
          · have c5 : x.num ≤ last := by omega
            go_wp2
            go_roundg (gk - 1)
            · exact ⟨i + 1, _, x.num, by omega, by omega, by go_num, rfl, rfl, Lib.hid (by rw [HB2.out, HPB.out, df (by omega)]; simp), bT⟩
            · omega
      · obtain rfl : i = m := by omega
        have HE := Lib.hid (show r = b from by rw [HB.out, List.drop_of_length_le (by rw [HL.out]; exact Nat.le_refl _)]; simp [goB])
        clear HB
        cases b
        · go_wp2
          go_ret
          exact ⟨by rw [HE.out]; rfl, bl_ca b1 b0⟩
        · go_wp2
          go_ret
          exact ⟨by rw [HE.out]; rfl, bl_ca b1 b0⟩
end Go.Proofs.Ytnbcffnhgijmcaa
