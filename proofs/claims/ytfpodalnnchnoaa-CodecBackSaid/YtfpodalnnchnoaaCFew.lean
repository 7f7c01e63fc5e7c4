/- bowspritlaw06.few. Conditions: the slice reads as these rows. -/
import Derived.Test.YtfpodalnnchnoaaCShort
import Derived.Test.YtfpodalnnchnoaaCRow
namespace Go.Proofs.Ytfpodalnnchnoaa
open Go.RowKit
theorem lv_reps {w : World} {F : Nat → Prop} : ∀ vs : List VV, LV.reps w F vs (vcells vs)
  | [] => rfl
  | _v :: l => ⟨_, _, rfl, rfl, lv_reps l⟩
theorem ownV_lay {w : World} {B : Nat} {A : Option Addr} {n c : Nat} {vs : List VV} (h : OwnV w B A n c vs) : LV.own 24 w B NoB A n c vs := ⟨h.len, vcells vs, lv_reps vs, h⟩
def fewR (most : Nat) (rows : List (List VV)) : List (List VV) := (rows.take most).map shortR
set_option maxRecDepth 100000 in
set_option maxHeartbeats 4000000 in
theorem few_any (F : Nat → Prop) (A : Option Addr) (n c : Nat) (rows : List (List VV)) (w : World) (h : LR.rd w F A n rows) (hn : n ≤ 9223372036854775807) :
    Calls Try.prog 13 #[.slice A n c, .int .i64 20] w fun e w' => ∃ A' k c', e = .returned (.slice A' k c') ∧ LR.own 27 w' w.heap.size (Since w w') A' k c' (fewR 20 rows) ∧ Below w.heap.size w w' := by
  have hlen := Lib.hid h.1
  go_enter Try.func13, Try.ntmps13
  go_wp2
  go_loopg [5, 10] n (fun g o s wr => ∃ (i k c' : Nat) (A' : Option Addr), i + g ≤ n ∧ n ≤ i + g ∧ s = .int .i64 i ∧ o = .slice A' k c' ∧ k ≤ i ∧ k ≤ 20 ∧ LR.own 27 wr w.heap.size (Since w wr) A' k c' (fewR 20 (rows.take i)) ∧ Below w.heap.size w wr)
  case atStart => exact ⟨0, 0, 0, none, by omega, by omega, rfl, rfl, by omega, by omega, by simpa [fewR] using Lay.own_nil w w.heap.size, Below.refl _ _⟩
  case round =>
    obtain ⟨i, k, c', A', hi1, hi2, rfl, rfl, hk1, hk2, ho, bb⟩ := hrel
    by_cases hi : i < n
    · obtain ⟨ad, r, Ar, nr, cr, rfl, hri, hal, hc0, l1, l2, hrd⟩ := Lay.slice_at (Lay.rd_below h bb) hi
      have HS := Lib.hid (show rows.take (i + 1) = rows.take i ++ [r] from by rw [List.take_add_one, hri]; rfl)
      clear hri
      by_cases him : i < 20
      · have hi3 : (i : Int) < (20 : Int) := by omega
        have HSH := Lib.hid (fun w h => short_any Ar nr cr r w h (Nat.le_trans l1 l2))
        have hrv := LV_rd hrd
        have HF := Lib.hid (show fewR 20 (rows.take (i + 1)) = fewR 20 (rows.take i) ++ [shortR r] from by
          have hil : (rows.take i).length ≤ i := List.length_take_le _ _
          unfold fewR
          rw [HS.out, List.take_append, List.map_append, List.take_of_length_le (l := [r]) (by simp; omega)]
          rfl)
        clear hrd HS l1 l2
        have hsr := bb.size
        go_wp2_with fail
        refine (HSH.out _ hrv).mono ?_
        rintro e w2 ⟨A2, k2, c2, rfl, hown, q2⟩
        have hrep := row_rep (ownV_lay hown) ho hsr
        have ho2 := Lay.own_weak (G' := Since w w2) (fun b hb _ => ⟨hb.1, Nat.lt_of_lt_of_le hb.2 q2.size⟩) (Lay.own_below ho q2)
        have ho3 := Lay.own_alloc ho2 (.cells #[.slice A2 k2 c2] 27)
        have hb2 := Blk.new w2 27 #[.slice A2 k2 c2]
        have hrep3 := LR.keep (fun b hb hlt => Below.heap_alloc w2 (.cells #[.slice A2 k2 c2] 27) b hlt) hrep
        have b3 := bl_al (bl_ca bb q2) (.cells #[.slice A2 k2 c2] 27)
        have hsz := b3.size
        have hGG : ∀ b, Since w w2 b → b < (w2.alloc (.cells #[.slice A2 k2 c2] 27)).heap.size := fun b hb => by have := hb.2; simp only [World.size_alloc]; omega
        clear hc0 hal hrv hown hrep ho2
        go_wp2_with (at_builtin; refine wpList_appL (L := LR) rfl (.tmp 18) (.tmp 21) 35 rfl _ 1 24 Try.underlying35 LR_own_info rfl rfl (by omega) w.heap.size (Since w w2) A' k c' (fewR 20 (rows.take i)) w2.heap.size 1 27 _ (shortR r) rfl rfl ho3 hb2 hrep3 hGG (by omega) (by simp only [maxLen]; omega) hsz ?_; intro A4 c4 w4 ho4 b4)
        have ho5 := Lay.own_weak (G' := Since w w4) (fun b hb hlt => ⟨hb.1, hlt⟩) ho4
        go_roundg (gk - 1)
        · exact ⟨i + 1, k + 1, c4, A4, by omega, by omega, by go_num, rfl, by omega, by omega, by rw [HF.out]; exact ho5, b3.trans b4⟩
        · omega
      · have hi3 : (20 : Int) ≤ (i : Int) := by omega
        have HF := Lib.hid (show fewR 20 (rows.take (i + 1)) = fewR 20 (rows.take i) from by
          have hvl : i ≤ rows.length := by rw [hlen.out]; omega
          unfold fewR
          rw [HS.out, List.take_append_of_le_length (by rw [List.length_take]; omega)])
        go_wp2
        go_roundg (gk - 1)
        · exact ⟨i + 1, k, c', A', by omega, by omega, by go_num, rfl, by omega, by omega, by rw [HF.out]; exact ho, bb⟩
        · omega
    · have e : rows.take i = rows := List.take_of_length_le (by rw [hlen.out]; omega)
      rw [e] at ho
      clear e h
      go_wp2
      go_ret
      exact ⟨A', k, c', rfl, ho, bb⟩
end Go.Proofs.Ytfpodalnnchnoaa
