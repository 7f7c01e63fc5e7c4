/- value.right: why values may not be. Conditions: the slice reads as these values. -/
import Derived.Test.YtabbiepafibmmaaDoorCompare
namespace Go.Proofs.YtabbiepafibmmaaDoor
open Go.RowKit
def allE (vs : List VV) : Int := if vs.all VV.ok then 0 else 120
set_option maxRecDepth 100000 in
set_option maxHeartbeats 4000000 in
theorem rightl_any (A : Option Addr) (n c : Nat) (vs : List VV) (w : World) (h : RdV w A n vs) (hn : n ≤ 140737488351232) :
    Calls Tryd.prog 69 #[.slice A n c] w fun e w' => e = .returned (.int .i64 (allE vs)) ∧ Below w.heap.size w w' := by
  generalize hr : allE vs = r
  have HR := Lib.hid hr
  clear hr
  go_enter Tryd.func69, Tryd.ntmps69
  go_wp2
  go_loopg [8] n (fun g s wr => ∃ i : Nat, i + g ≤ n ∧ n ≤ i + g ∧ s = .int .i64 i ∧ (vs.take i).all VV.ok = true ∧ Below w.heap.size w wr)
  case atStart => exact ⟨0, by omega, by omega, rfl, by simp, Below.refl _ _⟩
  case round =>
    obtain ⟨i, hi1, hi2, rfl, hall, hbw⟩ := hrel
    have HALL := Lib.hid hall
    clear hall
    by_cases hi : i < n
    · obtain ⟨a, v, rfl, hv, hal, c0, c1, c2, c3⟩ := (h.below hbw).2 i hi
      have HV := Lib.hid hv
      clear hv
      have b1 := hbw.alloc hbw.size (.cells #[.int .i64 v.k, .int .i64 v.n, .int .u64 v.u, .string v.s] 28)
      have hsnoc := Lib.hid (show vs.take (i + 1) = vs.take i ++ [v] from by rw [List.take_add_one, HV.out]; rfl)
      go_wp2_with fail
      clear c0 c1 c2 c3 hal
      generalize wr.alloc (.cells #[.int .i64 v.k, .int .i64 v.n, .int .u64 v.u, .string v.s] 28) = w2 at *
      generalize wr.heap.size = T at *
      refine (check_any v.k v.n v.u v.s w2).mono ?_
      rintro e w3 ⟨rfl, q3⟩
      have b3 := b1.trans (q3.mono b1.size)
      clear b1 q3 hbw h
      by_cases hok : rightB v.k v.n v.u v.s = true
      · rw [if_pos hok]
        have HOK := Lib.hid hok
        clear hok
        go_wp2
        go_roundg (gk - 1)
        · exact ⟨i + 1, by omega, by omega, by go_num, by rw [hsnoc.out]; simp [HALL.out, VV.ok, HOK.out], b3⟩
        · omega
      · rw [if_neg hok]
        have HOK := Lib.hid hok
        clear hok
        go_wp2
        go_ret
        refine ⟨?_, b3⟩
        have : allE vs = 120 := by
          unfold allE
          rw [if_neg]
          intro e
          rw [List.all_eq_true] at e
          exact HOK.out (e v (List.mem_of_getElem? HV.out))
        rw [← HR.out, this]
        rfl
    · have hin : n ≤ i := by omega
      have hl := h.1
      have hE : allE vs = 0 := by
        rw [List.take_of_length_le (by omega)] at HALL
        unfold allE
        rw [if_pos HALL.out]
      rw [HR.out] at hE
      have HE := Lib.hid hE
      clear hE h
      go_wp2
      go_ret
      exact ⟨by rw [HE.out]; rfl, hbw⟩
end Go.Proofs.YtabbiepafibmmaaDoor
