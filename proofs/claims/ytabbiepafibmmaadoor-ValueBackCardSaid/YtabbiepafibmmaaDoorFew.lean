/- bowspritlaw02.few, short. Conditions: the slice reads as these values. -/
import Derived.Test.YtabbiepafibmmaaDoorWakes2
namespace Go.Proofs.YtabbiepafibmmaaDoor
open Go.RowKit
def cutS (s : ByteArray) : ByteArray := if s.size ≤ 41 then s else s.extract 0 41
def VV.short (v : VV) : VV := ⟨v.k, v.n, v.u, cutS v.s⟩
set_option maxHeartbeats 1000000 in
theorem short_any (k n u : Int) (s : ByteArray) (w : World) : Calls Tryd.prog 40 #[.agg #[.int .i64 k, .int .i64 n, .int .u64 u, .string s]] w fun x w' => x = .returned (.agg #[.int .i64 k, .int .i64 n, .int .u64 u, .string (cutS s)]) ∧ Below w.heap.size w w' := by
  by_cases hs : s.size ≤ 41
  · have h1 : (s.size : Int) ≤ 41 := by omega
    rw [show cutS s = s from by unfold cutS; rw [if_pos hs]]
    clear hs
    go_enter Tryd.func40, Tryd.ntmps40
    go_wp2
    exact bodyPost_ret (v := .agg #[.int .i64 k, .int .i64 n, .int .u64 u, .string s]) (by simp [results, Tryd.results40, go_sem]; rw [show (min (s.size : Int) 41).toNat = s.size from by omega]; simp) rfl ⟨rfl, bl_al (bl_al (Below.refl _ _) _) _⟩
  · have h1 : 41 < (s.size : Int) := by omega
    rw [show cutS s = s.extract 0 41 from by unfold cutS; rw [if_neg hs]]
    clear hs
    go_enter Tryd.func40, Tryd.ntmps40
    go_wp2
    exact bodyPost_ret (v := .agg #[.int .i64 k, .int .i64 n, .int .u64 u, .string (s.extract 0 41)]) (by simp [results, Tryd.results40, go_sem]; rw [show (min (s.size : Int) 41).toNat = 41 from by omega]) rfl ⟨rfl, bl_al (bl_al (Below.refl _ _) _) _⟩
def fewV (most : Nat) (vs : List VV) : List VV := (vs.take most).map VV.short
set_option maxRecDepth 100000 in
set_option maxHeartbeats 4000000 in
theorem few_any (A : Option Addr) (n c : Nat) (vs : List VV) (w : World) (h : RdV w A n vs) (hn : n ≤ 9223372036854775807) :
    Calls Tryd.prog 11 #[.slice A n c] w fun e w' => ∃ A' n' c', e = .returned (.slice A' n' c') ∧ OwnV w' w.heap.size A' n' c' (fewV 10 vs) ∧ Below w.heap.size w w' := by
  have hlen := Lib.hid h.1
  go_enter Tryd.func11, Tryd.ntmps11
  go_wp2
  go_loopg [3, 8] n (fun g o s wr => ∃ (i n' c' : Nat) (A' : Option Addr), i + g ≤ n ∧ n ≤ i + g ∧ s = .int .i64 i ∧ o = .slice A' n' c' ∧ n' ≤ i ∧ n' ≤ 10 ∧ OwnV wr w.heap.size A' n' c' (fewV 10 (vs.take i)) ∧ Below w.heap.size w wr)
  case atStart => exact ⟨0, 0, 0, none, by omega, by omega, rfl, rfl, by omega, by omega, by simpa [fewV] using OwnV.nil w w.heap.size, Below.refl _ _⟩
  case round =>
    obtain ⟨i, n', c', A', hi1, hi2, rfl, rfl, hn1, hn2, ho, bb⟩ := hrel
    by_cases hi : i < n
    · obtain ⟨a, v, rfl, hv, hal, c0, c1, c2, c3⟩ := (h.below bb).2 i hi
      have hT := Blk.new wr 28 #[.int .i64 v.k, .int .i64 v.n, .int .u64 v.u, .string v.s]
      have hsnoc := show vs.take (i + 1) = vs.take i ++ [v] from by rw [List.take_add_one, hv]; rfl
      have HS := Lib.hid hsnoc
      clear hsnoc hv
      have ho1 := ho.alloc (.cells #[.int .i64 v.k, .int .i64 v.n, .int .u64 v.u, .string v.s] 28)
      have b1 := bl_al bb (.cells #[.int .i64 v.k, .int .i64 v.n, .int .u64 v.u, .string v.s] 28)
      clear ho
      by_cases him : i < 10
      · have hi3 : (i : Int) < (10 : Int) := by omega
        go_wp2_with fail
        clear c0 c1 c2 c3 hal h bb
        generalize wr.alloc (.cells #[.int .i64 v.k, .int .i64 v.n, .int .u64 v.u, .string v.s] 28) = w2 at *
        refine (short_any v.k v.n v.u v.s w2).mono ?_
        rintro e w3 ⟨rfl, q3⟩
        have hb3 := Blk.new w3 28 #[.int .i64 v.short.k, .int .i64 v.short.n, .int .u64 v.short.u, .string v.short.s]
        have ho3 := (ho1.below q3).alloc (.cells #[.int .i64 v.k, .int .i64 v.n, .int .u64 v.u, .string (cutS v.s)] 28)
        have b3 := bl_al (bl_ca b1 q3) (.cells #[.int .i64 v.k, .int .i64 v.n, .int .u64 v.u, .string (cutS v.s)] 28)
        clear ho1 b1 q3 hT
        go_wp2_with (at_builtin; refine wpList_appV rfl (.tmp 15) (.tmp 18) rfl w.heap.size A' n' c' _ _ 1 _ v.short rfl rfl ho3 hb3 (by omega) b3.size ?_; intro A4 c4 w4 ho4 b4)
        have b5 := b3.trans b4
        have HF := Lib.hid (show fewV 10 (vs.take (i + 1)) = fewV 10 (vs.take i) ++ [v.short] from by
          have hil : (vs.take i).length ≤ i := List.length_take_le _ _
          unfold fewV
          rw [HS.out, List.take_append, List.map_append, List.take_of_length_le (l := [v]) (by simp; omega)]
          rfl)
        go_roundg (gk - 1)
        · exact ⟨i + 1, n' + 1, c4, A4, by omega, by omega, by go_num, rfl, by omega, by omega, by rw [HF.out]; exact ho4, b5⟩
        · omega
      · have hi3 : (10 : Int) ≤ (i : Int) := by omega
        go_wp2
        have HF := Lib.hid (show fewV 10 (vs.take (i + 1)) = fewV 10 (vs.take i) from by
          have hvl : i ≤ vs.length := by rw [hlen.out]; omega
          unfold fewV
          rw [HS.out, List.take_append_of_le_length (by rw [List.length_take]; omega)])
        go_roundg (gk - 1)
        · exact ⟨i + 1, n', c', A', by omega, by omega, by go_num, rfl, by omega, by omega, by rw [HF.out]; exact ho1, b1⟩
        · omega
    · have hin : n ≤ i := by omega
      have e : vs.take i = vs := List.take_of_length_le (by rw [hlen.out]; omega)
      rw [e] at ho
      clear e h
      go_wp2
      go_ret
      exact ⟨A', n', c', rfl, ho, bb⟩
end Go.Proofs.YtabbiepafibmmaaDoor
