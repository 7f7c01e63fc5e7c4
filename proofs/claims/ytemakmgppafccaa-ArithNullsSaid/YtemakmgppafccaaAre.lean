/- arith.are: why values are not all null, or of a kind. Conditions: the slice reads as these values. -/
import Derived.Test.YtemakmgppafccaaRight
import Derived.Deep.RegionHeld3
namespace Go.Proofs.Ytemakmgppafccaa
open Go.RowKit
/-- a value's four fields -/
structure VV where
  k : Int
  n : Int
  u : Int
  s : ByteArray
def VV.ok (v : VV) : Bool := rightB v.k v.n v.u v.s
/-- the slice reads as these values. -/
def RdV (w : World) (A : Option Addr) (n : Nat) (vs : List VV) : Prop :=
  vs.length = n ∧ ∀ i, i < n → ∃ (a : Addr) (v : VV), A = some a ∧ vs[i]? = some v ∧ a.block < w.heap.size ∧ w.cell? (a.add (i * 4)) = some (.int .i64 v.k) ∧
    w.cell? ⟨(a.add (i * 4)).block, (a.add (i * 4)).off + 1, none⟩ = some (.int .i64 v.n) ∧
    w.cell? ⟨(a.add (i * 4)).block, (a.add (i * 4)).off + 2, none⟩ = some (.int .u64 v.u) ∧
    w.cell? ⟨(a.add (i * 4)).block, (a.add (i * 4)).off + 3, none⟩ = some (.string v.s)
theorem RdV.below {w w' : World} {A : Option Addr} {n : Nat} {vs : List VV} (h : RdV w A n vs) (hb : Below w.heap.size w w') : RdV w' A n vs := by
  refine ⟨h.1, fun i hi => ?_⟩
  obtain ⟨a, v, e, e2, h0, h1, h2, h3, h4⟩ := h.2 i hi
  have hbl : (a.add (i * 4)).block = a.block := by unfold Addr.add; split <;> rfl
  exact ⟨a, v, e, e2, Nat.lt_of_lt_of_le h0 hb.size, (hb.cell (by rw [hbl]; exact h0)).trans h1, (hb.cell (by simp only [hbl]; exact h0)).trans h2, (hb.cell (by simp only [hbl]; exact h0)).trans h3, (hb.cell (by simp only [hbl]; exact h0)).trans h4⟩
def misB (kind : Int) (v : VV) : Bool := decide (v.k ≠ 0 ∧ v.k ≠ kind)
def areE (kind : Int) (vs : List VV) : Int := if vs.all VV.ok then (if vs.any (misB kind) then 2 else 0) else 120
set_option maxRecDepth 100000 in
set_option maxHeartbeats 4000000 in
theorem are_any (kind : Int) (A : Option Addr) (n c : Nat) (vs : List VV) (w : World) (h : RdV w A n vs) (hn : n ≤ 140737488351232) :
    Calls Try.prog 27 #[.int .i64 kind, .slice A n c] w fun e w' => e = .returned (.int .i64 (areE kind vs)) ∧ Below w.heap.size w w' := by
  generalize hr : areE kind vs = r
  have HR := Lib.hid hr
  clear hr
  go_enter Try.func27, Try.ntmps27
  go_wp2
  go_loopg [5, 10] n (fun g e s wr => ∃ i : Nat, i + g ≤ n ∧ n ≤ i + g ∧ s = .int .i64 i ∧ e = .int .i64 (if (vs.take i).any (misB kind) then 2 else 0) ∧ (vs.take i).all VV.ok = true ∧ Below w.heap.size w wr)
  case atStart => exact ⟨0, by omega, by omega, rfl, by simp, by simp, Below.refl _ _⟩
  case round =>
    obtain ⟨i, hi1, hi2, rfl, rfl, hall, hbw⟩ := hrel
    have HALL := Lib.hid hall
    clear hall
    generalize hm : (if (vs.take i).any (misB kind) then (2 : Int) else 0) = m0
    have HM := Lib.hid hm
    clear hm
    by_cases hi : i < n
    · obtain ⟨a, v, rfl, hv, hal, c0, c1, c2, c3⟩ := (h.below hbw).2 i hi
      have HV := Lib.hid hv
      clear hv
      have b1 := hbw.alloc hbw.size (.cells #[.int .i64 v.k, .int .i64 v.n, .int .u64 v.u, .string v.s] 27)
      have hT := Blk.new wr 27 #[.int .i64 v.k, .int .i64 v.n, .int .u64 v.u, .string v.s]
      have hsnoc := Lib.hid (show vs.take (i + 1) = vs.take i ++ [v] from by rw [List.take_add_one, HV.out]; rfl)
      go_wp2_with fail
      clear c0 c1 c2 c3 hal
      generalize wr.alloc (.cells #[.int .i64 v.k, .int .i64 v.n, .int .u64 v.u, .string v.s] 27) = w2 at *
      generalize wr.heap.size = T at *
      refine (check_any v.k v.n v.u v.s w2).mono ?_
      rintro e w3 ⟨rfl, q3⟩
      have hT3 := hT.below q3 hT.lt
      have b3 := b1.trans (q3.mono b1.size)
      have t0 : w3.cell? ⟨T, 0, none⟩ = some (.int .i64 v.k) := hT3.cell 0
      clear b1 q3 hT hbw h
      by_cases hok : rightB v.k v.n v.u v.s = true
      · rw [if_pos hok]
        have HOK := Lib.hid hok
        clear hok
        by_cases hmis : misB kind v = true
        · have HMIS := Lib.hid hmis
          have hk0 : (v.k != 0) = true := by simp [misB] at hmis; rw [bne_iff_ne]; exact hmis.1
          have hk1 : (v.k != kind) = true := by simp [misB] at hmis; rw [bne_iff_ne]; exact hmis.2
          clear hmis
          go_wp2
          go_roundg (gk - 1)
          · exact ⟨i + 1, by omega, by omega, by go_num, by rw [hsnoc.out]; simp [HMIS.out], by rw [hsnoc.out]; simp [HALL.out, VV.ok, HOK.out], b3⟩
          · omega
        · have HMIS := Lib.hid hmis
          have hk : ((v.k != 0) && (v.k != kind)) = false := by
            simp [misB] at hmis
            by_cases h0 : v.k = 0
            · simp [h0]
            · simp [hmis h0]
          clear hmis
          go_wp2
          all_goals go_roundg (gk - 1)
          all_goals first | omega | exact ⟨i + 1, by omega, by omega, by go_num, by rw [hsnoc.out, ← HM.out]; simp [HMIS.out], by rw [hsnoc.out]; simp [HALL.out, VV.ok, HOK.out], b3⟩
      · rw [if_neg hok]
        have HOK := Lib.hid hok
        clear hok
        go_wp2
        go_ret
        refine ⟨?_, b3⟩
        have : areE kind vs = 120 := by
          unfold areE
          rw [if_neg]
          intro e
          rw [List.all_eq_true] at e
          exact HOK.out (e v (List.mem_of_getElem? HV.out))
        rw [← HR.out, this]
        rfl
    · have hin : n ≤ i := by omega
      have hl := h.1
      have hE : areE kind vs = m0 := by
        rw [List.take_of_length_le (by omega)] at HALL HM
        unfold areE
        rw [if_pos HALL.out, HM.out]
      rw [HR.out] at hE
      have HE := Lib.hid hE
      clear hE h
      go_wp2
      go_ret
      exact ⟨by rw [HE.out]; rfl, hbw⟩
end Go.Proofs.Ytemakmgppafccaa
