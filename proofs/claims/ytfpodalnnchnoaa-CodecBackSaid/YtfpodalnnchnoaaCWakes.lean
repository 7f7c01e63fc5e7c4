/- bowspritlaw06.yes, wakes. Conditions: none. -/
import Derived.Test.YtfpodalnnchnoaaCTake
namespace Go.Proofs.Ytfpodalnnchnoaa
open Go.RowKit
def VB1 : VV := ⟨1, 1, 0, ⟨#[]⟩⟩
theorem rdv_two {w : World} {g : Nat} {t : TypeId} {a b : VV} (h : Blk w g t #[.int .i64 a.k, .int .i64 a.n, .int .u64 a.u, .string a.s, .int .i64 b.k, .int .i64 b.n, .int .u64 b.u, .string b.s]) : RdV w (some ⟨g, 0, none⟩) 2 [a, b] := by
  refine ⟨rfl, fun i hi => ?_⟩
  have hc : i = 0 ∨ i = 1 := by omega
  rcases hc with rfl | rfl
  · exact ⟨_, a, rfl, rfl, h.lt, h.cell 0, h.cell 1, h.cell 2, h.cell 3⟩
  · exact ⟨_, b, rfl, rfl, h.lt, h.cell 4, h.cell 5, h.cell 6, h.cell 7⟩
theorem rdb_blk {w : World} {g : Nat} {t : TypeId} {bs : List UInt8} (h : Blk w g t (bs.map vb).toArray) : RdB w (some ⟨g, 0, none⟩) bs.length bs := by
  refine ⟨by simp, fun _ => ⟨_, rfl, h.lt, fun j u hu => ?_⟩⟩
  have hadd : (⟨g, 0, none⟩ : Addr).add j = ⟨g, j, none⟩ := by unfold Addr.add; split <;> simp_all
  rw [hadd, h.cell j, ← hu]
  simp
set_option maxHeartbeats 1000000 in
theorem yes_any (w : World) : Calls Try.prog 25 #[] w fun e w' => e = .returned (.agg #[.int .i64 1, .int .i64 1, .int .u64 0, .string ⟨#[]⟩]) ∧ Below w.heap.size w w' := by
  go_enter Try.func25, Try.ntmps25
  go_wp2
  refine bodyPost_ret (v := .agg #[.int .i64 1, .int .i64 1, .int .u64 0, .string ⟨#[]⟩]) (by simp [results, Try.results25, go_sem]) rfl ⟨rfl, ?_⟩
  first | exact Below.refl _ _ | exact bl_al (Below.refl _ _) _ | exact bl_al (bl_al (Below.refl _ _) _) _
def WA : List UInt8 := [2, 0, 1, 1]
def WB : List UInt8 := [2, 0, 1, 1, 7]
def WC : List UInt8 := [1, 2]
theorem wa_row : rowB [VZ, VB1] = WA := by decide +kernel
theorem wa_rowE : rowE [VZ, VB1] = 0 := by decide +kernel
theorem wb_E : trE WB = 0 := by decide +kernel
theorem wb_N : trN WB = 4 := by decide +kernel
theorem wb_V : trV WB = [VZ, VB1] := by kernel_rfl
theorem wc_E : tvE WC = 160 := by decide +kernel
theorem wc_N : tvN WC = 0 := by decide +kernel
theorem wc_V : tvV WC = VZ := by kernel_rfl
structure SW (w : World) (a : Addr) (A : Option Addr) : Prop where
  lt : a.block < w.heap.size
  c0 : w.cell? ⟨a.block, a.off + 4, none⟩ = some (.int .i64 1)
  c1 : w.cell? ⟨a.block, a.off + 4 + 1, none⟩ = some (.int .i64 1)
  c2 : w.cell? ⟨a.block, a.off + 4 + 2, none⟩ = some (.int .u64 0)
  c3 : w.cell? ⟨a.block, a.off + 4 + 3, none⟩ = some (.string ⟨#[]⟩)
  rd : RdB w A 4 WA
theorem SW.below {w w' : World} {a : Addr} {A : Option Addr} (h : SW w a A) (hb : Below w.heap.size w w') : SW w' a A := by
  refine ⟨Nat.lt_of_lt_of_le h.lt hb.size, (hb.cell ?_).trans h.c0, (hb.cell ?_).trans h.c1, (hb.cell ?_).trans h.c2, (hb.cell ?_).trans h.c3, h.rd.below hb⟩ <;> exact h.lt
theorem SW.conj {w' : World} {a2 : Addr} {A : Option Addr} (h : SW w' a2 A) : w'.cell? ⟨a2.block, a2.off + 4, none⟩ = some (.int .i64 1) ∧ w'.cell? ⟨a2.block, a2.off + 4 + 1, none⟩ = some (.int .i64 1) ∧ w'.cell? ⟨a2.block, a2.off + 4 + 2, none⟩ = some (.int .u64 0) ∧ w'.cell? ⟨a2.block, a2.off + 4 + 3, none⟩ = some (.string ⟨#[]⟩) := ⟨h.c0, h.c1, h.c2, h.c3⟩
set_option maxRecDepth 100000 in
set_option maxHeartbeats 8000000 in
theorem wakes6_any (w : World) : Calls Try.prog 8 #[] w fun e w' => e = .returned (.bool true) ∧ Below w.heap.size w w' := by
  have HROW := Lib.hid (fun A c w hv => (wa_row ▸ wa_rowE ▸ row_any A 2 c [VZ, VB1] w hv (by intro v hv; simp at hv; rcases hv with rfl | rfl <;> exact ⟨by decide, by decide⟩) : Calls Try.prog 16 #[.slice A 2 c] w (retB w WA 0)))
  have HTR := Lib.hid (fun A c w h => (by have := takeRow_any A 5 c WB w h (by omega); rwa [wb_E, wb_N, wb_V] at this : Calls Try.prog 23 #[.slice A 5 c] w fun e w' => ∃ A' k c', e = .returned (.tuple #[.slice A' k c', .int .i64 ((4 : Nat) : Int), .int .i64 0]) ∧ LV.own 24 w' w.heap.size NoB A' k c' [VZ, VB1] ∧ Below w.heap.size w w'))
  have HTV := Lib.hid (fun A c w h => (by have := takeValue_any A 2 c WC w h (by omega); rwa [wc_E, wc_N, wc_V] at this : Calls Try.prog 24 #[.slice A 2 c] w fun e w' => e = .returned (.tuple #[.agg #[.int .i64 VZ.k, .int .i64 VZ.n, .int .u64 VZ.u, .string VZ.s], .int .i64 ((0 : Nat) : Int), .int .i64 160]) ∧ Below w.heap.size w w'))
  have qq := Below.refl w.heap.size w
  go_enter Try.func8, Try.ntmps8
  go_wp2_with fail
  refine (yes_any w).mono ?_
  rintro e w1 ⟨rfl, q1⟩
  replace qq := bl_ca qq q1
  have hS := Blk.new w1 24 #[.int .i64 VZ.k, .int .i64 VZ.n, .int .u64 VZ.u, .string VZ.s, .int .i64 VB1.k, .int .i64 VB1.n, .int .u64 VB1.u, .string VB1.s]
  replace qq := bl_al qq (.cells #[.int .i64 0, .int .i64 0, .int .u64 0, .string ⟨#[]⟩, .int .i64 1, .int .i64 1, .int .u64 0, .string ⟨#[]⟩] 24)
  clear q1
  go_wp2_with fail
  refine (HROW.out _ _ _ (rdv_two hS)).mono ?_
  rintro e w2 ⟨A1, c1, rfl, ho1, q2⟩
  replace qq := bl_ca qq q2
  clear hS q2
  have hr1 := ho1.rd
  clear ho1
  have hB := Blk.new w2 5 (WB.map vb).toArray
  replace qq := bl_al qq (.cells (WB.map vb).toArray 5)
  replace hr1 := hr1.below (bl_al (Below.refl _ _) (.cells (WB.map vb).toArray 5))
  go_wp2_with fail
  refine (HTR.out _ _ _ (rdb_blk hB)).mono ?_
  rintro e w3 ⟨A2, k2, c2, rfl, ho2, q3⟩
  obtain rfl : 2 = k2 := Lay.own_len ho2
  replace qq := bl_ca qq q3
  replace hr1 := hr1.below q3
  have hr2 := LV_rd (Lay.own_rd ho2 (F := fun _ => True) (fun _ _ _ => trivial) (fun _ _ _ => trivial))
  clear ho2 q3 hB
  have hC := Blk.new w3 5 (WC.map vb).toArray
  replace qq := bl_al qq (.cells (WC.map vb).toArray 5)
  replace hr1 := hr1.below (bl_al (Below.refl _ _) (.cells (WC.map vb).toArray 5))
  replace hr2 := hr2.below (bl_al (Below.refl _ _) (.cells (WC.map vb).toArray 5))
  go_wp2_with fail
  refine (HTV.out _ _ _ (rdb_blk hC)).mono ?_
  rintro e w4 ⟨rfl, q4⟩
  replace qq := bl_ca qq q4
  replace hr1 := hr1.below q4
  replace hr2 := hr2.below q4
  clear q4 hC HROW HTR HTV
  replace qq := bl_al qq (.cells #[.int .i64 VZ.k, .int .i64 VZ.n, .int .u64 VZ.u, .string VZ.s] 24)
  replace hr1 := hr1.below (bl_al (Below.refl _ _) (.cells #[.int .i64 VZ.k, .int .i64 VZ.n, .int .u64 VZ.u, .string VZ.s] 24))
  replace hr2 := hr2.below (bl_al (Below.refl _ _) (.cells #[.int .i64 VZ.k, .int .i64 VZ.n, .int .u64 VZ.u, .string VZ.s] 24))
  go_wp2_with fail
  generalize w4.alloc (.cells #[.int .i64 VZ.k, .int .i64 VZ.n, .int .u64 VZ.u, .string VZ.s] 24) = w5 at *
  obtain ⟨-, h2⟩ := hr2
  obtain ⟨a2, v2, rfl, hv2, la, c0, c1, c2, c3⟩ := h2 1 (by decide)
  obtain rfl : VB1 = v2 := by simpa using hv2
  clear h2 hv2
  have qq5 := Below.refl w5.heap.size w5
  have ha : a2.add (1 * 4) = ⟨a2.block, a2.off + 4, none⟩ := by simp [Addr.add]
  rw [ha] at c0 c1 c2 c3
  have hS : SW w5 a2 A1 := ⟨la, c0, c1, c2, c3, hr1⟩
  clear ha
  clear c0 c1 c2 c3 la
  have hN := (Blk.new w5 5 (WA.map vb).toArray).drew
  go_region_held3 (fun w' => w'.cell? ⟨a2.block, a2.off + 4, none⟩ = some (.int .i64 1) ∧ w'.cell? ⟨a2.block, a2.off + 4 + 1, none⟩ = some (.int .i64 1) ∧ w'.cell? ⟨a2.block, a2.off + 4 + 2, none⟩ = some (.int .u64 0) ∧ w'.cell? ⟨a2.block, a2.off + 4 + 3, none⟩ = some (.string ⟨#[]⟩))
    (exact (hS.below (by (first | with_reducible exact qq5 | with_reducible exact bl_d1 qq5 | with_reducible exact bl_al qq5 _ | with_reducible exact bl_al (bl_d1 qq5) _ | with_reducible exact bl_d1 (bl_al qq5 _) | with_reducible exact bl_d1 (bl_al (bl_d1 qq5) _)))).conj)
    (first
      | (go_at_call 11; (refine (equal_any _ _ _ _ _ _ WA WA _ (hS.below (by (first | with_reducible exact qq5 | with_reducible exact bl_d1 qq5 | with_reducible exact bl_al qq5 _ | with_reducible exact bl_al (bl_d1 qq5) _ | with_reducible exact bl_d1 (bl_al qq5 _) | with_reducible exact bl_d1 (bl_al (bl_d1 qq5) _)))).rd (rdb_blk hN)).mono ?_); rintro e wa ⟨rfl, rfl⟩)
      | (go_at_call 25; (with_reducible refine (yes_any _).mono ?_); rintro e wb ⟨rfl, qb⟩; replace qq5 := bl_ca (by (first | with_reducible exact qq5 | with_reducible exact bl_d1 qq5 | with_reducible exact bl_al qq5 _ | with_reducible exact bl_al (bl_d1 qq5) _ | with_reducible exact bl_d1 (bl_al qq5 _) | with_reducible exact bl_d1 (bl_al (bl_d1 qq5) _)) : Below w5.heap.size w5 _) qb))
  go_wp2
  exact bodyPost_ret (v := .bool true) (by simp [results, Try.results8, go_sem]) rfl ⟨rfl, bl_ca qq qq5⟩
end Go.Proofs.Ytfpodalnnchnoaa
