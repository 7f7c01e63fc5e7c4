/- codec.TakeValue, TakeRow, TakeList. Conditions: the slice reads as these bytes. -/
import Derived.Test.YtfpodalnnchnoaaCTakV
namespace Go.Proofs.Ytfpodalnnchnoaa
open Go.RowKit
def s0 : St := ⟨0, 0, false⟩
def tvE (bs : List UInt8) : Int := takE (valS bs s0).2
def tvN (bs : List UInt8) : Nat := takN (valS bs s0).2
def VZ : VV := ⟨0, 0, 0, ⟨#[]⟩⟩
def tvV (bs : List UInt8) : VV := if tvE bs = 0 then (valS bs s0).1 else VZ
def trE (bs : List UInt8) : Int := takE (rowS bs s0).2
def trN (bs : List UInt8) : Nat := takN (rowS bs s0).2
def trV (bs : List UInt8) : List VV := if trE bs = 0 then (rowS bs s0).1 else []
def tlE (bs : List UInt8) : Int := takE (listS bs s0).2
def tlN (bs : List UInt8) : Nat := takN (listS bs s0).2
def tlV (bs : List UInt8) : List (List VV) := if tlE bs = 0 then (listS bs s0).1 else []
set_option maxRecDepth 100000 in
set_option maxHeartbeats 4000000 in
theorem takeRow_any (A : Option Addr) (n c : Nat) (bs : List UInt8) (w : World) (h : RdB w A n bs) (hn : n ≤ 140737488351232) :
    Calls Try.prog 23 #[.slice A n c] w fun e w' => ∃ A' k c', e = .returned (.tuple #[.slice A' k c', .int .i64 (trN bs : Int), .int .i64 (trE bs)]) ∧ LV.own 24 w' w.heap.size NoB A' k c' (trV bs) ∧ Below w.heap.size w w' := by
  have HF := Lib.hid (from_any A n c bs w h hn)
  have HR := Lib.hid (fun T R O c w h => trow_any T R O n c bs s0 w h)
  have HT := Lib.hid (fun T R O c Ax k cx w h => taken_row T R O n c bs (rowS bs s0).2 Ax k cx w h)
  rw [show takN (rowS bs s0).2 = trN bs from rfl, show takE (rowS bs s0).2 = trE bs from rfl] at HT
  have HV := Lib.hid (show trV bs = if trE bs = 0 then (rowS bs s0).1 else [] from rfl)
  generalize trV bs = V at *
  generalize trE bs = E at *
  generalize trN bs = N at *
  generalize rowS bs s0 = Rs at *
  clear h
  go_enter Try.func23, Try.ntmps23
  go_wp2_with fail
  refine HF.out.mono ?_
  rintro e w1 ⟨T, R, O, c1, rfl, hT, hR, hk, b1⟩
  go_wp2_with fail
  refine (HR.out T R O c1 w1 hk).mono ?_
  rintro e w2 ⟨Ax, k, cx, rfl, ho, hk2, t2⟩
  have b2 := b1.trans (t2.below b1.size hT hR)
  by_cases hE : E = 0
  · subst hE
    have HT2 := Lib.hid (HT.out T R O c1 Ax k cx w2 hk2)
    rw [if_pos rfl] at HT2 HV
    clear HT
    go_wp2_with fail
    refine HT2.out.mono ?_
    rintro e w3 ⟨rfl, b3⟩
    go_wp2
    exact bodyPost_ret (results_tmp3 rfl _ _ _) rfl ⟨Ax, k, cx, rfl, by rw [HV.out]; exact Lay.own_below (Lay.own_less ho b1.size) b3, bl_ca b2 b3⟩
  · have HT2 := Lib.hid (HT.out T R O c1 Ax k cx w2 hk2)
    rw [if_neg hE] at HT2 HV
    clear HT hE
    go_wp2_with fail
    refine HT2.out.mono ?_
    rintro e w3 ⟨rfl, b3⟩
    go_wp2
    exact bodyPost_ret (results_tmp3 rfl _ _ _) rfl ⟨none, 0, 0, rfl, by rw [HV.out]; exact Lay.own_nil _ _, bl_ca b2 b3⟩
set_option maxRecDepth 100000 in
set_option maxHeartbeats 4000000 in
theorem takeList_any (A : Option Addr) (n c : Nat) (bs : List UInt8) (w : World) (h : RdB w A n bs) (hn : n ≤ 140737488351232) :
    Calls Try.prog 22 #[.slice A n c] w fun e w' => ∃ A' k c', e = .returned (.tuple #[.slice A' k c', .int .i64 (tlN bs : Int), .int .i64 (tlE bs)]) ∧ LR.own 27 w' w.heap.size (Since w w') A' k c' (tlV bs) ∧ Below w.heap.size w w' := by
  have HF := Lib.hid (from_any A n c bs w h hn)
  have HR := Lib.hid (fun T R O c w h => tlist_any T R O n c bs s0 w h)
  have HT := Lib.hid (fun T R O c Ax k cx w h => taken_list T R O n c bs (listS bs s0).2 Ax k cx w h)
  rw [show takN (listS bs s0).2 = tlN bs from rfl, show takE (listS bs s0).2 = tlE bs from rfl] at HT
  have HV := Lib.hid (show tlV bs = if tlE bs = 0 then (listS bs s0).1 else [] from rfl)
  generalize tlV bs = V at *
  generalize tlE bs = E at *
  generalize tlN bs = N at *
  generalize listS bs s0 = Rs at *
  clear h
  go_enter Try.func22, Try.ntmps22
  go_wp2_with fail
  refine HF.out.mono ?_
  rintro e w1 ⟨T, R, O, c1, rfl, hT, hR, hk, b1⟩
  go_wp2_with fail
  refine (HR.out T R O c1 w1 hk).mono ?_
  rintro e w2 ⟨Ax, k, cx, rfl, ho, hk2, t2⟩
  have b2 := b1.trans (t2.below b1.size hT hR)
  by_cases hE : E = 0
  · subst hE
    have HT2 := Lib.hid (HT.out T R O c1 Ax k cx w2 hk2)
    rw [if_pos rfl] at HT2 HV
    clear HT
    go_wp2_with fail
    refine HT2.out.mono ?_
    rintro e w3 ⟨rfl, b3⟩
    go_wp2
    exact bodyPost_ret (results_tmp3 rfl _ _ _) rfl ⟨Ax, k, cx, rfl, by rw [HV.out]; exact Lay.own_below (Lay.own_weak (fun b hb hlt => ⟨Nat.le_trans b1.size hb.1, Nat.lt_of_lt_of_le hlt b3.size⟩) (Lay.own_less ho b1.size)) b3, bl_ca b2 b3⟩
  · have HT2 := Lib.hid (HT.out T R O c1 Ax k cx w2 hk2)
    rw [if_neg hE] at HT2 HV
    clear HT hE
    go_wp2_with fail
    refine HT2.out.mono ?_
    rintro e w3 ⟨rfl, b3⟩
    go_wp2
    exact bodyPost_ret (results_tmp3 rfl _ _ _) rfl ⟨none, 0, 0, rfl, by rw [HV.out]; exact Lay.own_nil _ _, bl_ca b2 b3⟩
set_option maxRecDepth 100000 in
set_option maxHeartbeats 4000000 in
theorem takeValue_any (A : Option Addr) (n c : Nat) (bs : List UInt8) (w : World) (h : RdB w A n bs) (hn : n ≤ 140737488351232) :
    Calls Try.prog 24 #[.slice A n c] w fun e w' => e = .returned (.tuple #[.agg #[.int .i64 (tvV bs).k, .int .i64 (tvV bs).n, .int .u64 (tvV bs).u, .string (tvV bs).s], .int .i64 (tvN bs : Int), .int .i64 (tvE bs)]) ∧ Below w.heap.size w w' := by
  have hZ := Blk.new w 24 #[.int .i64 0, .int .i64 0, .int .u64 0, .string ⟨#[]⟩]
  have bb := bl_al (Below.refl w.heap.size w) (.cells #[.int .i64 0, .int .i64 0, .int .u64 0, .string ⟨#[]⟩] 24)
  have HF := Lib.hid (from_any A n c bs (w.alloc (.cells #[.int .i64 0, .int .i64 0, .int .u64 0, .string ⟨#[]⟩] 24)) (h.below bb) hn)
  have HR := Lib.hid (fun T R O c w h => value_any T R O n c bs s0 w h)
  have HT := Lib.hid (fun T R O c v w h => taken_val T R O n c bs (valS bs s0).2 v w h)
  rw [show takN (valS bs s0).2 = tvN bs from rfl, show takE (valS bs s0).2 = tvE bs from rfl] at HT
  have HV := Lib.hid (show tvV bs = if tvE bs = 0 then (valS bs s0).1 else VZ from rfl)
  generalize tvV bs = V at *
  generalize tvE bs = E at *
  generalize tvN bs = N at *
  generalize valS bs s0 = Rs at *
  clear h
  go_enter Try.func24, Try.ntmps24
  go_wp2_with fail
  generalize w.alloc (.cells #[.int .i64 0, .int .i64 0, .int .u64 0, .string ⟨#[]⟩] 24) = w0 at *
  refine HF.out.mono ?_
  rintro e w1 ⟨T, R, O, c1, rfl, hT, hR, hk, b1⟩
  replace hZ := hZ.ca b1
  clear HF
  go_wp2_with fail
  refine (HR.out T R O c1 w1 hk).mono ?_
  rintro e w2 ⟨rfl, hk2, t2⟩
  have hzs := hZ.lt
  have nT : w.heap.size ≠ T := by intro e; subst e; exact Blk.ne_ hZ hk.blk (by decide) rfl
  have nR : w.heap.size ≠ R := by intro e; subst e; exact Blk.ne_ hZ hk.rdr.blk (by decide) rfl
  have hZ2 := t2.blk hZ nT nR
  have b2 := bl_ca bb b1
  have b3 := b2.trans (t2.below b2.size (Nat.le_trans bb.size hT) (Nat.le_trans bb.size hR))
  clear hZ hk HR
  have HT2 := Lib.hid (HT.out T R O c1 Rs.1 w2 hk2)
  by_cases hE : E = 0
  · subst hE
    rw [if_pos rfl] at HT2 HV
    clear HT
    go_wp2_with fail
    refine HT2.out.mono ?_
    rintro e w3 ⟨rfl, b4⟩
    have KR := Lib.hid (hZ2.ca b4)
    go_wp2_with (refine wpList_store_blk rfl 24 (.tmp 2) (.tmp 12) rfl w.heap.size 24 _ _ rfl rfl KR.out rfl valI (one4 _ _ _ _) ?_; intro wz hz gz)
    exact bodyPost_ret (res3 Try.results24 rfl rfl rfl hz Try.underlying24 rfl valI) rfl ⟨by rw [HV.out]; rfl, bl_gr (bl_ca b3 b4) gz (Nat.le_refl _)⟩
  · rw [if_neg hE] at HT2 HV
    clear HT hE
    go_wp2_with fail
    refine HT2.out.mono ?_
    rintro e w3 ⟨rfl, b4⟩
    have KR := Lib.hid (hZ2.ca b4)
    go_wp2_with (refine wpList_store_blk rfl 24 (.tmp 2) (.tmp 12) rfl w.heap.size 24 _ _ rfl rfl KR.out rfl valI (one4 _ _ _ _) ?_; intro wz hz gz)
    exact bodyPost_ret (res3 Try.results24 rfl rfl rfl hz Try.underlying24 rfl valI) rfl ⟨by rw [HV.out]; rfl, bl_gr (bl_ca b3 b4) gz (Nat.le_refl _)⟩
end Go.Proofs.Ytfpodalnnchnoaa
