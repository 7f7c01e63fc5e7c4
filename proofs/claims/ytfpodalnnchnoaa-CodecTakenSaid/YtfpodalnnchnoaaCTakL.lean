/- The walk of the law CodecTaken (printed by gen_ctakl.py). Conditions: the slice reads as these bytes. -/
import Derived.Test.YtfpodalnnchnoaaCTakM
import Derived.Test.YtfpodalnnchnoaaCWakes
import Derived.Test.YtfpodalnnchnoaaCList
namespace Go.Proofs.Ytfpodalnnchnoaa
open Go.RowKit
theorem equal_same (A B : Option Addr) (n c m d : Nat) (xs : List UInt8) (w : World) (ha : RdB w A n xs) (hb : RdB w B m xs) :
    Calls Try.prog 11 #[.slice A n c, .slice B m d] w fun e w' => e = .returned (.bool true) ∧ w = w' := by
  have := equal_any A B n c m d xs xs w ha hb
  rwa [show (xs == xs) = true from by simp] at this
/-- it returns these bytes, and no error -/
def retO (w : World) (N : Nat) (bs : List UInt8) (x : Ending) (w' : World) : Prop := ∃ A c, x = .returned (.tuple #[.slice A N c, .int .i64 0]) ∧ RdB w' A N bs ∧ Below w.heap.size w w'
theorem retB_o {w : World} {N : Nat} {bs : List UInt8} {f : FuncId} {args : Array Value} {e : Int} (h : Calls Try.prog f args w (retB w bs e)) (he : e = 0) (hN : bs.length = N) : Calls Try.prog f args w (retO w N bs) := by
  subst he
  subst hN
  exact h.mono fun _ _ ⟨A, c, h1, h2, h3⟩ => ⟨A, c, h1, h2.rd, h3⟩
def retOL (w : World) (N at_ : Nat) (bs : List UInt8) (x : Ending) (w' : World) : Prop := ∃ A c, x = .returned (.tuple #[.slice A N c, .int .i64 (at_ : Int), .int .i64 0]) ∧ RdB w' A N bs ∧ Below w.heap.size w w'
theorem retL_o {w : World} {N at_ : Nat} {bs : List UInt8} {f : FuncId} {args : Array Value} {e : Int} (h : Calls Try.prog f args w (retL w bs at_ e)) (he : e = 0) (hN : bs.length = N) : Calls Try.prog f args w (retOL w N at_ bs) := by
  subst he
  subst hN
  exact h.mono fun _ _ ⟨A, c, h1, h2, h3⟩ => ⟨A, c, h1, h2.rd, h3⟩
theorem take_len {bs : List UInt8} {N : Nat} (h : N ≤ bs.length) : (bs.take N).length = N := by rw [List.length_take]; omega
theorem tvc_y (A : Option Addr) (n c : Nat) (bs : List UInt8) (w : World) (h : RdB w A n bs) (hn : n ≤ 140737488351232) (hE : tvE bs = 0) :
    Calls Try.prog 24 #[.slice A n c] w fun e w' => e = .returned (.tuple #[.agg #[.int .i64 (tvV bs).k, .int .i64 (tvV bs).n, .int .u64 (tvV bs).u, .string (tvV bs).s], .int .i64 (tvN bs : Int), .int .i64 0]) ∧ Below w.heap.size w w' := by
  have := takeValue_any A n c bs w h hn
  rwa [hE] at this
theorem trc_y (A : Option Addr) (n c : Nat) (bs : List UInt8) (w : World) (h : RdB w A n bs) (hn : n ≤ 140737488351232) (hE : trE bs = 0) :
    Calls Try.prog 23 #[.slice A n c] w fun e w' => ∃ A' k c', e = .returned (.tuple #[.slice A' k c', .int .i64 (trN bs : Int), .int .i64 0]) ∧ RdV w' A' k (trV bs) ∧ Below w.heap.size w w' := by
  have := takeRow_any A n c bs w h hn
  rw [hE] at this
  exact this.mono fun _ _ ⟨A', k, c', h1, h2, h3⟩ => ⟨A', k, c', h1, LV_rd (Lay.own_rd h2 (F := fun _ => True) (fun _ _ _ => trivial) (fun _ _ _ => trivial)), h3⟩
theorem trc_n (A : Option Addr) (n c : Nat) (bs : List UInt8) (w : World) (h : RdB w A n bs) (hn : n ≤ 140737488351232) :
    Calls Try.prog 23 #[.slice A n c] w fun e w' => ∃ A' k c', e = .returned (.tuple #[.slice A' k c', .int .i64 (trN bs : Int), .int .i64 (trE bs)]) ∧ Below w.heap.size w w' :=
  (takeRow_any A n c bs w h hn).mono fun _ _ ⟨A', k, c', h1, _, h3⟩ => ⟨A', k, c', h1, h3⟩
theorem tlc_y (A : Option Addr) (n c : Nat) (bs : List UInt8) (w : World) (h : RdB w A n bs) (hn : n ≤ 140737488351232) (hE : tlE bs = 0) :
    Calls Try.prog 22 #[.slice A n c] w fun e w' => ∃ A' k c', e = .returned (.tuple #[.slice A' k c', .int .i64 (tlN bs : Int), .int .i64 0]) ∧ LR.rd w' (fun _ => True) A' k (tlV bs) ∧ Below w.heap.size w w' := by
  have := takeList_any A n c bs w h hn
  rw [hE] at this
  exact this.mono fun _ _ ⟨A', k, c', h1, h2, h3⟩ => ⟨A', k, c', h1, Lay.own_rd h2 (F := fun _ => True) (fun _ _ _ => trivial) (fun _ _ _ => trivial), h3⟩
theorem tlc_n (A : Option Addr) (n c : Nat) (bs : List UInt8) (w : World) (h : RdB w A n bs) (hn : n ≤ 140737488351232) (hE : tlE bs ≠ 0) :
    Calls Try.prog 22 #[.slice A n c] w fun e w' => ∃ A' c', e = .returned (.tuple #[.slice A' 0 c', .int .i64 0, .int .i64 (tlE bs)]) ∧ Below w.heap.size w w' := by
  obtain ⟨h1, h2⟩ := tl_zero hE
  have := takeList_any A n c bs w h hn
  rw [h1, h2] at this
  exact this.mono fun _ _ ⟨A', k, c', h1, h2, h3⟩ => by
    obtain rfl : 0 = k := Lay.own_len h2
    exact ⟨A', c', h1, h3⟩
theorem tv_le {bs : List UInt8} (h : tvE bs = 0) : tvN bs ≤ bs.length := by
  have g := val_got bs s0 (fine_takE h)
  have e2 : tvN bs = (valS bs s0).2.p := if_pos h
  have h1 := g.got.p
  rw [← got_take g.got, List.length_take] at h1
  simp only [s0] at h1
  rw [e2]
  simp only [s0]
  omega
theorem tr_le {bs : List UInt8} (h : trE bs = 0) : trN bs ≤ bs.length := by
  have g := row_got bs s0 (fine_takE h)
  have e2 : trN bs = (rowS bs s0).2.p := if_pos h
  have h1 := g.got.p
  rw [← got_take g.got, List.length_take] at h1
  simp only [s0] at h1
  rw [e2]
  simp only [s0]
  omega
theorem tl_le {bs : List UInt8} (h : tlE bs = 0) : tlN bs ≤ bs.length := by
  have g := list_got bs s0 (fine_takE h)
  have e2 : tlN bs = (listS bs s0).2.p := if_pos h
  have h1 := g.got.p
  rw [← got_take g.got, List.length_take] at h1
  simp only [s0] at h1
  rw [e2]
  simp only [s0]
  omega
set_option maxRecDepth 100000 in
set_option maxHeartbeats 16000000 in
theorem codecTaken_s (A : Option Addr) (n c : Nat) (bs : List UInt8) (w : World) (hr : RdB w A n bs) (hn : n ≤ 1500) (_hni : (n : Int) ≤ 1500) (hc1 : n ≤ c) (_hc2 : c ≤ 9223372036854775807) :
    Calls Try.prog 7 #[.slice A n c] w fun e w' => e = .returned (.bool true) ∧ Below w.heap.size w w' := by
  have hlen : bs.length = n := hr.len
  have qq := Below.refl w.heap.size w
  go_enter Try.func7, Try.ntmps7
  go_wp2_with fail
  refine (wakes6_any w).mono ?_
  rintro e w1 ⟨rfl, q1⟩
  replace qq := bl_ca qq q1
  replace hr := hr.below q1
  clear q1
  go_wp2_with fail
  have hT := Lib.hid (takeValue_any A n c bs w1 hr (by omega))
  by_cases hE : tvE bs = 0
  · clear hT
    have hT := Lib.hid (tvc_y A n c bs w1 hr (by omega) hE)
    obtain ⟨hl0, hl1, hl2⟩ := tv_law hE
    have hle := tv_le hE
    have hs := hr.take (k := tvN bs) (by omega)
    rw [← hl1] at hs
    have hzl : (encB (tvV bs)).length = tvN bs := by rw [hl1]; exact take_len hle
    have HL := Lib.hid (fun w => retB_o (cval_any (tvV bs) hl2 w) hl0 hzl)
    have HH := Lib.hid hs
    obtain ⟨N, hN⟩ : ∃ N, N = tvN bs := ⟨_, rfl⟩
    rw [← hN] at hT HL HH hle
    have hNc : N ≤ c := by omega
    clear hE hl0 hl1 hl2 hs hzl hN
    generalize hv : tvV bs = v at *
    replace hv := Lib.hid hv
    refine hT.out.mono ?_
    rintro e wl ⟨rfl, ql⟩
    clear hT
    replace HH := Lib.hid (HH.out.below ql)
    replace hr := hr.below ql
    replace qq := bl_ca qq ql
    clear ql
    have hB := Blk.new wl 24 #[.int .i64 v.k, .int .i64 v.n, .int .u64 v.u, .string v.s]
    have hal := bl_al (Below.refl wl.heap.size wl) (.cells #[.int .i64 v.k, .int .i64 v.n, .int .u64 v.u, .string v.s] 24)
    replace HH := Lib.hid (HH.out.below hal)
    replace hr := hr.below hal
    replace qq := bl_al qq (.cells #[.int .i64 v.k, .int .i64 v.n, .int .u64 v.u, .string v.s] 24)
    clear hal
    have c0 := hB.cell 0
    have c1 := hB.cell 1
    have c2 := hB.cell 2
    have c3 := hB.cell 3
    go_wp2_with fail
    refine (HL.out _).mono ?_
    rintro e wm ⟨Am, cm, rfl, hrm, qm⟩
    clear c0 c1 c2 c3 hB
    replace HH := Lib.hid (HH.out.below qm)
    replace hr := hr.below qm
    replace qq := bl_ca qq qm
    clear qm HL
    go_wp2_with fail
    refine (equal_same _ _ _ _ _ _ _ _ hrm HH.out).mono ?_
    rintro e wa ⟨rfl, rfl⟩
    clear HH hrm hNc hle hv
    go_wp2_with fail
    by_cases hF : trE bs = 0
    · have hT := Lib.hid (trc_y A n c bs wm hr (by omega) hF)
      obtain ⟨hl0, hl1, hl2⟩ := tr_law hF
      have hle := tr_le hF
      have hs := hr.take (k := trN bs) (by omega)
      rw [← hl1] at hs
      have hzl : (rowB (trV bs)).length = trN bs := by rw [hl1]; exact take_len hle
      have HL := Lib.hid (fun A k c w h => retB_o (row_any A k c (trV bs) w h hl2) hl0 hzl)
      have HH := Lib.hid hs
      obtain ⟨N, hN⟩ : ∃ N, N = trN bs := ⟨_, rfl⟩
      rw [← hN] at hT HL HH hle
      have hNc : N ≤ c := by omega
      clear hF hl0 hl1 hl2 hs hzl hN
      refine hT.out.mono ?_
      rintro e wl ⟨Al, kl, cl, rfl, hrl, ql⟩
      clear hT
      replace HH := Lib.hid (HH.out.below ql)
      replace hr := hr.below ql
      replace qq := bl_ca qq ql
      clear ql
      go_wp2_with fail
      refine (HL.out _ _ _ _ hrl).mono ?_
      rintro e wm ⟨Am, cm, rfl, hrm, qm⟩
      replace HH := Lib.hid (HH.out.below qm)
      replace hr := hr.below qm
      replace qq := bl_ca qq qm
      clear qm HL hrl
      go_wp2_with fail
      refine (equal_same _ _ _ _ _ _ _ _ hrm HH.out).mono ?_
      rintro e wa ⟨rfl, rfl⟩
      clear HH hrm hNc hle
      go_wp2_with fail
      by_cases hG : tlE bs = 0
      · have hT := Lib.hid (tlc_y A n c bs wm hr (by omega) hG)
        obtain ⟨hl0, hl1, hl2⟩ := tl_law hG
        have hle := tl_le hG
        have hs := hr.take (k := tlN bs) (by omega)
        rw [← hl1] at hs
        have hzl : (listB (tlV bs)).length = tlN bs := by rw [hl1]; exact take_len hle
        have HL := Lib.hid (fun A k c w h => retL_o (list_any (fun _ => True) A k c (tlV bs) w h hl2) hl0 hzl)
        have HH := Lib.hid hs
        obtain ⟨N, hN⟩ : ∃ N, N = tlN bs := ⟨_, rfl⟩
        rw [← hN] at hT HL HH hle
        have hNc : N ≤ c := by omega
        clear hG hl0 hl1 hl2 hs hzl hN
        refine hT.out.mono ?_
        rintro e wl ⟨Al, kl, cl, rfl, hrl, ql⟩
        clear hT
        replace HH := Lib.hid (HH.out.below ql)
        replace hrl := Lib.hid hrl
        replace qq := bl_ca qq ql
        clear ql hr
        go_wp2_with fail
        refine (HL.out _ _ _ _ hrl.out).mono ?_
        rintro e wm ⟨Am, cm, rfl, hrm, qm⟩
        replace HH := Lib.hid (HH.out.below qm)
        replace qq := bl_ca qq qm
        clear qm HL hrl
        go_wp2_with fail
        refine (equal_same _ _ _ _ _ _ _ _ hrm HH.out).mono ?_
        rintro e wa ⟨rfl, rfl⟩
        go_wp2
        exact bodyPost_ret (v := .bool true) (by simp [results, Try.results7, go_sem]) rfl ⟨rfl, qq⟩
      · have hT := Lib.hid (tlc_n A n c bs wm hr (by omega) hG)
        obtain ⟨E, hE⟩ : ∃ E, E = tlE bs := ⟨_, rfl⟩
        rw [← hE] at hT hG
        have hGd : decide (E = 0) = false := decide_eq_false hG
        clear hE
        refine hT.out.mono ?_
        rintro e wl ⟨Al, cl, rfl, ql⟩
        clear hT
        replace qq := bl_ca qq ql
        clear ql hr
        go_wp2_with fail
        go_wp2
        exact bodyPost_ret (v := .bool true) (by simp [results, Try.results7, go_sem]) rfl ⟨rfl, qq⟩
    · have hT := Lib.hid (trc_n A n c bs wm hr (by omega))
      obtain ⟨E, hE⟩ : ∃ E, E = trE bs := ⟨_, rfl⟩
      rw [← hE] at hT hF
      have hFd : decide (E = 0) = false := decide_eq_false hF
      clear hE
      refine hT.out.mono ?_
      rintro e wl ⟨Al, kl, cl, rfl, ql⟩
      clear hT
      replace hr := hr.below ql
      replace qq := bl_ca qq ql
      clear ql
      go_wp2_with fail
      clear hF hFd
      by_cases hG : tlE bs = 0
      · have hT := Lib.hid (tlc_y A n c bs wl hr (by omega) hG)
        obtain ⟨hl0, hl1, hl2⟩ := tl_law hG
        have hle := tl_le hG
        have hs := hr.take (k := tlN bs) (by omega)
        rw [← hl1] at hs
        have hzl : (listB (tlV bs)).length = tlN bs := by rw [hl1]; exact take_len hle
        have HL := Lib.hid (fun A k c w h => retL_o (list_any (fun _ => True) A k c (tlV bs) w h hl2) hl0 hzl)
        have HH := Lib.hid hs
        obtain ⟨N, hN⟩ : ∃ N, N = tlN bs := ⟨_, rfl⟩
        rw [← hN] at hT HL HH hle
        have hNc : N ≤ c := by omega
        clear hG hl0 hl1 hl2 hs hzl hN
        refine hT.out.mono ?_
        rintro e wl ⟨Al, kl, cl, rfl, hrl, ql⟩
        clear hT
        replace HH := Lib.hid (HH.out.below ql)
        replace hrl := Lib.hid hrl
        replace qq := bl_ca qq ql
        clear ql hr
        go_wp2_with fail
        refine (HL.out _ _ _ _ hrl.out).mono ?_
        rintro e wm ⟨Am, cm, rfl, hrm, qm⟩
        replace HH := Lib.hid (HH.out.below qm)
        replace qq := bl_ca qq qm
        clear qm HL hrl
        go_wp2_with fail
        refine (equal_same _ _ _ _ _ _ _ _ hrm HH.out).mono ?_
        rintro e wa ⟨rfl, rfl⟩
        go_wp2
        exact bodyPost_ret (v := .bool true) (by simp [results, Try.results7, go_sem]) rfl ⟨rfl, qq⟩
      · have hT := Lib.hid (tlc_n A n c bs wl hr (by omega) hG)
        obtain ⟨E, hE⟩ : ∃ E, E = tlE bs := ⟨_, rfl⟩
        rw [← hE] at hT hG
        have hGd : decide (E = 0) = false := decide_eq_false hG
        clear hE
        refine hT.out.mono ?_
        rintro e wl ⟨Al, cl, rfl, ql⟩
        clear hT
        replace qq := bl_ca qq ql
        clear ql hr
        go_wp2_with fail
        go_wp2
        exact bodyPost_ret (v := .bool true) (by simp [results, Try.results7, go_sem]) rfl ⟨rfl, qq⟩
  · obtain ⟨E, hEE⟩ : ∃ E, E = tvE bs := ⟨_, rfl⟩
    rw [← hEE] at hT hE
    have hEd : decide (E = 0) = false := decide_eq_false hE
    clear hEE
    refine hT.out.mono ?_
    rintro e wl ⟨rfl, ql⟩
    clear hT
    generalize hv : tvV bs = v at *
    replace hv := Lib.hid hv
    replace hr := hr.below ql
    replace qq := bl_ca qq ql
    clear ql
    have hal := bl_al (Below.refl wl.heap.size wl) (.cells #[.int .i64 v.k, .int .i64 v.n, .int .u64 v.u, .string v.s] 24)
    replace hr := hr.below hal
    replace qq := bl_al qq (.cells #[.int .i64 v.k, .int .i64 v.n, .int .u64 v.u, .string v.s] 24)
    clear hal
    go_wp2_with fail
    clear hE hEd hv
    by_cases hF : trE bs = 0
    · have hT := Lib.hid (trc_y A n c bs (wl.alloc (.cells #[.int .i64 v.k, .int .i64 v.n, .int .u64 v.u, .string v.s] 24)) hr (by omega) hF)
      obtain ⟨hl0, hl1, hl2⟩ := tr_law hF
      have hle := tr_le hF
      have hs := hr.take (k := trN bs) (by omega)
      rw [← hl1] at hs
      have hzl : (rowB (trV bs)).length = trN bs := by rw [hl1]; exact take_len hle
      have HL := Lib.hid (fun A k c w h => retB_o (row_any A k c (trV bs) w h hl2) hl0 hzl)
      have HH := Lib.hid hs
      obtain ⟨N, hN⟩ : ∃ N, N = trN bs := ⟨_, rfl⟩
      rw [← hN] at hT HL HH hle
      have hNc : N ≤ c := by omega
      clear hF hl0 hl1 hl2 hs hzl hN
      refine hT.out.mono ?_
      rintro e wl ⟨Al, kl, cl, rfl, hrl, ql⟩
      clear hT
      replace HH := Lib.hid (HH.out.below ql)
      replace hr := hr.below ql
      replace qq := bl_ca qq ql
      clear ql
      go_wp2_with fail
      refine (HL.out _ _ _ _ hrl).mono ?_
      rintro e wm ⟨Am, cm, rfl, hrm, qm⟩
      replace HH := Lib.hid (HH.out.below qm)
      replace hr := hr.below qm
      replace qq := bl_ca qq qm
      clear qm HL hrl
      go_wp2_with fail
      refine (equal_same _ _ _ _ _ _ _ _ hrm HH.out).mono ?_
      rintro e wa ⟨rfl, rfl⟩
      clear HH hrm hNc hle
      go_wp2_with fail
      by_cases hG : tlE bs = 0
      · have hT := Lib.hid (tlc_y A n c bs wm hr (by omega) hG)
        obtain ⟨hl0, hl1, hl2⟩ := tl_law hG
        have hle := tl_le hG
        have hs := hr.take (k := tlN bs) (by omega)
        rw [← hl1] at hs
        have hzl : (listB (tlV bs)).length = tlN bs := by rw [hl1]; exact take_len hle
        have HL := Lib.hid (fun A k c w h => retL_o (list_any (fun _ => True) A k c (tlV bs) w h hl2) hl0 hzl)
        have HH := Lib.hid hs
        obtain ⟨N, hN⟩ : ∃ N, N = tlN bs := ⟨_, rfl⟩
        rw [← hN] at hT HL HH hle
        have hNc : N ≤ c := by omega
        clear hG hl0 hl1 hl2 hs hzl hN
        refine hT.out.mono ?_
        rintro e wl ⟨Al, kl, cl, rfl, hrl, ql⟩
        clear hT
        replace HH := Lib.hid (HH.out.below ql)
        replace hrl := Lib.hid hrl
        replace qq := bl_ca qq ql
        clear ql hr
        go_wp2_with fail
        refine (HL.out _ _ _ _ hrl.out).mono ?_
        rintro e wm ⟨Am, cm, rfl, hrm, qm⟩
        replace HH := Lib.hid (HH.out.below qm)
        replace qq := bl_ca qq qm
        clear qm HL hrl
        go_wp2_with fail
        refine (equal_same _ _ _ _ _ _ _ _ hrm HH.out).mono ?_
        rintro e wa ⟨rfl, rfl⟩
        go_wp2
        exact bodyPost_ret (v := .bool true) (by simp [results, Try.results7, go_sem]) rfl ⟨rfl, qq⟩
      · have hT := Lib.hid (tlc_n A n c bs wm hr (by omega) hG)
        obtain ⟨E, hE⟩ : ∃ E, E = tlE bs := ⟨_, rfl⟩
        rw [← hE] at hT hG
        have hGd : decide (E = 0) = false := decide_eq_false hG
        clear hE
        refine hT.out.mono ?_
        rintro e wl ⟨Al, cl, rfl, ql⟩
        clear hT
        replace qq := bl_ca qq ql
        clear ql hr
        go_wp2_with fail
        go_wp2
        exact bodyPost_ret (v := .bool true) (by simp [results, Try.results7, go_sem]) rfl ⟨rfl, qq⟩
    · have hT := Lib.hid (trc_n A n c bs (wl.alloc (.cells #[.int .i64 v.k, .int .i64 v.n, .int .u64 v.u, .string v.s] 24)) hr (by omega))
      obtain ⟨E, hE⟩ : ∃ E, E = trE bs := ⟨_, rfl⟩
      rw [← hE] at hT hF
      have hFd : decide (E = 0) = false := decide_eq_false hF
      clear hE
      refine hT.out.mono ?_
      rintro e wl ⟨Al, kl, cl, rfl, ql⟩
      clear hT
      replace hr := hr.below ql
      replace qq := bl_ca qq ql
      clear ql
      go_wp2_with fail
      clear hF hFd
      by_cases hG : tlE bs = 0
      · have hT := Lib.hid (tlc_y A n c bs wl hr (by omega) hG)
        obtain ⟨hl0, hl1, hl2⟩ := tl_law hG
        have hle := tl_le hG
        have hs := hr.take (k := tlN bs) (by omega)
        rw [← hl1] at hs
        have hzl : (listB (tlV bs)).length = tlN bs := by rw [hl1]; exact take_len hle
        have HL := Lib.hid (fun A k c w h => retL_o (list_any (fun _ => True) A k c (tlV bs) w h hl2) hl0 hzl)
        have HH := Lib.hid hs
        obtain ⟨N, hN⟩ : ∃ N, N = tlN bs := ⟨_, rfl⟩
        rw [← hN] at hT HL HH hle
        have hNc : N ≤ c := by omega
        clear hG hl0 hl1 hl2 hs hzl hN
        refine hT.out.mono ?_
        rintro e wl ⟨Al, kl, cl, rfl, hrl, ql⟩
        clear hT
        replace HH := Lib.hid (HH.out.below ql)
        replace hrl := Lib.hid hrl
        replace qq := bl_ca qq ql
        clear ql hr
        go_wp2_with fail
        refine (HL.out _ _ _ _ hrl.out).mono ?_
        rintro e wm ⟨Am, cm, rfl, hrm, qm⟩
        replace HH := Lib.hid (HH.out.below qm)
        replace qq := bl_ca qq qm
        clear qm HL hrl
        go_wp2_with fail
        refine (equal_same _ _ _ _ _ _ _ _ hrm HH.out).mono ?_
        rintro e wa ⟨rfl, rfl⟩
        go_wp2
        exact bodyPost_ret (v := .bool true) (by simp [results, Try.results7, go_sem]) rfl ⟨rfl, qq⟩
      · have hT := Lib.hid (tlc_n A n c bs wl hr (by omega) hG)
        obtain ⟨E, hE⟩ : ∃ E, E = tlE bs := ⟨_, rfl⟩
        rw [← hE] at hT hG
        have hGd : decide (E = 0) = false := decide_eq_false hG
        clear hE
        refine hT.out.mono ?_
        rintro e wl ⟨Al, cl, rfl, ql⟩
        clear hT
        replace qq := bl_ca qq ql
        clear ql hr
        go_wp2_with fail
        go_wp2
        exact bodyPost_ret (v := .bool true) (by simp [results, Try.results7, go_sem]) rfl ⟨rfl, qq⟩
set_option maxRecDepth 100000 in
set_option maxHeartbeats 16000000 in
theorem codecTaken_l (A : Option Addr) (n c : Nat) (bs : List UInt8) (w : World) (hr : RdB w A 1500 bs) (hn : 1500 < n) (_hni : ¬ (n : Int) ≤ 1500) (hc1 : n ≤ c) (_hc2 : c ≤ 9223372036854775807) :
    Calls Try.prog 7 #[.slice A n c] w fun e w' => e = .returned (.bool true) ∧ Below w.heap.size w w' := by
  have hlen : bs.length = 1500 := hr.len
  have qq := Below.refl w.heap.size w
  go_enter Try.func7, Try.ntmps7
  go_wp2_with fail
  refine (wakes6_any w).mono ?_
  rintro e w1 ⟨rfl, q1⟩
  replace qq := bl_ca qq q1
  replace hr := hr.below q1
  clear q1
  go_wp2_with fail
  have hT := Lib.hid (takeValue_any A 1500 c bs w1 hr (by omega))
  by_cases hE : tvE bs = 0
  · clear hT
    have hT := Lib.hid (tvc_y A 1500 c bs w1 hr (by omega) hE)
    obtain ⟨hl0, hl1, hl2⟩ := tv_law hE
    have hle := tv_le hE
    have hs := hr.take (k := tvN bs) (by omega)
    rw [← hl1] at hs
    have hzl : (encB (tvV bs)).length = tvN bs := by rw [hl1]; exact take_len hle
    have HL := Lib.hid (fun w => retB_o (cval_any (tvV bs) hl2 w) hl0 hzl)
    have HH := Lib.hid hs
    obtain ⟨N, hN⟩ : ∃ N, N = tvN bs := ⟨_, rfl⟩
    rw [← hN] at hT HL HH hle
    have hNc : N ≤ c := by omega
    clear hE hl0 hl1 hl2 hs hzl hN
    generalize hv : tvV bs = v at *
    replace hv := Lib.hid hv
    refine hT.out.mono ?_
    rintro e wl ⟨rfl, ql⟩
    clear hT
    replace HH := Lib.hid (HH.out.below ql)
    replace hr := hr.below ql
    replace qq := bl_ca qq ql
    clear ql
    have hB := Blk.new wl 24 #[.int .i64 v.k, .int .i64 v.n, .int .u64 v.u, .string v.s]
    have hal := bl_al (Below.refl wl.heap.size wl) (.cells #[.int .i64 v.k, .int .i64 v.n, .int .u64 v.u, .string v.s] 24)
    replace HH := Lib.hid (HH.out.below hal)
    replace hr := hr.below hal
    replace qq := bl_al qq (.cells #[.int .i64 v.k, .int .i64 v.n, .int .u64 v.u, .string v.s] 24)
    clear hal
    have c0 := hB.cell 0
    have c1 := hB.cell 1
    have c2 := hB.cell 2
    have c3 := hB.cell 3
    go_wp2_with fail
    refine (HL.out _).mono ?_
    rintro e wm ⟨Am, cm, rfl, hrm, qm⟩
    clear c0 c1 c2 c3 hB
    replace HH := Lib.hid (HH.out.below qm)
    replace hr := hr.below qm
    replace qq := bl_ca qq qm
    clear qm HL
    go_wp2_with fail
    refine (equal_same _ _ _ _ _ _ _ _ hrm HH.out).mono ?_
    rintro e wa ⟨rfl, rfl⟩
    clear HH hrm hNc hle hv
    go_wp2_with fail
    by_cases hF : trE bs = 0
    · have hT := Lib.hid (trc_y A 1500 c bs wm hr (by omega) hF)
      obtain ⟨hl0, hl1, hl2⟩ := tr_law hF
      have hle := tr_le hF
      have hs := hr.take (k := trN bs) (by omega)
      rw [← hl1] at hs
      have hzl : (rowB (trV bs)).length = trN bs := by rw [hl1]; exact take_len hle
      have HL := Lib.hid (fun A k c w h => retB_o (row_any A k c (trV bs) w h hl2) hl0 hzl)
      have HH := Lib.hid hs
      obtain ⟨N, hN⟩ : ∃ N, N = trN bs := ⟨_, rfl⟩
      rw [← hN] at hT HL HH hle
      have hNc : N ≤ c := by omega
      clear hF hl0 hl1 hl2 hs hzl hN
      refine hT.out.mono ?_
      rintro e wl ⟨Al, kl, cl, rfl, hrl, ql⟩
      clear hT
      replace HH := Lib.hid (HH.out.below ql)
      replace hr := hr.below ql
      replace qq := bl_ca qq ql
      clear ql
      go_wp2_with fail
      refine (HL.out _ _ _ _ hrl).mono ?_
      rintro e wm ⟨Am, cm, rfl, hrm, qm⟩
      replace HH := Lib.hid (HH.out.below qm)
      replace hr := hr.below qm
      replace qq := bl_ca qq qm
      clear qm HL hrl
      go_wp2_with fail
      refine (equal_same _ _ _ _ _ _ _ _ hrm HH.out).mono ?_
      rintro e wa ⟨rfl, rfl⟩
      clear HH hrm hNc hle
      go_wp2_with fail
      by_cases hG : tlE bs = 0
      · have hT := Lib.hid (tlc_y A 1500 c bs wm hr (by omega) hG)
        obtain ⟨hl0, hl1, hl2⟩ := tl_law hG
        have hle := tl_le hG
        have hs := hr.take (k := tlN bs) (by omega)
        rw [← hl1] at hs
        have hzl : (listB (tlV bs)).length = tlN bs := by rw [hl1]; exact take_len hle
        have HL := Lib.hid (fun A k c w h => retL_o (list_any (fun _ => True) A k c (tlV bs) w h hl2) hl0 hzl)
        have HH := Lib.hid hs
        obtain ⟨N, hN⟩ : ∃ N, N = tlN bs := ⟨_, rfl⟩
        rw [← hN] at hT HL HH hle
        have hNc : N ≤ c := by omega
        clear hG hl0 hl1 hl2 hs hzl hN
        refine hT.out.mono ?_
        rintro e wl ⟨Al, kl, cl, rfl, hrl, ql⟩
        clear hT
        replace HH := Lib.hid (HH.out.below ql)
        replace hrl := Lib.hid hrl
        replace qq := bl_ca qq ql
        clear ql hr
        go_wp2_with fail
        refine (HL.out _ _ _ _ hrl.out).mono ?_
        rintro e wm ⟨Am, cm, rfl, hrm, qm⟩
        replace HH := Lib.hid (HH.out.below qm)
        replace qq := bl_ca qq qm
        clear qm HL hrl
        go_wp2_with fail
        refine (equal_same _ _ _ _ _ _ _ _ hrm HH.out).mono ?_
        rintro e wa ⟨rfl, rfl⟩
        go_wp2
        exact bodyPost_ret (v := .bool true) (by simp [results, Try.results7, go_sem]) rfl ⟨rfl, qq⟩
      · have hT := Lib.hid (tlc_n A 1500 c bs wm hr (by omega) hG)
        obtain ⟨E, hE⟩ : ∃ E, E = tlE bs := ⟨_, rfl⟩
        rw [← hE] at hT hG
        have hGd : decide (E = 0) = false := decide_eq_false hG
        clear hE
        refine hT.out.mono ?_
        rintro e wl ⟨Al, cl, rfl, ql⟩
        clear hT
        replace qq := bl_ca qq ql
        clear ql hr
        go_wp2_with fail
        go_wp2
        exact bodyPost_ret (v := .bool true) (by simp [results, Try.results7, go_sem]) rfl ⟨rfl, qq⟩
    · have hT := Lib.hid (trc_n A 1500 c bs wm hr (by omega))
      obtain ⟨E, hE⟩ : ∃ E, E = trE bs := ⟨_, rfl⟩
      rw [← hE] at hT hF
      have hFd : decide (E = 0) = false := decide_eq_false hF
      clear hE
      refine hT.out.mono ?_
      rintro e wl ⟨Al, kl, cl, rfl, ql⟩
      clear hT
      replace hr := hr.below ql
      replace qq := bl_ca qq ql
      clear ql
      go_wp2_with fail
      clear hF hFd
      by_cases hG : tlE bs = 0
      · have hT := Lib.hid (tlc_y A 1500 c bs wl hr (by omega) hG)
        obtain ⟨hl0, hl1, hl2⟩ := tl_law hG
        have hle := tl_le hG
        have hs := hr.take (k := tlN bs) (by omega)
        rw [← hl1] at hs
        have hzl : (listB (tlV bs)).length = tlN bs := by rw [hl1]; exact take_len hle
        have HL := Lib.hid (fun A k c w h => retL_o (list_any (fun _ => True) A k c (tlV bs) w h hl2) hl0 hzl)
        have HH := Lib.hid hs
        obtain ⟨N, hN⟩ : ∃ N, N = tlN bs := ⟨_, rfl⟩
        rw [← hN] at hT HL HH hle
        have hNc : N ≤ c := by omega
        clear hG hl0 hl1 hl2 hs hzl hN
        refine hT.out.mono ?_
        rintro e wl ⟨Al, kl, cl, rfl, hrl, ql⟩
        clear hT
        replace HH := Lib.hid (HH.out.below ql)
        replace hrl := Lib.hid hrl
        replace qq := bl_ca qq ql
        clear ql hr
        go_wp2_with fail
        refine (HL.out _ _ _ _ hrl.out).mono ?_
        rintro e wm ⟨Am, cm, rfl, hrm, qm⟩
        replace HH := Lib.hid (HH.out.below qm)
        replace qq := bl_ca qq qm
        clear qm HL hrl
        go_wp2_with fail
        refine (equal_same _ _ _ _ _ _ _ _ hrm HH.out).mono ?_
        rintro e wa ⟨rfl, rfl⟩
        go_wp2
        exact bodyPost_ret (v := .bool true) (by simp [results, Try.results7, go_sem]) rfl ⟨rfl, qq⟩
      · have hT := Lib.hid (tlc_n A 1500 c bs wl hr (by omega) hG)
        obtain ⟨E, hE⟩ : ∃ E, E = tlE bs := ⟨_, rfl⟩
        rw [← hE] at hT hG
        have hGd : decide (E = 0) = false := decide_eq_false hG
        clear hE
        refine hT.out.mono ?_
        rintro e wl ⟨Al, cl, rfl, ql⟩
        clear hT
        replace qq := bl_ca qq ql
        clear ql hr
        go_wp2_with fail
        go_wp2
        exact bodyPost_ret (v := .bool true) (by simp [results, Try.results7, go_sem]) rfl ⟨rfl, qq⟩
  · obtain ⟨E, hEE⟩ : ∃ E, E = tvE bs := ⟨_, rfl⟩
    rw [← hEE] at hT hE
    have hEd : decide (E = 0) = false := decide_eq_false hE
    clear hEE
    refine hT.out.mono ?_
    rintro e wl ⟨rfl, ql⟩
    clear hT
    generalize hv : tvV bs = v at *
    replace hv := Lib.hid hv
    replace hr := hr.below ql
    replace qq := bl_ca qq ql
    clear ql
    have hal := bl_al (Below.refl wl.heap.size wl) (.cells #[.int .i64 v.k, .int .i64 v.n, .int .u64 v.u, .string v.s] 24)
    replace hr := hr.below hal
    replace qq := bl_al qq (.cells #[.int .i64 v.k, .int .i64 v.n, .int .u64 v.u, .string v.s] 24)
    clear hal
    go_wp2_with fail
    clear hE hEd hv
    by_cases hF : trE bs = 0
    · have hT := Lib.hid (trc_y A 1500 c bs (wl.alloc (.cells #[.int .i64 v.k, .int .i64 v.n, .int .u64 v.u, .string v.s] 24)) hr (by omega) hF)
      obtain ⟨hl0, hl1, hl2⟩ := tr_law hF
      have hle := tr_le hF
      have hs := hr.take (k := trN bs) (by omega)
      rw [← hl1] at hs
      have hzl : (rowB (trV bs)).length = trN bs := by rw [hl1]; exact take_len hle
      have HL := Lib.hid (fun A k c w h => retB_o (row_any A k c (trV bs) w h hl2) hl0 hzl)
      have HH := Lib.hid hs
      obtain ⟨N, hN⟩ : ∃ N, N = trN bs := ⟨_, rfl⟩
      rw [← hN] at hT HL HH hle
      have hNc : N ≤ c := by omega
      clear hF hl0 hl1 hl2 hs hzl hN
      refine hT.out.mono ?_
      rintro e wl ⟨Al, kl, cl, rfl, hrl, ql⟩
      clear hT
      replace HH := Lib.hid (HH.out.below ql)
      replace hr := hr.below ql
      replace qq := bl_ca qq ql
      clear ql
      go_wp2_with fail
      refine (HL.out _ _ _ _ hrl).mono ?_
      rintro e wm ⟨Am, cm, rfl, hrm, qm⟩
      replace HH := Lib.hid (HH.out.below qm)
      replace hr := hr.below qm
      replace qq := bl_ca qq qm
      clear qm HL hrl
      go_wp2_with fail
      refine (equal_same _ _ _ _ _ _ _ _ hrm HH.out).mono ?_
      rintro e wa ⟨rfl, rfl⟩
      clear HH hrm hNc hle
      go_wp2_with fail
      by_cases hG : tlE bs = 0
      · have hT := Lib.hid (tlc_y A 1500 c bs wm hr (by omega) hG)
        obtain ⟨hl0, hl1, hl2⟩ := tl_law hG
        have hle := tl_le hG
        have hs := hr.take (k := tlN bs) (by omega)
        rw [← hl1] at hs
        have hzl : (listB (tlV bs)).length = tlN bs := by rw [hl1]; exact take_len hle
        have HL := Lib.hid (fun A k c w h => retL_o (list_any (fun _ => True) A k c (tlV bs) w h hl2) hl0 hzl)
        have HH := Lib.hid hs
        obtain ⟨N, hN⟩ : ∃ N, N = tlN bs := ⟨_, rfl⟩
        rw [← hN] at hT HL HH hle
        have hNc : N ≤ c := by omega
        clear hG hl0 hl1 hl2 hs hzl hN
        refine hT.out.mono ?_
        rintro e wl ⟨Al, kl, cl, rfl, hrl, ql⟩
        clear hT
        replace HH := Lib.hid (HH.out.below ql)
        replace hrl := Lib.hid hrl
        replace qq := bl_ca qq ql
        clear ql hr
        go_wp2_with fail
        refine (HL.out _ _ _ _ hrl.out).mono ?_
        rintro e wm ⟨Am, cm, rfl, hrm, qm⟩
        replace HH := Lib.hid (HH.out.below qm)
        replace qq := bl_ca qq qm
        clear qm HL hrl
        go_wp2_with fail
        refine (equal_same _ _ _ _ _ _ _ _ hrm HH.out).mono ?_
        rintro e wa ⟨rfl, rfl⟩
        go_wp2
        exact bodyPost_ret (v := .bool true) (by simp [results, Try.results7, go_sem]) rfl ⟨rfl, qq⟩
      · have hT := Lib.hid (tlc_n A 1500 c bs wm hr (by omega) hG)
        obtain ⟨E, hE⟩ : ∃ E, E = tlE bs := ⟨_, rfl⟩
        rw [← hE] at hT hG
        have hGd : decide (E = 0) = false := decide_eq_false hG
        clear hE
        refine hT.out.mono ?_
        rintro e wl ⟨Al, cl, rfl, ql⟩
        clear hT
        replace qq := bl_ca qq ql
        clear ql hr
        go_wp2_with fail
        go_wp2
        exact bodyPost_ret (v := .bool true) (by simp [results, Try.results7, go_sem]) rfl ⟨rfl, qq⟩
    · have hT := Lib.hid (trc_n A 1500 c bs (wl.alloc (.cells #[.int .i64 v.k, .int .i64 v.n, .int .u64 v.u, .string v.s] 24)) hr (by omega))
      obtain ⟨E, hE⟩ : ∃ E, E = trE bs := ⟨_, rfl⟩
      rw [← hE] at hT hF
      have hFd : decide (E = 0) = false := decide_eq_false hF
      clear hE
      refine hT.out.mono ?_
      rintro e wl ⟨Al, kl, cl, rfl, ql⟩
      clear hT
      replace hr := hr.below ql
      replace qq := bl_ca qq ql
      clear ql
      go_wp2_with fail
      clear hF hFd
      by_cases hG : tlE bs = 0
      · have hT := Lib.hid (tlc_y A 1500 c bs wl hr (by omega) hG)
        obtain ⟨hl0, hl1, hl2⟩ := tl_law hG
        have hle := tl_le hG
        have hs := hr.take (k := tlN bs) (by omega)
        rw [← hl1] at hs
        have hzl : (listB (tlV bs)).length = tlN bs := by rw [hl1]; exact take_len hle
        have HL := Lib.hid (fun A k c w h => retL_o (list_any (fun _ => True) A k c (tlV bs) w h hl2) hl0 hzl)
        have HH := Lib.hid hs
        obtain ⟨N, hN⟩ : ∃ N, N = tlN bs := ⟨_, rfl⟩
        rw [← hN] at hT HL HH hle
        have hNc : N ≤ c := by omega
        clear hG hl0 hl1 hl2 hs hzl hN
        refine hT.out.mono ?_
        rintro e wl ⟨Al, kl, cl, rfl, hrl, ql⟩
        clear hT
        replace HH := Lib.hid (HH.out.below ql)
        replace hrl := Lib.hid hrl
        replace qq := bl_ca qq ql
        clear ql hr
        go_wp2_with fail
        refine (HL.out _ _ _ _ hrl.out).mono ?_
        rintro e wm ⟨Am, cm, rfl, hrm, qm⟩
        replace HH := Lib.hid (HH.out.below qm)
        replace qq := bl_ca qq qm
        clear qm HL hrl
        go_wp2_with fail
        refine (equal_same _ _ _ _ _ _ _ _ hrm HH.out).mono ?_
        rintro e wa ⟨rfl, rfl⟩
        go_wp2
        exact bodyPost_ret (v := .bool true) (by simp [results, Try.results7, go_sem]) rfl ⟨rfl, qq⟩
      · have hT := Lib.hid (tlc_n A 1500 c bs wl hr (by omega) hG)
        obtain ⟨E, hE⟩ : ∃ E, E = tlE bs := ⟨_, rfl⟩
        rw [← hE] at hT hG
        have hGd : decide (E = 0) = false := decide_eq_false hG
        clear hE
        refine hT.out.mono ?_
        rintro e wl ⟨Al, cl, rfl, ql⟩
        clear hT
        replace qq := bl_ca qq ql
        clear ql hr
        go_wp2_with fail
        go_wp2
        exact bodyPost_ret (v := .bool true) (by simp [results, Try.results7, go_sem]) rfl ⟨rfl, qq⟩
theorem codecTaken_walk (A : Option Addr) (n c : Nat) (xs : List UInt8) (w : World) (ha : RdB w A n xs) (hc1 : n ≤ c) (hc2 : c ≤ 9223372036854775807) :
    Calls Try.prog 7 #[.slice A n c] w fun e w' => e = .returned (.bool true) ∧ Below w.heap.size w w' := by
  by_cases h : n ≤ 1500
  · exact codecTaken_s A n c xs w ha h (by omega) hc1 hc2
  · exact codecTaken_l A n c (xs.take 1500) w (ha.take (by omega)) (by omega) (by omega) hc1 hc2
end Go.Proofs.Ytfpodalnnchnoaa
