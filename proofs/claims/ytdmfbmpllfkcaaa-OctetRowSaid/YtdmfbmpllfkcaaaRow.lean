/- The walk of the statement OctetRow: the Go text answers true and turns no memory that was there. Conditions: the slice reads as these numbers. -/
import Derived.Test.YtdmfbmpllfkcaaaRowMath
import Derived.Test.YtdmfbmpllfkcaaaWakes1
namespace Go.Proofs.Ytdmfbmpllfkcaaa
open Go.RowKit
def vu (x : Nat) : Value := .int .u64 (x : Int)
def RdU (w : World) (A : Option Addr) (n : Nat) (xs : List Nat) : Prop := Reads w w.heap.size 1 A n (xs.map vu)
theorem RdU.len {w : World} {A : Option Addr} {n : Nat} {xs : List Nat} (h : RdU w A n xs) : xs.length = n := by have := h.1; simpa using this
theorem RdU.cellAt {w : World} {A : Option Addr} {n : Nat} {xs : List Nat} (h : RdU w A n xs) (k : Nat) (hk : k < n) : ∃ ad, A = some ad ∧ ad.block < w.heap.size ∧ w.cell? (ad.add k) = some (.int .u64 ((xs.getD k 0 : Nat) : Int)) := by
  obtain ⟨ad, u, hA, hB, hu, hc⟩ := Reads.at_ h hk
  have hkl : k < xs.length := by rw [h.len]; exact hk
  refine ⟨ad, hA, hB, ?_⟩
  have : u = vu (xs.getD k 0) := by simpa [hkl, List.getD, List.getElem?_eq_getElem hkl] using hu.symm
  rw [hc, this]; rfl
theorem RdU.below {w w' : World} {A : Option Addr} {n : Nat} {xs : List Nat} (h : RdU w A n xs) (hb : Below w.heap.size w w') : RdU w' A n xs := (Reads.below h hb).more hb.size
theorem getD_map_mod (xs : List Nat) (m k : Nat) (h : k < xs.length) : (xs.map (· % m)).getD k 0 = xs.getD k 0 % m := by
  simp [List.getD, List.getElem?_eq_getElem h]
theorem take_succ_mod (xs : List Nat) (m k : Nat) (h : k < xs.length) : (xs.map (· % m)).take (k + 1) = (xs.map (· % m)).take k ++ [xs.getD k 0 % m] := by
  have h' : k < (xs.map (· % m)).length := by simpa using h
  rw [List.take_succ_eq_append_getElem h']
  simp [List.getD, List.getElem?_eq_getElem h]
set_option maxRecDepth 100000 in
set_option maxHeartbeats 4000000 in
theorem octetRow16 (A : Option Addr) (n c : Nat) (xs : List Nat) (i : Int) (u : Nat) (w : World) (ha : RdU w A n xs) (hxs : ∀ x ∈ xs, x < 2 ^ 64) (hn : n ≤ 300) (hu : IntKind.u64.wrap i = (u : Int)) (hc : u % 3 = 0) :
    Calls Try.prog 7 #[.slice A n c, .int .i64 i] w fun e w' => e = .returned (.bool true) ∧ Below w.heap.size w w' := by
  have HU := Lib.hid hc
  have HL := Lib.hid ha.len
  have HXS := Lib.hid hxs
  have HYL := Lib.hid (show (xs.map (· % 2 ^ 16)).length = n from by rw [List.length_map]; exact ha.len)
  have t0 : (((u : Int) % 3) == 0) = true := by rw [beq_iff_eq]; omega
  have u0 : (0 : Int) ≤ (u : Int) := by omega
  clear hc hxs
  go_enter Try.func7, Try.ntmps7
  go_wp2_with fail
  refine (wakes1_any w).mono ?_
  rintro e w1 ⟨rfl, b1⟩
  have ha1 := ha.below b1
  clear ha
  go_wp2
  go_loopg [5, 19] n (fun g v s wr => ∃ (k : Nat) (A' : Option Addr) (c' : Nat), k + g ≤ n ∧ n ≤ k + g ∧ s = .int .i64 k ∧ v = .slice A' (2 * k) c' ∧ OwnB wr w.heap.size A' (2 * k) c' (flat 2 ((xs.map (· % 2 ^ 16)).take k)) ∧ Below w.heap.size w wr ∧ Below w1.heap.size w1 wr)
  case atStart => exact ⟨0, none, 0, by omega, by omega, rfl, rfl, OwnB.none_ _ _, b1, Below.refl _ _⟩
  case round =>
    clear b1
    obtain ⟨k, A', c', h1, h2, rfl, rfl, ho, hb, hb1⟩ := hrel
    by_cases hk : k < n
    · obtain ⟨ad, rfl, hadl, hcell⟩ := ha1.cellAt k hk
      have hcell' : wr.cell? (ad.add k) = some (.int .u64 ((xs.getD k 0 : Nat) : Int)) := (hb1.cell (by rw [block_of_add]; exact hadl)).trans hcell
      have hxl : xs.getD k 0 < 2 ^ 64 := by
        have hkl : k < xs.length := by rw [HL.out]; exact hk
        rw [List.getD_eq_getElem?_getD, List.getElem?_eq_getElem hkl, Option.getD_some]
        exact HXS.out _ (List.getElem_mem hkl)
      have HT := Lib.hid (take_succ_mod xs (2 ^ 16) k (by rw [HL.out]; exact hk))
      generalize xs.getD k 0 = x at *
      clear hcell
      have hxm := Nat.mod_lt x (show 0 < 2 ^ 16 from by decide)
      have hxw : IntKind.u16.wrap (x : Int) = ((x % 2 ^ 16 : Nat) : Int) := by
        simp [IntKind.wrap, IntKind.bits, IntKind.signed]
      have HXL := Lib.hid hxl
      have HXM := Lib.hid hxm
      clear hxl hxm
      go_wp2_with fail
      refine (Put16_any A' (2 * k) c' _ (x % 2 ^ 16) wr ho.rd (by omega) HXM.out).mono ?_
      rintro e w2 ⟨A2, c2, rfl, ho2, q2⟩
      have hb2 := hb.trans (q2.mono hb.size)
      have hb12 := hb1.trans (q2.mono hb1.size)
      have ho3 := ho2.less hb.size
      clear ho ho2 q2 hb hb1
      go_wp2
      go_roundg (gk - 1)
      case measure => omega
      case rel => exact ⟨k + 1, A2, c2, by omega, by omega, by go_num, by rw [Nat.mul_add], by rw [HT.out, flat_snoc, Nat.mul_add]; exact ho3, hb2, hb12⟩
    · obtain rfl : k = n := by omega
      have HTA := Lib.hid (show (xs.map (· % 2 ^ 16)).take k = xs.map (· % 2 ^ 16) from List.take_of_length_le (by rw [HYL.out]; exact Nat.le_refl _))
      rw [HTA.out] at ho
      go_wp2_with fail
      refine (read_any A' (2 * k) c' _ wr ho.rd (by omega)).mono ?_
      rintro e w2 ⟨R, O, cO, rfl, hRB, _, hr, q2⟩
      have hb2 := hb.trans (q2.mono hb.size)
      have hb12 := hb1.trans (q2.mono hb1.size)
      have hRw : w.heap.size ≤ R := Nat.le_trans hb.size hRB
      have hRw1 : w1.heap.size ≤ R := Nat.le_trans hb1.size hRB
      clear ho q2 hb hb1
      go_wp2
      go_loopg [46] k (fun g s wr => ∃ j : Nat, j + g ≤ k ∧ k ≤ j + g ∧ s = .int .i64 j ∧ Rdr wr R O (2 * k) cO (flat 2 (xs.map (· % 2 ^ 16))) (2 * j) 0 ∧ Below w.heap.size w wr ∧ Below w1.heap.size w1 wr)
      case atStart => exact ⟨0, by omega, by omega, rfl, hr, hb2, hb12⟩
      case round =>
        clear hr hb2 hb12
        obtain ⟨j, h3, h4, rfl, hr, hb, hb1⟩ := hrel
        by_cases hj : j < k
        · obtain ⟨ad, rfl, hadl, hcell⟩ := ha1.cellAt j hj
          have hcell' : wr.cell? (ad.add j) = some (.int .u64 ((xs.getD j 0 : Nat) : Int)) := (hb1.cell (by rw [block_of_add]; exact hadl)).trans hcell
          have hxl : xs.getD j 0 < 2 ^ 64 := by
            have hkl : j < xs.length := by rw [HL.out]; exact hj
            rw [List.getD_eq_getElem?_getD, List.getElem?_eq_getElem hkl, Option.getD_some]
            exact HXS.out _ (List.getElem_mem hkl)
          have HRD := Lib.hid (rd_row 2 (xs.map (· % 2 ^ 16)) j (by rw [HYL.out]; exact hj))
          have HG := Lib.hid (getD_map_mod xs (2 ^ 16) j (by rw [HL.out]; exact hj))
          generalize xs.getD j 0 = x at *
          clear hcell
          have hxm := Nat.mod_lt x (show 0 < 2 ^ 16 from by decide)
          have HV := Lib.hid (show wv (rdO (flat 2 (xs.map (· % 2 ^ 16))) (2 * j) 0 2) = x % 2 ^ 16 from by
            have := HRD.out.1
            rw [show ((2 : Nat) : Int) = 2 from rfl] at this
            rw [this, HG.out, wv_beB 2 _ (by decide) hxm])
          have hxw : IntKind.u16.wrap (x : Int) = ((x % 2 ^ 16 : Nat) : Int) := by
            simp [IntKind.wrap, IntKind.bits, IntKind.signed]
          clear hxl hxm
          go_wp2_with fail
          refine (u16_any R O (2 * k) cO _ (2 * j) 0 wr hr).mono ?_
          rintro e w3 ⟨rfl, hr3, g3⟩
          rw [HV.out]
          have hP := HRD.out.2.1
          have hW := HRD.out.2.2
          rw [show ((2 : Nat) : Int) = 2 from rfl] at hP hW
          rw [hP, hW] at hr3
          have hb3 := grown_below hb g3 hb.size hRw
          have hb13 := grown_below hb1 g3 hb1.size hRw1
          clear hP hW hr hb hb1 g3
          go_wp2_with fail
          refine (err_any R O (2 * k) cO _ (2 * (j + 1)) 0 w3 hr3).mono ?_
          rintro e w4 ⟨rfl, rfl⟩
          go_wp2
          go_roundg (gk - 1)
          case measure => omega
          case rel => exact ⟨j + 1, by omega, by omega, by go_num, hr3, hb3, hb13⟩
        · obtain rfl : j = k := by omega
          have HE := Lib.hid (show rdO (flat 2 (xs.map (· % 2 ^ 16))) (2 * j) 0 1 = [] ∧ rdP (flat 2 (xs.map (· % 2 ^ 16))) (2 * j) 0 1 = 2 * j ∧ rdW (flat 2 (xs.map (· % 2 ^ 16))) (2 * j) 0 1 = 7 from by
            have := rd_end 2 (xs.map (· % 2 ^ 16))
            rw [HYL.out] at this; exact this)
          go_wp2_with fail
          refine (left_any R O (2 * j) cO _ (2 * j) 0 wr hr).mono ?_
          rintro e w3 ⟨rfl, q, rfl⟩
          replace hr := hr.drewN q
          have hb3 := below_drewN hb q
          clear hb hb1
          generalize wr.drewN q = w3 at *
          have hz0 : (((2 * j : Nat) : Int) - ((2 * j : Nat) : Int)) = 0 := by omega
          rw [hz0]
          go_wp2_with fail
          refine (u8_any R O (2 * j) cO _ (2 * j) 0 w3 hr).mono ?_
          rintro e w4 ⟨rfl, hr4, g4⟩
          rw [HE.out.2.1, HE.out.2.2] at hr4
          rw [HE.out.1, show wv [] = 0 from rfl]
          have hb4 := grown_below hb3 g4 hb3.size hRw
          clear hr hb3 g4
          go_wp2_with fail
          refine (err_any R O (2 * j) cO _ (2 * j) 7 w4 hr4).mono ?_
          rintro e w5 ⟨rfl, rfl⟩
          go_wp2
          go_ret
          exact ⟨rfl, hb4⟩
set_option maxRecDepth 100000 in
set_option maxHeartbeats 4000000 in
theorem octetRow32 (A : Option Addr) (n c : Nat) (xs : List Nat) (i : Int) (u : Nat) (w : World) (ha : RdU w A n xs) (hxs : ∀ x ∈ xs, x < 2 ^ 64) (hn : n ≤ 300) (hu : IntKind.u64.wrap i = (u : Int)) (hc : u % 3 = 1) :
    Calls Try.prog 7 #[.slice A n c, .int .i64 i] w fun e w' => e = .returned (.bool true) ∧ Below w.heap.size w w' := by
  have HU := Lib.hid hc
  have HL := Lib.hid ha.len
  have HXS := Lib.hid hxs
  have HYL := Lib.hid (show (xs.map (· % 2 ^ 32)).length = n from by rw [List.length_map]; exact ha.len)
  have t0 : (((u : Int) % 3) == 0) = false := by rw [beq_eq_false_iff_ne]; omega
  have t1 : (((u : Int) % 3) == 1) = true := by rw [beq_iff_eq]; omega
  have u0 : (0 : Int) ≤ (u : Int) := by omega
  clear hc hxs
  go_enter Try.func7, Try.ntmps7
  go_wp2_with fail
  refine (wakes1_any w).mono ?_
  rintro e w1 ⟨rfl, b1⟩
  have ha1 := ha.below b1
  clear ha
  go_wp2
  go_loopg [5, 19] n (fun g v s wr => ∃ (k : Nat) (A' : Option Addr) (c' : Nat), k + g ≤ n ∧ n ≤ k + g ∧ s = .int .i64 k ∧ v = .slice A' (4 * k) c' ∧ OwnB wr w.heap.size A' (4 * k) c' (flat 4 ((xs.map (· % 2 ^ 32)).take k)) ∧ Below w.heap.size w wr ∧ Below w1.heap.size w1 wr)
  case atStart => exact ⟨0, none, 0, by omega, by omega, rfl, rfl, OwnB.none_ _ _, b1, Below.refl _ _⟩
  case round =>
    clear b1
    obtain ⟨k, A', c', h1, h2, rfl, rfl, ho, hb, hb1⟩ := hrel
    by_cases hk : k < n
    · obtain ⟨ad, rfl, hadl, hcell⟩ := ha1.cellAt k hk
      have hcell' : wr.cell? (ad.add k) = some (.int .u64 ((xs.getD k 0 : Nat) : Int)) := (hb1.cell (by rw [block_of_add]; exact hadl)).trans hcell
      have hxl : xs.getD k 0 < 2 ^ 64 := by
        have hkl : k < xs.length := by rw [HL.out]; exact hk
        rw [List.getD_eq_getElem?_getD, List.getElem?_eq_getElem hkl, Option.getD_some]
        exact HXS.out _ (List.getElem_mem hkl)
      have HT := Lib.hid (take_succ_mod xs (2 ^ 32) k (by rw [HL.out]; exact hk))
      generalize xs.getD k 0 = x at *
      clear hcell
      have hxm := Nat.mod_lt x (show 0 < 2 ^ 32 from by decide)
      have hxw : IntKind.u32.wrap (x : Int) = ((x % 2 ^ 32 : Nat) : Int) := by
        simp [IntKind.wrap, IntKind.bits, IntKind.signed]
      have HXL := Lib.hid hxl
      have HXM := Lib.hid hxm
      clear hxl hxm
      go_wp2_with fail
      refine (Put32_any A' (4 * k) c' _ (x % 2 ^ 32) wr ho.rd (by omega) HXM.out).mono ?_
      rintro e w2 ⟨A2, c2, rfl, ho2, q2⟩
      have hb2 := hb.trans (q2.mono hb.size)
      have hb12 := hb1.trans (q2.mono hb1.size)
      have ho3 := ho2.less hb.size
      clear ho ho2 q2 hb hb1
      go_wp2
      go_roundg (gk - 1)
      case measure => omega
      case rel => exact ⟨k + 1, A2, c2, by omega, by omega, by go_num, by rw [Nat.mul_add], by rw [HT.out, flat_snoc, Nat.mul_add]; exact ho3, hb2, hb12⟩
    · obtain rfl : k = n := by omega
      have HTA := Lib.hid (show (xs.map (· % 2 ^ 32)).take k = xs.map (· % 2 ^ 32) from List.take_of_length_le (by rw [HYL.out]; exact Nat.le_refl _))
      rw [HTA.out] at ho
      go_wp2_with fail
      refine (read_any A' (4 * k) c' _ wr ho.rd (by omega)).mono ?_
      rintro e w2 ⟨R, O, cO, rfl, hRB, _, hr, q2⟩
      have hb2 := hb.trans (q2.mono hb.size)
      have hb12 := hb1.trans (q2.mono hb1.size)
      have hRw : w.heap.size ≤ R := Nat.le_trans hb.size hRB
      have hRw1 : w1.heap.size ≤ R := Nat.le_trans hb1.size hRB
      clear ho q2 hb hb1
      go_wp2
      go_loopg [46] k (fun g s wr => ∃ j : Nat, j + g ≤ k ∧ k ≤ j + g ∧ s = .int .i64 j ∧ Rdr wr R O (4 * k) cO (flat 4 (xs.map (· % 2 ^ 32))) (4 * j) 0 ∧ Below w.heap.size w wr ∧ Below w1.heap.size w1 wr)
      case atStart => exact ⟨0, by omega, by omega, rfl, hr, hb2, hb12⟩
      case round =>
        clear hr hb2 hb12
        obtain ⟨j, h3, h4, rfl, hr, hb, hb1⟩ := hrel
        by_cases hj : j < k
        · obtain ⟨ad, rfl, hadl, hcell⟩ := ha1.cellAt j hj
          have hcell' : wr.cell? (ad.add j) = some (.int .u64 ((xs.getD j 0 : Nat) : Int)) := (hb1.cell (by rw [block_of_add]; exact hadl)).trans hcell
          have hxl : xs.getD j 0 < 2 ^ 64 := by
            have hkl : j < xs.length := by rw [HL.out]; exact hj
            rw [List.getD_eq_getElem?_getD, List.getElem?_eq_getElem hkl, Option.getD_some]
            exact HXS.out _ (List.getElem_mem hkl)
          have HRD := Lib.hid (rd_row 4 (xs.map (· % 2 ^ 32)) j (by rw [HYL.out]; exact hj))
          have HG := Lib.hid (getD_map_mod xs (2 ^ 32) j (by rw [HL.out]; exact hj))
          generalize xs.getD j 0 = x at *
          clear hcell
          have hxm := Nat.mod_lt x (show 0 < 2 ^ 32 from by decide)
          have HV := Lib.hid (show wv (rdO (flat 4 (xs.map (· % 2 ^ 32))) (4 * j) 0 4) = x % 2 ^ 32 from by
            have := HRD.out.1
            rw [show ((4 : Nat) : Int) = 4 from rfl] at this
            rw [this, HG.out, wv_beB 4 _ (by decide) hxm])
          have hxw : IntKind.u32.wrap (x : Int) = ((x % 2 ^ 32 : Nat) : Int) := by
            simp [IntKind.wrap, IntKind.bits, IntKind.signed]
          clear hxl hxm
          go_wp2_with fail
          refine (u32_any R O (4 * k) cO _ (4 * j) 0 wr hr).mono ?_
          rintro e w3 ⟨rfl, hr3, g3⟩
          rw [HV.out]
          have hP := HRD.out.2.1
          have hW := HRD.out.2.2
          rw [show ((4 : Nat) : Int) = 4 from rfl] at hP hW
          rw [hP, hW] at hr3
          have hb3 := grown_below hb g3 hb.size hRw
          have hb13 := grown_below hb1 g3 hb1.size hRw1
          clear hP hW hr hb hb1 g3
          go_wp2_with fail
          refine (err_any R O (4 * k) cO _ (4 * (j + 1)) 0 w3 hr3).mono ?_
          rintro e w4 ⟨rfl, rfl⟩
          go_wp2
          go_roundg (gk - 1)
          case measure => omega
          case rel => exact ⟨j + 1, by omega, by omega, by go_num, hr3, hb3, hb13⟩
        · obtain rfl : j = k := by omega
          have HE := Lib.hid (show rdO (flat 4 (xs.map (· % 2 ^ 32))) (4 * j) 0 1 = [] ∧ rdP (flat 4 (xs.map (· % 2 ^ 32))) (4 * j) 0 1 = 4 * j ∧ rdW (flat 4 (xs.map (· % 2 ^ 32))) (4 * j) 0 1 = 7 from by
            have := rd_end 4 (xs.map (· % 2 ^ 32))
            rw [HYL.out] at this; exact this)
          go_wp2_with fail
          refine (left_any R O (4 * j) cO _ (4 * j) 0 wr hr).mono ?_
          rintro e w3 ⟨rfl, q, rfl⟩
          replace hr := hr.drewN q
          have hb3 := below_drewN hb q
          clear hb hb1
          generalize wr.drewN q = w3 at *
          have hz0 : (((4 * j : Nat) : Int) - ((4 * j : Nat) : Int)) = 0 := by omega
          rw [hz0]
          go_wp2_with fail
          refine (u8_any R O (4 * j) cO _ (4 * j) 0 w3 hr).mono ?_
          rintro e w4 ⟨rfl, hr4, g4⟩
          rw [HE.out.2.1, HE.out.2.2] at hr4
          rw [HE.out.1, show wv [] = 0 from rfl]
          have hb4 := grown_below hb3 g4 hb3.size hRw
          clear hr hb3 g4
          go_wp2_with fail
          refine (err_any R O (4 * j) cO _ (4 * j) 7 w4 hr4).mono ?_
          rintro e w5 ⟨rfl, rfl⟩
          go_wp2
          go_ret
          exact ⟨rfl, hb4⟩
set_option maxRecDepth 100000 in
set_option maxHeartbeats 4000000 in
theorem octetRow64 (A : Option Addr) (n c : Nat) (xs : List Nat) (i : Int) (u : Nat) (w : World) (ha : RdU w A n xs) (hxs : ∀ x ∈ xs, x < 2 ^ 64) (hn : n ≤ 300) (hu : IntKind.u64.wrap i = (u : Int)) (hc : u % 3 = 2) :
    Calls Try.prog 7 #[.slice A n c, .int .i64 i] w fun e w' => e = .returned (.bool true) ∧ Below w.heap.size w w' := by
  have HU := Lib.hid hc
  have HL := Lib.hid ha.len
  have HXS := Lib.hid hxs
  have HYL := Lib.hid (show (xs.map (· % 2 ^ 64)).length = n from by rw [List.length_map]; exact ha.len)
  have t0 : (((u : Int) % 3) == 0) = false := by rw [beq_eq_false_iff_ne]; omega
  have t1 : (((u : Int) % 3) == 1) = false := by rw [beq_eq_false_iff_ne]; omega
  have u0 : (0 : Int) ≤ (u : Int) := by omega
  clear hc hxs
  go_enter Try.func7, Try.ntmps7
  go_wp2_with fail
  refine (wakes1_any w).mono ?_
  rintro e w1 ⟨rfl, b1⟩
  have ha1 := ha.below b1
  clear ha
  go_wp2
  go_loopg [5, 19] n (fun g v s wr => ∃ (k : Nat) (A' : Option Addr) (c' : Nat), k + g ≤ n ∧ n ≤ k + g ∧ s = .int .i64 k ∧ v = .slice A' (8 * k) c' ∧ OwnB wr w.heap.size A' (8 * k) c' (flat 8 ((xs.map (· % 2 ^ 64)).take k)) ∧ Below w.heap.size w wr ∧ Below w1.heap.size w1 wr)
  case atStart => exact ⟨0, none, 0, by omega, by omega, rfl, rfl, OwnB.none_ _ _, b1, Below.refl _ _⟩
  case round =>
    clear b1
    obtain ⟨k, A', c', h1, h2, rfl, rfl, ho, hb, hb1⟩ := hrel
    by_cases hk : k < n
    · obtain ⟨ad, rfl, hadl, hcell⟩ := ha1.cellAt k hk
      have hcell' : wr.cell? (ad.add k) = some (.int .u64 ((xs.getD k 0 : Nat) : Int)) := (hb1.cell (by rw [block_of_add]; exact hadl)).trans hcell
      have hxl : xs.getD k 0 < 2 ^ 64 := by
        have hkl : k < xs.length := by rw [HL.out]; exact hk
        rw [List.getD_eq_getElem?_getD, List.getElem?_eq_getElem hkl, Option.getD_some]
        exact HXS.out _ (List.getElem_mem hkl)
      have HT := Lib.hid (take_succ_mod xs (2 ^ 64) k (by rw [HL.out]; exact hk))
      generalize xs.getD k 0 = x at *
      clear hcell
      have hxm := Nat.mod_lt x (show 0 < 2 ^ 64 from by decide)
      have hxe := Lib.hid (show x % 2 ^ 64 = x from Nat.mod_eq_of_lt hxl)
      have HXL := Lib.hid hxl
      have HXM := Lib.hid hxm
      clear hxl hxm
      go_wp2_with fail
      refine (Put64_any A' (8 * k) c' _ x wr ho.rd (by omega) HXL.out).mono ?_
      rintro e w2 ⟨A2, c2, rfl, ho2, q2⟩
      rw [← hxe.out] at ho2
      have hb2 := hb.trans (q2.mono hb.size)
      have hb12 := hb1.trans (q2.mono hb1.size)
      have ho3 := ho2.less hb.size
      clear ho ho2 q2 hb hb1
      go_wp2
      go_roundg (gk - 1)
      case measure => omega
      case rel => exact ⟨k + 1, A2, c2, by omega, by omega, by go_num, by rw [Nat.mul_add], by rw [HT.out, flat_snoc, Nat.mul_add]; exact ho3, hb2, hb12⟩
    · obtain rfl : k = n := by omega
      have HTA := Lib.hid (show (xs.map (· % 2 ^ 64)).take k = xs.map (· % 2 ^ 64) from List.take_of_length_le (by rw [HYL.out]; exact Nat.le_refl _))
      rw [HTA.out] at ho
      go_wp2_with fail
      refine (read_any A' (8 * k) c' _ wr ho.rd (by omega)).mono ?_
      rintro e w2 ⟨R, O, cO, rfl, hRB, _, hr, q2⟩
      have hb2 := hb.trans (q2.mono hb.size)
      have hb12 := hb1.trans (q2.mono hb1.size)
      have hRw : w.heap.size ≤ R := Nat.le_trans hb.size hRB
      have hRw1 : w1.heap.size ≤ R := Nat.le_trans hb1.size hRB
      clear ho q2 hb hb1
      go_wp2
      go_loopg [46] k (fun g s wr => ∃ j : Nat, j + g ≤ k ∧ k ≤ j + g ∧ s = .int .i64 j ∧ Rdr wr R O (8 * k) cO (flat 8 (xs.map (· % 2 ^ 64))) (8 * j) 0 ∧ Below w.heap.size w wr ∧ Below w1.heap.size w1 wr)
      case atStart => exact ⟨0, by omega, by omega, rfl, hr, hb2, hb12⟩
      case round =>
        clear hr hb2 hb12
        obtain ⟨j, h3, h4, rfl, hr, hb, hb1⟩ := hrel
        by_cases hj : j < k
        · obtain ⟨ad, rfl, hadl, hcell⟩ := ha1.cellAt j hj
          have hcell' : wr.cell? (ad.add j) = some (.int .u64 ((xs.getD j 0 : Nat) : Int)) := (hb1.cell (by rw [block_of_add]; exact hadl)).trans hcell
          have hxl : xs.getD j 0 < 2 ^ 64 := by
            have hkl : j < xs.length := by rw [HL.out]; exact hj
            rw [List.getD_eq_getElem?_getD, List.getElem?_eq_getElem hkl, Option.getD_some]
            exact HXS.out _ (List.getElem_mem hkl)
          have HRD := Lib.hid (rd_row 8 (xs.map (· % 2 ^ 64)) j (by rw [HYL.out]; exact hj))
          have HG := Lib.hid (getD_map_mod xs (2 ^ 64) j (by rw [HL.out]; exact hj))
          generalize xs.getD j 0 = x at *
          clear hcell
          have hxm := Nat.mod_lt x (show 0 < 2 ^ 64 from by decide)
          have HV := Lib.hid (show wv (rdO (flat 8 (xs.map (· % 2 ^ 64))) (8 * j) 0 8) = x % 2 ^ 64 from by
            have := HRD.out.1
            rw [show ((8 : Nat) : Int) = 8 from rfl] at this
            rw [this, HG.out, wv_beB 8 _ (by decide) hxm])
          have hxe := Lib.hid (show x % 2 ^ 64 = x from Nat.mod_eq_of_lt hxl)
          clear hxl hxm
          go_wp2_with fail
          refine (u64_any R O (8 * k) cO _ (8 * j) 0 wr hr).mono ?_
          rintro e w3 ⟨rfl, hr3, g3⟩
          rw [HV.out]
          have hP := HRD.out.2.1
          have hW := HRD.out.2.2
          rw [show ((8 : Nat) : Int) = 8 from rfl] at hP hW
          rw [hP, hW] at hr3
          have hb3 := grown_below hb g3 hb.size hRw
          have hb13 := grown_below hb1 g3 hb1.size hRw1
          clear hP hW hr hb hb1 g3
          rw [hxe.out]
          go_wp2_with fail
          refine (err_any R O (8 * k) cO _ (8 * (j + 1)) 0 w3 hr3).mono ?_
          rintro e w4 ⟨rfl, rfl⟩
          go_wp2
          go_roundg (gk - 1)
          case measure => omega
          case rel => exact ⟨j + 1, by omega, by omega, by go_num, hr3, hb3, hb13⟩
        · obtain rfl : j = k := by omega
          have HE := Lib.hid (show rdO (flat 8 (xs.map (· % 2 ^ 64))) (8 * j) 0 1 = [] ∧ rdP (flat 8 (xs.map (· % 2 ^ 64))) (8 * j) 0 1 = 8 * j ∧ rdW (flat 8 (xs.map (· % 2 ^ 64))) (8 * j) 0 1 = 7 from by
            have := rd_end 8 (xs.map (· % 2 ^ 64))
            rw [HYL.out] at this; exact this)
          go_wp2_with fail
          refine (left_any R O (8 * j) cO _ (8 * j) 0 wr hr).mono ?_
          rintro e w3 ⟨rfl, q, rfl⟩
          replace hr := hr.drewN q
          have hb3 := below_drewN hb q
          clear hb hb1
          generalize wr.drewN q = w3 at *
          have hz0 : (((8 * j : Nat) : Int) - ((8 * j : Nat) : Int)) = 0 := by omega
          rw [hz0]
          go_wp2_with fail
          refine (u8_any R O (8 * j) cO _ (8 * j) 0 w3 hr).mono ?_
          rintro e w4 ⟨rfl, hr4, g4⟩
          rw [HE.out.2.1, HE.out.2.2] at hr4
          rw [HE.out.1, show wv [] = 0 from rfl]
          have hb4 := grown_below hb3 g4 hb3.size hRw
          clear hr hb3 g4
          go_wp2_with fail
          refine (err_any R O (8 * j) cO _ (8 * j) 7 w4 hr4).mono ?_
          rintro e w5 ⟨rfl, rfl⟩
          go_wp2
          go_ret
          exact ⟨rfl, hb4⟩
set_option maxHeartbeats 1000000 in
theorem octetRow_walk (A : Option Addr) (n c : Nat) (xs : List Nat) (i : Int) (w : World) (ha : RdU w A n xs) (hxs : ∀ x ∈ xs, x < 2 ^ 64) (hc : n ≤ c) (hc2 : c ≤ 9223372036854775807) (_hi : (Lit.int .i64 i).wf = true) :
    Calls Try.prog 7 #[.slice A n c, .int .i64 i] w fun e w' => e = .returned (.bool true) ∧ Below w.heap.size w w' := by
  by_cases hn : n ≤ 300
  · obtain ⟨u, hu⟩ : ∃ u : Nat, IntKind.u64.wrap i = (u : Int) := ⟨(IntKind.u64.wrap i).toNat, by
      simp only [IntKind.wrap, IntKind.bits, IntKind.signed]; simp; omega⟩
    have h3 : u % 3 = 0 ∨ u % 3 = 1 ∨ u % 3 = 2 := by omega
    rcases h3 with h3 | h3 | h3
    · exact octetRow16 A n c xs i u w ha hxs hn hu h3
    · exact octetRow32 A n c xs i u w ha hxs hn hu h3
    · exact octetRow64 A n c xs i u w ha hxs hn hu h3
  · have h2' : 300 < n := by omega
    have h3' : n ≤ 9223372036854775807 := by omega
    clear hn ha hxs
    go_enter Try.func7, Try.ntmps7
    go_wp2_with fail
    refine (wakes1_any w).mono ?_
    rintro e w1 ⟨rfl, b1⟩
    go_wp2
    go_ret
    exact ⟨rfl, b1⟩
end Go.Proofs.Ytdmfbmpllfkcaaa
