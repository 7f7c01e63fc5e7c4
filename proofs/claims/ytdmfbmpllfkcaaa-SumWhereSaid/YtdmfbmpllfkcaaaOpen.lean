/- sum.Open32, sum.Apart, sum.Spread, and the references Seal and Opens. Conditions: the slices read as these bytes, lengths within what a row lets in. -/
import Derived.Test.YtdmfbmpllfkcaaaSeal
namespace Go.Proofs.Ytdmfbmpllfkcaaa
open Go.RowKit
set_option maxRecDepth 100000 in
set_option maxHeartbeats 1000000 in
theorem refseal_any (A : Option Addr) (n c : Nat) (bs : List UInt8) (w : World) (h : RdB w A n bs) (hn : n ≤ 140737488351228) :
    Calls Try.prog 19 #[.slice A n c] w fun e w' => ∃ A' c', e = .returned (.slice A' (n + 4) c') ∧ OwnB w' w.heap.size A' (n + 4) c' (sealed bs) ∧ Below w.heap.size w w' := by
  have hs := Crc.sum_lt bs
  go_enter Try.func19, Try.ntmps19
  go_wp2_with fail
  refine (refsum_any A n c bs w h (by omega)).mono ?_
  rintro e w1 ⟨rfl, rfl⟩
  obtain ⟨s, hs'⟩ : ∃ s, s = Crc.sum bs := ⟨_, rfl⟩
  rw [← hs'] at hs ⊢
  have HS := Lib.hid hs'
  clear hs'
  go_wp2
  go_loopg [3, 4, 5] 4 (fun g x v k wr => ∃ (j : Nat) (A' : Option Addr) (c' : Nat), j + g ≤ 4 ∧ 4 ≤ j + g ∧ k = .int .i64 j ∧ x = .int .u32 (s / 256 ^ j : Nat) ∧ v = .slice A' j c' ∧ OwnB wr w.heap.size A' j c' (leB j s) ∧ Below w.heap.size w wr)
  case atStart => exact ⟨0, none, 0, by omega, by omega, rfl, by simp, rfl, OwnB.none_ _ _, Below.refl _ _⟩
  case round =>
    obtain ⟨j, A', c', h3, h4, rfl, rfl, rfl, ho, hb⟩ := hrel
    have hd : s / 256 ^ j ≤ s := Nat.div_le_self _ _
    by_cases hj : j < 4
    · have HD := Lib.hid (show s / 256 ^ (j + 1) = s / 256 ^ j / 256 from by rw [Nat.pow_succ, Nat.div_div_eq_div_mul])
      have HL := Lib.hid (leB_succ j s)
      generalize s / 256 ^ j = x at *
      go_wp2_with (at_builtin; refine wpList_appB rfl (.tmp 12) (.tmp 16) rfl w.heap.size A' j c' (leB j s) (some ⟨wr.heap.size, 0, none⟩) 1 1 [UInt8.ofNat x] rfl rfl (OwnB.alloc ho _) (RdB.one wr _ _ (vb_mod x) _) (by omega) (by have := hb.size; simp; omega) ?_; intro A1 c1 w1 ho1 hb1)
      go_roundg (gk - 1)
      case measure => omega
      case rel =>
        refine ⟨j + 1, A1, c1, by omega, by omega, by go_num, ?_, rfl, ?_, (hb.alloc hb.size _).trans hb1⟩
        · rw [HD.out]; go_num
        · rw [HL.out]; exact ho1
    · obtain rfl : j = 4 := by omega
      go_wp2_with fail
      refine (behind_any A A' n c 4 c' bs (leB 4 s) wr (RdB.below h hb) ho.rd (by omega)).mono ?_
      rintro e w2 ⟨A2, c2, rfl, ho2, hb2⟩
      go_wp2
      go_ret
      exact ⟨A2, c2, rfl, by unfold sealed; rw [← HS.out]; exact ho2.less hb.size, hb.trans (hb2.mono hb.size)⟩

theorem sealed_len (bs : List UInt8) : (sealed bs).length = bs.length + 4 := by simp [sealed, leB_len]
/-- is it sealed? -/
def opens (bs : List UInt8) : Bool := decide (4 ≤ bs.length) && (sealed (bs.take (bs.length - 4)) == bs)
/-- what Open32 hands back. -/
def opened (bs : List UInt8) : List UInt8 := if opens bs then bs.take (bs.length - 4) else []
def openErr (bs : List UInt8) : Int := if bs.length < 4 then 7 else if opens bs then 0 else 130
set_option maxRecDepth 100000 in
set_option maxHeartbeats 1000000 in
theorem open_any (A : Option Addr) (n c : Nat) (bs : List UInt8) (w : World) (h : RdB w A n bs) (hn : n ≤ 140737488351232) (hc : n ≤ c) :
    Calls Try.prog 17 #[.slice A n c] w fun e w' => ∃ A' n' c', e = .returned (.tuple #[.slice A' n' c', .int .i64 (openErr bs)]) ∧ OwnB w' w.heap.size A' n' c' (opened bs) ∧ Below w.heap.size w w' := by
  have hlen := h.len
  by_cases h4 : n < 4
  · have hO : openErr bs = 7 := by unfold openErr; rw [if_pos (by omega)]
    have hP : opened bs = [] := by
      unfold opened; rw [if_neg]; unfold opens; rw [decide_eq_false (by omega)]; simp
    rw [hO, hP]
    clear hO hP hlen h
    go_enter Try.func17, Try.ntmps17
    go_wp2
    go_ret2
    exact ⟨none, 0, 0, rfl, OwnB.none_ _ _, Below.refl _ _⟩
  · obtain ⟨m, rfl⟩ : ∃ m, n = m + 4 := ⟨n - 4, by omega⟩
    have HL := Lib.hid hlen
    have ht : RdB w A m (bs.take m) := h.take (by omega)
    clear hlen
    go_enter Try.func17, Try.ntmps17
    go_wp2_with fail
    refine (clone_any A m m (bs.take m) w ht (by omega)).mono ?_
    rintro e w1 ⟨A1, c1, rfl, ho1, hb1⟩
    go_wp2_with fail
    refine (seal_any A1 m c1 (bs.take m) w1 ho1.rd (by omega)).mono ?_
    rintro e w2 ⟨A2, c2, rfl, ho2, hb2⟩
    have h2 := RdB.below (RdB.below h hb1) hb2
    have hbel := hb1.trans (hb2.mono hb1.size)
    have ho1' := ho1.below hb2
    go_wp2_with fail
    refine (equal_any A2 A (m + 4) c2 (m + 4) c (sealed (bs.take m)) bs w2 ho2.rd h2).mono ?_
    rintro e w3 ⟨rfl, rfl⟩
    have hOp : opens bs = (sealed (bs.take m) == bs) := by
      unfold opens
      rw [decide_eq_true (by rw [HL.out]; omega), Bool.true_and, show bs.length - 4 = m from by rw [HL.out]; omega]
    cases hq : (sealed (bs.take m) == bs)
    · have hO : openErr bs = 130 := by unfold openErr; rw [if_neg (by rw [HL.out]; omega), hOp, hq]; rfl
      have hP : opened bs = [] := by unfold opened; rw [hOp, hq]; rfl
      have HO := Lib.hid hO
      have HP := Lib.hid hP
      clear hO hP hOp hq
      go_wp2
      go_ret2
      exact ⟨none, 0, 0, by rw [HO.out]; rfl, by rw [HP.out]; exact OwnB.none_ _ _, hbel⟩
    · have hO : openErr bs = 0 := by unfold openErr; rw [if_neg (by rw [HL.out]; omega), hOp, hq]; rfl
      have hP : opened bs = bs.take m := by unfold opened; rw [hOp, hq, show bs.length - 4 = m from by rw [HL.out]; omega]; rfl
      have HO := Lib.hid hO
      have HP := Lib.hid hP
      clear hO hP hOp hq
      go_wp2
      go_ret2
      exact ⟨A1, m, c1, by rw [HO.out]; rfl, by rw [HP.out]; exact ho1', hbel⟩
set_option maxRecDepth 100000 in
set_option maxHeartbeats 1000000 in
theorem refopens_any (A : Option Addr) (n c : Nat) (bs : List UInt8) (w : World) (h : RdB w A n bs) (hn : n ≤ 140737488351228) (hc : n ≤ c) :
    Calls Try.prog 20 #[.slice A n c] w fun e w' => e = .returned (.bool (opens bs)) ∧ Below w.heap.size w w' := by
  have hlen := h.len
  by_cases h4 : n < 4
  · have hO : opens bs = false := by unfold opens; rw [decide_eq_false (by omega)]; rfl
    rw [hO]
    clear hO hlen h
    go_enter Try.func20, Try.ntmps20
    go_wp2
    go_ret
    exact ⟨rfl, Below.refl _ _⟩
  · obtain ⟨m, rfl⟩ : ∃ m, n = m + 4 := ⟨n - 4, by omega⟩
    have HL := Lib.hid hlen
    have ht : RdB w A m (bs.take m) := h.take (by omega)
    clear hlen
    have hg : decide ((4 : Int) ≤ (m : Int) + 4) = true := by simp; omega
    go_enter Try.func20, Try.ntmps20
    go_wp2_with fail
    refine (refseal_any A m c (bs.take m) w ht (by omega)).mono ?_
    rintro e w1 ⟨A1, c1, rfl, ho1, hb1⟩
    have h1 := RdB.below h hb1
    clear h ht
    go_wp2_with fail
    refine (same_any A1 A (m + 4) c1 (m + 4) c (sealed (bs.take m)) bs w1 ho1.rd h1 (by omega)).mono ?_
    rintro e w2 ⟨rfl, q, rfl⟩
    have HOp := Lib.hid (show opens bs = (sealed (bs.take m) == bs) from by
      unfold opens
      rw [decide_eq_true (by rw [HL.out]; omega), Bool.true_and, show bs.length - 4 = m from by rw [HL.out]; omega])
    generalize (sealed (bs.take m) == bs) = r at *
    go_wp2
    go_ret
    exact ⟨by rw [HOp.out]; rfl, below_drewN hb1 _⟩
set_option maxRecDepth 100000 in
set_option maxHeartbeats 1000000 in
theorem apart_any (A B : Option Addr) (n c m d : Nat) (xs ys : List UInt8) (w : World) (ha : RdB w A n xs) (hb : RdB w B m ys) (hn : n ≤ 140737488351232) (hm : m ≤ 140737488351232) :
    Calls Try.prog 41 #[.slice A n c, .slice B m d] w fun e w' =>
      e = .returned (.tuple #[.int .u32 (if n = m then (Crc.sum xs ^^^ Crc.sum ys : Nat) else 0), .int .i64 (if n = m then 0 else 2)]) ∧ Below w.heap.size w w' := by
  by_cases hnm : n = m
  · subst hnm
    simp only [if_pos]
    have hne : ((n : Int) != (n : Int)) = false := by simp
    go_enter Try.func41, Try.ntmps41
    go_wp2_with fail
    refine (sum32_any A n c xs w ha hn).mono ?_
    rintro e w1 ⟨rfl, hb1⟩
    have hb' := RdB.below hb hb1
    clear hb
    go_wp2_with fail
    refine (sum32_any B n d ys w1 hb' hm).mono ?_
    rintro e w2 ⟨rfl, hb2⟩
    have HX := Lib.hid (bits_xor32 (Crc.sum xs) (Crc.sum ys) (Crc.sum_lt _) (Crc.sum_lt _))
    have hbel := hb1.trans (hb2.mono hb1.size)
    generalize hx : Crc.sum xs = x at *
    generalize hy : Crc.sum ys = y at *
    have HXx := Lib.hid hx
    have HYy := Lib.hid hy
    clear hx hy
    go_wp2
    go_ret2
    exact ⟨by rw [HXx.out, HYy.out, ← HX.out]; rfl, hbel⟩
  · have hne : ((n : Int) != (m : Int)) = true := by rw [bne_iff_ne]; omega
    simp only [if_neg hnm]
    clear hnm
    go_enter Try.func41, Try.ntmps41
    go_wp2
    go_ret2
    exact ⟨rfl, Below.refl _ _⟩
set_option maxRecDepth 100000 in
set_option maxHeartbeats 1000000 in
theorem spread_any (A : Option Addr) (n c : Nat) (bs : List UInt8) (m : Int) (w : World) (h : RdB w A n bs) (hn : n ≤ 140737488351232) (hm : -9223372036854775808 ≤ m ∧ m ≤ 9223372036854775807) :
    Calls Try.prog 43 #[.slice A n c, .int .i64 m] w fun e w' =>
      e = .returned (.tuple #[.int .i64 (if m < 1 then 0 else (Crc.sum bs : Int) % m), .int .i64 (if m < 1 then 2 else 0)]) ∧ Below w.heap.size w w' := by
  by_cases h1 : m < 1
  · simp only [if_pos h1]
    go_enter Try.func43, Try.ntmps43
    go_wp2
    go_ret2
    exact ⟨rfl, Below.refl _ _⟩
  · have h2 : 1 ≤ m := by omega
    simp only [if_neg h1]
    obtain ⟨hm1, hm2⟩ := hm
    go_enter Try.func43, Try.ntmps43
    go_wp2_with fail
    refine (sum32_any A n c bs w h hn).mono ?_
    rintro e w1 ⟨rfl, hb1⟩
    have hs := Crc.sum_lt bs
    generalize hx : Crc.sum bs = x at *
    have HXx := Lib.hid hx
    clear hx
    have hlo : 0 ≤ (x : Int) % m := Int.emod_nonneg _ (by omega)
    have hhi : (x : Int) % m < m := Int.emod_lt_of_pos _ (by omega)
    go_wp2
    go_ret2
    exact ⟨by rw [HXx.out]; rfl, hb1⟩
end Go.Proofs.Ytdmfbmpllfkcaaa
