/- codec.joined, Row: the bytes of values. Conditions: the slice reads as these values. -/
import Derived.Test.YtfpodalnnchnoaaCVal
import Derived.Deep.LoopGhost
namespace Go.Proofs.Ytfpodalnnchnoaa
open Go.RowKit
def joinB (vs : List VV) : List UInt8 := vs.flatMap valB
theorem joinB_snoc (vs : List VV) (v : VV) : joinB (vs ++ [v]) = joinB vs ++ valB v := by simp [joinB]
theorem valB_len {v : VV} (h : v.ok = true) : (valB v).length ≤ 42 := by
  unfold VV.ok rightB at h
  unfold valB
  split
  · simp
  · split
    · simp [beB]
    · split
      · rename_i h1 h2 h3
        rw [h3] at h
        simp at h
        have : v.s.data.toList.length ≤ 40 := by rw [Array.length_toList]; exact h.2.2
        simp; exact this
      · split <;> simp [beB]
/-- bytes that belong to a call that began at w0, and an error -/
def retJ (w0 : World) (bs : List UInt8) (e : Int) (x : Ending) (w' : World) : Prop := ∃ A c, x = .returned (.tuple #[.slice A bs.length c, .int .i64 e]) ∧ OwnB w' w0.heap.size A bs.length c bs ∧ Below w0.heap.size w0 w'
def uOk (v : VV) : Prop := 0 ≤ v.u ∧ v.u < 18446744073709551616
theorem cval_y (v : VV) (hu : uOk v) (h : v.ok = true) (w : World) : Calls Try.prog 10 #[.agg #[.int .i64 v.k, .int .i64 v.n, .int .u64 v.u, .string v.s]] w (retB w (valB v) 0) := retB_eq (cval_any v hu w) (by simp [encB, h]) (by simp [okE, h])
theorem cval_n (v : VV) (hu : uOk v) (h : v.ok = false) (w : World) : Calls Try.prog 10 #[.agg #[.int .i64 v.k, .int .i64 v.n, .int .u64 v.u, .string v.s]] w (retB w [] 120) := retB_eq (cval_any v hu w) (by simp [encB, h]) (by simp [okE, h])
set_option maxRecDepth 100000 in
set_option maxHeartbeats 4000000 in
theorem joined_any (w0 : World) (A : Option Addr) (n c : Nat) (bs : List UInt8) (A2 : Option Addr) (m c2 : Nat) (vs : List VV) (w : World) (hv : RdV w0 A2 m vs) (hm : m ≤ 1000) (hu : ∀ v ∈ vs, uOk v) (ho : OwnB w w0.heap.size A n c bs) (hn : n ≤ 1000) (hb : Below w0.heap.size w0 w) :
    Calls Try.prog 29 #[.slice A n c, .slice A2 m c2] w (retJ w0 (if vs.all VV.ok then bs ++ joinB vs else []) (if vs.all VV.ok then 0 else 120)) := by
  obtain ⟨R, hR⟩ : ∃ R, R = (if vs.all VV.ok then bs ++ joinB vs else []) := ⟨_, rfl⟩
  obtain ⟨E, hE⟩ : ∃ E : Int, E = (if vs.all VV.ok then 0 else 120) := ⟨_, rfl⟩
  rw [← hR, ← hE]
  have HR := Lib.hid hR
  have HE := Lib.hid hE
  have HU := Lib.hid hu
  have HL := Lib.hid hv.1
  have hbl := ho.len
  have HBL := Lib.hid hbl
  clear hR hE hu hbl
  go_enter Try.func29, Try.ntmps29
  go_wp2
  go_loopg [0, 12] m (fun g o s wr => ∃ (i n' c' : Nat) (A' : Option Addr) (cur : List UInt8), i + g ≤ m ∧ m ≤ i + g ∧ s = .int .i64 i ∧ o = .slice A' n' c' ∧ n' ≤ n + 42 * i ∧ Hid ((vs.take i).all VV.ok = true) ∧ Hid (cur = bs ++ joinB (vs.take i)) ∧ OwnB wr w0.heap.size A' n' c' cur ∧ Below w0.heap.size w0 wr)
  case atStart => exact ⟨0, n, c, A, bs, by omega, by omega, rfl, rfl, by omega, Lib.hid (by simp), Lib.hid (by simp [joinB]), ho, hb⟩
  case round =>
    clear ho hb
    obtain ⟨i, n', c', A', cur, hi1, hi2, rfl, rfl, hn', HA, HC, ho, bb⟩ := hrel
    by_cases hi : i < m
    · obtain ⟨ad, v, hA2, hvi, hal, c0, c1, c2, c3⟩ := (hv.below bb).2 i hi
      subst hA2
      have HT := Lib.hid (show vs.take (i + 1) = vs.take i ++ [v] from by rw [List.take_add_one, hvi]; rfl)
      have HUV := Lib.hid (HU.out v (List.mem_of_getElem? hvi))
      have HM := Lib.hid (List.mem_of_getElem? hvi)
      clear hvi
      have qq := Below.refl wr.heap.size wr
      cases hok : v.ok
      · have HC1 := Lib.hid (fun w => cval_n v HUV.out hok w)
        have HAF := Lib.hid (show vs.all VV.ok = false from by rw [Bool.eq_false_iff]; intro h; have := List.all_eq_true.1 h v HM.out; rw [hok] at this; cases this)
        clear hok
        have hV := Blk.new wr 24 #[.int .i64 v.k, .int .i64 v.n, .int .u64 v.u, .string v.s]
        have zhV_qq := qq.size
        replace qq := bl_al qq (.cells #[.int .i64 v.k, .int .i64 v.n, .int .u64 v.u, .string v.s] 24)
        go_wp2_with fail
        clear c0 c1 c2 c3 hal
        generalize (wr.alloc (.cells #[.int .i64 v.k, .int .i64 v.n, .int .u64 v.u, .string v.s] 24)) = u1 at *
        refine (HC1.out _).mono ?_
        rintro e u2 ⟨A3, c3, rfl, ho3, qu2⟩
        replace hV := hV.ca qu2
        replace qq := bl_ca qq qu2
        clear qu2
        go_wp2
        go_ret2
        exact ⟨none, 0, by rw [HR.out, HE.out, HAF.out]; rfl, by rw [HR.out, HAF.out]; exact OwnB.none_ _ _, bb.trans (qq.mono bb.size)⟩
      · have hvl := valB_len hok
        have HC1 := Lib.hid (fun w => cval_y v HUV.out hok w)
        have HA1 := Lib.hid (show (vs.take (i + 1)).all VV.ok = true from by rw [HT.out, List.all_append, HA.out]; simp [hok])
        have HC2 := Lib.hid (show cur ++ valB v = bs ++ joinB (vs.take (i + 1)) from by rw [HT.out, joinB_snoc, HC.out, List.append_assoc])
        have hcl := ho.len
        clear hok
        generalize valB v = xs at *
        have hV := Blk.new wr 24 #[.int .i64 v.k, .int .i64 v.n, .int .u64 v.u, .string v.s]
        have zhV_qq := qq.size
        replace qq := bl_al qq (.cells #[.int .i64 v.k, .int .i64 v.n, .int .u64 v.u, .string v.s] 24)
        go_wp2_with fail
        clear c0 c1 c2 c3 hal
        generalize (wr.alloc (.cells #[.int .i64 v.k, .int .i64 v.n, .int .u64 v.u, .string v.s] 24)) = u1 at *
        refine (HC1.out _).mono ?_
        rintro e u2 ⟨A3, c3, rfl, ho3, qu2⟩
        replace hV := hV.ca qu2
        replace qq := bl_ca qq qu2
        clear qu2
        have ho1 := OwnB.below ho qq
        have hB : w0.heap.size ≤ u2.heap.size := Nat.le_trans bb.size qq.size
        go_wp2_with (at_builtin; refine wpList_appB rfl (.tmp 24) (.tmp 25) rfl w0.heap.size A' n' c' cur A3 xs.length c3 xs rfl rfl ho1 ho3.rd (by omega) hB ?_; intro A4 c4 w4 ho4 b4)
        have b5 := (bb.trans (qq.mono bb.size)).trans b4
        go_roundg (gk - 1)
        · exact ⟨i + 1, n' + xs.length, c4, A4, cur ++ xs, by omega, by omega, by go_num, rfl, by omega, HA1, HC2, ho4, b5⟩
        · omega
    · have e : vs.take i = vs := List.take_of_length_le (by rw [HL.out]; omega)
      rw [e] at HA HC
      have hcl := ho.len
      have HCL := Lib.hid (show R = cur from by rw [HR.out, HA.out, HC.out]; rfl)
      have HEL := Lib.hid (show E = 0 from by rw [HE.out, HA.out]; rfl)
      have HLL := Lib.hid hcl
      clear e hcl
      go_wp2
      go_ret2
      exact ⟨A', c', by rw [HCL.out, HEL.out, HLL.out]; rfl, by rw [HCL.out, HLL.out]; exact ho, bb⟩
/-- a row's bytes -/
def rowE (vs : List VV) : Int := if 16 < vs.length then 3 else if vs.all VV.ok then 0 else 120
def rowB (vs : List VV) : List UInt8 := if rowE vs = 0 then UInt8.ofNat vs.length :: joinB vs else []
set_option maxRecDepth 100000 in
set_option maxHeartbeats 4000000 in
theorem row_any (A : Option Addr) (m c : Nat) (vs : List VV) (w : World) (hv : RdV w A m vs) (hu : ∀ v ∈ vs, uOk v) :
    Calls Try.prog 16 #[.slice A m c] w (retB w (rowB vs) (rowE vs)) := by
  have hl := hv.1
  by_cases hm : 16 < m
  · have h1 : (16 : Int) < (m : Int) := by omega
    have e1 : rowE vs = 3 := by unfold rowE; rw [if_pos (by omega)]
    have e2 : rowB vs = [] := by unfold rowB; rw [e1]; rfl
    rw [e1, e2]
    clear e1 e2 hm hl hv hu
    go_enter Try.func16, Try.ntmps16
    go_wp2
    go_ret2
    exact ⟨none, 0, rfl, OwnB.none_ _ _, Below.refl _ _⟩
  · have h1 : (m : Int) ≤ (16 : Int) := by omega
    have e1 : rowE vs = if vs.all VV.ok then 0 else 120 := by unfold rowE; rw [if_neg (by omega)]
    have e2 : rowB vs = if vs.all VV.ok then [UInt8.ofNat m] ++ joinB vs else [] := by unfold rowB; rw [e1, hl]; cases vs.all VV.ok <;> rfl
    rw [e1, e2]
    have hwr : IntKind.u8.wrap (m : Int) = (m : Int) := by rw [IntKind.wrap_u8]; omega
    have HV := Lib.hid (show Value.int .u8 (m : Int) = vb (UInt8.ofNat m) from by simp [vb]; omega)
    have ho := OwnB.one_ w _ _ HV.out
    have b1 := bl_al (Below.refl w.heap.size w) (.cells #[.int .u8 (m : Int)] 5)
    have HJ := Lib.hid (joined_any w (some ⟨w.heap.size, 0, none⟩) 1 1 [UInt8.ofNat m] A m c vs _ hv (by omega) hu ho (by omega) b1)
    clear e1 e2 hl hv hu
    generalize (if vs.all VV.ok then [UInt8.ofNat m] ++ joinB vs else []) = R at *
    generalize (if vs.all VV.ok then (0 : Int) else 120) = E at *
    go_enter Try.func16, Try.ntmps16
    go_wp2_with fail
    refine HJ.out.mono ?_
    rintro e w1 ⟨A1, c1, rfl, ho1, q1⟩
    go_wp2
    go_ret2
    exact ⟨A1, c1, rfl, ho1, q1⟩
end Go.Proofs.Ytfpodalnnchnoaa
