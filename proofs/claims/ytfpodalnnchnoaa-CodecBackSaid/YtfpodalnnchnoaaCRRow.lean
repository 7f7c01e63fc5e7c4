/- bowspritref06.Row. Conditions: the slice reads as these values; their numbers lie within their kinds. -/
import Derived.Test.YtfpodalnnchnoaaCRVal2
import Derived.Test.YtfpodalnnchnoaaCRows
namespace Go.Proofs.Ytfpodalnnchnoaa
open Go.RowKit
theorem rright_y (v : VV) (h : v.ok = true) (w : World) : Calls Try.prog 14 #[.agg #[.int .i64 v.k, .int .i64 v.n, .int .u64 v.u, .string v.s]] w fun e w' => e = .returned (.bool true) ∧ Below w.heap.size w w' := by
  have := right_any v.k v.n v.u v.s w
  rwa [show rightB v.k v.n v.u v.s = true from h] at this
theorem rright_n (v : VV) (h : v.ok = false) (w : World) : Calls Try.prog 14 #[.agg #[.int .i64 v.k, .int .i64 v.n, .int .u64 v.u, .string v.s]] w fun e w' => e = .returned (.bool false) ∧ Below w.heap.size w w' := by
  have := right_any v.k v.n v.u v.s w
  rwa [show rightB v.k v.n v.u v.s = false from h] at this
def retM (w : World) (bs : List UInt8) (x : Ending) (w' : World) : Prop := ∃ A n c, x = .returned (.slice A n c) ∧ RdB w' A n bs ∧ n ≤ 42 ∧ Below w.heap.size w w'
theorem rvalue_m (v : VV) (h : v.ok = true) (hu : uOk v) (w : World) : Calls Try.prog 15 #[.agg #[.int .i64 v.k, .int .i64 v.n, .int .u64 v.u, .string v.s]] w (retM w (valB v)) :=
  (rvalue_any v h hu w).mono fun _ _ ⟨A, c, h1, h2, h3⟩ => ⟨A, _, c, h1, h2.rd, valB_len h, h3⟩
set_option maxRecDepth 100000 in
set_option maxHeartbeats 4000000 in
theorem rrow_any (A : Option Addr) (m c : Nat) (vs : List VV) (w : World) (hv : RdV w A m vs) (hu : ∀ v ∈ vs, uOk v) :
    Calls Try.prog 17 #[.slice A m c] w (retB w (rowB vs) (rowE vs)) := by
  have hl := hv.1
  by_cases hm : 16 < m
  · have h1 : (16 : Int) < (m : Int) := by omega
    have e1 : rowE vs = 3 := by unfold rowE; rw [if_pos (by omega)]
    have e2 : rowB vs = [] := by unfold rowB; rw [e1]; rfl
    rw [e1, e2]
    clear e1 e2 hm hl hv hu
    go_enter Try.func17, Try.ntmps17
    go_wp2
    go_ret2
    exact ⟨none, 0, rfl, OwnB.none_ _ _, Below.refl _ _⟩
  · have h1 : (m : Int) ≤ (16 : Int) := by omega
    have hm16 : m ≤ 16 := by omega
    have hwr : IntKind.u8.wrap (m : Int) = (m : Int) := by rw [IntKind.wrap_u8]; omega
    have HV := Lib.hid (show Value.int .u8 (m : Int) = vb (UInt8.ofNat m) from by simp [vb]; omega)
    have ho := OwnB.one_ w _ _ HV.out
    have b1 := bl_al (Below.refl w.heap.size w) (.cells #[.int .u8 (m : Int)] 5)
    have HL := Lib.hid hl
    clear hm hl
    obtain ⟨E, hE⟩ : ∃ E, E = rowE vs := ⟨_, rfl⟩
    obtain ⟨R, hR⟩ : ∃ R, R = rowB vs := ⟨_, rfl⟩
    rw [← hE, ← hR]
    have HE := Lib.hid hE
    have HR := Lib.hid hR
    clear hE hR
    go_enter Try.func17, Try.ntmps17
    go_wp2
    go_loopg [4, 16] m (fun g o s wr => ∃ (i n' c' : Nat) (A' : Option Addr), i + g ≤ m ∧ m ≤ i + g ∧ s = .int .i64 i ∧ o = .slice A' n' c' ∧ n' ≤ 1 + 42 * i ∧ OwnB wr w.heap.size A' n' c' ([UInt8.ofNat m] ++ joinB (vs.take i)) ∧ Below w.heap.size w wr ∧ ∀ v ∈ vs.take i, v.ok = true)
    case atStart => exact ⟨0, 1, 1, _, by omega, by omega, rfl, rfl, by omega, by simpa [joinB] using ho, b1, by simp⟩
    case round =>
      obtain ⟨i, n', c', A', hi1, hi2, rfl, rfl, hn1, ho, bb, hok⟩ := hrel
      by_cases hi : i < m
      · obtain ⟨a, v, rfl, hvi, hal, c0, c1, c2, c3⟩ := (hv.below bb).2 i hi
        have huv := hu v (List.mem_of_getElem? hvi)
        have HS := Lib.hid (show vs.take (i + 1) = vs.take i ++ [v] from by rw [List.take_add_one, hvi]; rfl)
        have HM := Lib.hid (List.mem_of_getElem? hvi)
        have ho1 := ho.below (bl_al (Below.refl _ _) (.cells #[.int .i64 v.k, .int .i64 v.n, .int .u64 v.u, .string v.s] 24))
        have bb1 := bl_al bb (.cells #[.int .i64 v.k, .int .i64 v.n, .int .u64 v.u, .string v.s] 24)
        have hT := Blk.new wr 24 #[.int .i64 v.k, .int .i64 v.n, .int .u64 v.u, .string v.s]
        clear hvi ho bb hv
        cases hvo : v.ok
        · have HRI := Lib.hid (fun w => rright_n v hvo w)
          have HE0 := Lib.hid (show E = 120 from by
            rw [HE.out]; unfold rowE; rw [if_neg (by have := HL.out; omega), if_neg]
            intro hall
            have := List.all_eq_true.1 hall v HM.out
            rw [hvo] at this
            cases this)
          have HR0 := Lib.hid (show R = [] from by rw [HR.out]; unfold rowB; rw [if_neg (by rw [← HE.out, HE0.out]; decide)])
          clear hvo
          go_wp2_with fail
          refine (HRI.out _).mono ?_
          rintro e w2 ⟨rfl, q2⟩
          replace bb1 := bl_ca bb1 q2
          clear q2 c0 c1 c2 c3
          go_wp2
          go_ret2
          exact ⟨none, 0, by rw [HE0.out, HR0.out]; rfl, by rw [HR0.out]; exact OwnB.none_ _ _, bb1⟩
        · have HRI := Lib.hid (fun w => rright_y v hvo w)
          have HVA := Lib.hid (fun w => rvalue_m v hvo huv w)
          have hok2 := Lib.hid (show ∀ x ∈ vs.take (i + 1), x.ok = true from by
            rw [HS.out]; intro x hx
            rcases List.mem_append.1 hx with hx | hx
            · exact hok x hx
            · rw [List.mem_singleton.1 hx]; exact hvo)
          clear hvo hok
          go_wp2_with fail
          refine (HRI.out _).mono ?_
          rintro e w2 ⟨rfl, q2⟩
          replace bb1 := bl_ca bb1 q2
          replace ho1 := ho1.below q2
          replace hT := hT.ca q2
          clear q2 c0 c1 c2 c3
          have t0 := hT.cell 0
          have t1 := hT.cell 1
          have t2 := hT.cell 2
          have t3 := hT.cell 3
          go_wp2_with fail
          refine (HVA.out _).mono ?_
          rintro e w3 ⟨A3, n3, c3, rfl, r3, l3, q3⟩
          replace bb1 := bl_ca bb1 q3
          replace ho1 := ho1.below q3
          have hsz := bb1.size
          clear q3 t0 t1 t2 t3 hT
          have HF := Lib.hid (show [UInt8.ofNat m] ++ joinB (vs.take (i + 1)) = ([UInt8.ofNat m] ++ joinB (vs.take i)) ++ valB v from by rw [HS.out]; simp [joinB])
          go_wp2_with (at_builtin; refine wpList_appB rfl (.tmp 23) (.tmp 25) rfl w.heap.size A' n' c' ([UInt8.ofNat m] ++ joinB (vs.take i)) A3 n3 c3 (valB v) rfl rfl ho1 r3 (by omega) hsz ?_; intro A4 c4 w4 ho4 b4)
          go_roundg (gk - 1)
          · exact ⟨i + 1, n' + n3, c4, A4, by omega, by omega, by go_num, rfl, by omega, by rw [HF.out]; exact ho4, bb1.trans b4, hok2.out⟩
          · omega
      · obtain rfl : i = m := by omega
        have et : vs.take i = vs := List.take_of_length_le (by rw [HL.out]; omega)
        rw [et] at ho hok
        have HE0 := Lib.hid (show E = 0 from by
          rw [HE.out]; unfold rowE; rw [if_neg (by have := HL.out; omega), if_pos (List.all_eq_true.2 hok)])
        have HR0 := Lib.hid (show R = [UInt8.ofNat i] ++ joinB vs from by rw [HR.out]; unfold rowB; rw [if_pos (by rw [← HE.out, HE0.out]), HL.out]; rfl)
        have HN := Lib.hid (show n' = R.length from by rw [HR0.out]; exact ho.len.symm)
        clear et hok hv hu
        go_wp2
        go_ret2
        exact ⟨A', c', by rw [HE0.out, HN.out]; rfl, by rw [← HN.out, HR0.out]; exact ho, bb⟩
end Go.Proofs.Ytfpodalnnchnoaa
