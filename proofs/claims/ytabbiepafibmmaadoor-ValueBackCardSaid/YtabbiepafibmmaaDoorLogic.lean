/- value.logic: what truths come to. Conditions: the table of truths holds the three truths; the function handed in answers 0, 1 or 2. -/
import Derived.Test.YtabbiepafibmmaaDoorLogM
namespace Go.Proofs.YtabbiepafibmmaaDoor
open Go.RowKit
/-- the table of truths -/
def Tru (w : World) : Prop := 1 < w.heap.size ∧ w.cell? ⟨1, 0, none⟩ = some (.int .i64 1) ∧ w.cell? ⟨1, 1, none⟩ = some (.int .i64 0) ∧ w.cell? ⟨1, 2, none⟩ = some (.int .u64 0) ∧ w.cell? ⟨1, 3, none⟩ = some (.string ⟨#[]⟩) ∧ w.cell? ⟨1, 4, none⟩ = some (.int .i64 0) ∧ w.cell? ⟨1, 5, none⟩ = some (.int .i64 0) ∧ w.cell? ⟨1, 6, none⟩ = some (.int .u64 0) ∧ w.cell? ⟨1, 7, none⟩ = some (.string ⟨#[]⟩) ∧ w.cell? ⟨1, 8, none⟩ = some (.int .i64 1) ∧ w.cell? ⟨1, 9, none⟩ = some (.int .i64 1) ∧ w.cell? ⟨1, 10, none⟩ = some (.int .u64 0) ∧ w.cell? ⟨1, 11, none⟩ = some (.string ⟨#[]⟩)
theorem Tru.below {w w' : World} (h : Tru w) (b : Below w.heap.size w w') : Tru w' := by
  obtain ⟨h1, c0, c1, c2, c3, c4, c5, c6, c7, c8, c9, c10, c11⟩ := h
  exact ⟨Nat.lt_of_lt_of_le h1 b.size, (b.cell h1).trans c0, (b.cell h1).trans c1, (b.cell h1).trans c2, (b.cell h1).trans c3, (b.cell h1).trans c4, (b.cell h1).trans c5, (b.cell h1).trans c6, (b.cell h1).trans c7, (b.cell h1).trans c8, (b.cell h1).trans c9, (b.cell h1).trans c10, (b.cell h1).trans c11⟩
def logV (r : Int) (vs : List VV) : VV × Int := if kindE vs = 0 then (TV r, 0) else (V0, kindE vs)
set_option maxRecDepth 100000 in
set_option maxHeartbeats 8000000 in
theorem logic_any (fn : FuncId) (r : Int) (A : Option Addr) (n c : Nat) (vs : List VV) (w : World) (h : RdV w A n vs) (hn : n ≤ 1000) (hT : Tru w)
    (hent : ∀ (args : Array Value) (w : World), (callFunc fn args).run Tryd.prog w = .ok (.enter fn args) w)
    (hto : kindE vs = 0 → (r = 0 ∨ r = 1 ∨ r = 2) ∧ ∀ w A' c', Reads w w.heap.size 1 A' n (ints (vs.map truthI)) → Calls Tryd.prog fn #[.slice A' n c'] w fun e w' => e = .returned (.int .i64 r) ∧ Below w.heap.size w w') :
    Calls Tryd.prog 49 #[.func (.func fn) #[] #[], .slice A n c] w fun e w' => e = .returned (resT (logV r vs)) ∧ Below w.heap.size w w' := by
  have HTO := Lib.hid hto
  clear hto
  have HENT := Lib.hid hent
  clear hent
  have HR := Lib.hid (show logV r vs = if kindE vs = 0 then (TV r, 0) else (V0, kindE vs) from rfl)
  obtain ⟨R, hRe⟩ : ∃ R, R = logV r vs := ⟨_, rfl⟩
  rw [← hRe] at HR
  have HRE := Lib.hid hRe
  clear hRe
  have hR := (Blk.new w 28 #[.int .i64 0, .int .i64 0, .int .u64 0, .string ⟨#[]⟩])
  have bb := (bl_al (Below.refl w.heap.size w) (.cells #[.int .i64 0, .int .i64 0, .int .u64 0, .string ⟨#[]⟩] 28))
  go_enter Tryd.func49, Tryd.ntmps49
  go_wp2_with fail
  generalize (w.alloc (.cells #[.int .i64 0, .int .i64 0, .int .u64 0, .string ⟨#[]⟩] 28)) = w1 at *
  replace h := h.below bb
  replace hT := hT.below bb
  refine (rightl_any A n c vs w1 h (by omega)).mono ?_
  rintro e w2 ⟨rfl, q2⟩
  replace h := h.below q2
  replace hT := hT.below q2
  replace hR := hR.ca q2
  replace bb := bl_ca bb q2
  clear q2
  by_cases he : allE vs = 0
  · rw [he]
    have HALL := Lib.hid (show vs.all VV.ok = true from by unfold allE at he; split at he; assumption; omega)
    clear he
    have b2 := Below.refl w2.heap.size w2
    have hs2 := bb.size
    have lR := hR.lt
    go_wp2
    go_loopg [7, 18] n (fun g o s wr => ∃ (i : Nat) (A' : Option Addr) (c' : Nat), i + g ≤ n ∧ n ≤ i + g ∧ s = .int .i64 i ∧ o = .slice A' i c' ∧ OwnI wr w2.heap.size A' i c' ((vs.take i).map truthI) ∧ (vs.take i).any (fun v => decide (1 < v.k)) = false ∧ Below w2.heap.size w2 wr)
    case atStart => exact ⟨0, none, 0, by omega, by omega, rfl, rfl, by simpa using OwnI.nil w2 w2.heap.size, by simp, b2⟩
    case round =>
      clear b2
      obtain ⟨i, A', c', hi1, hi2, rfl, rfl, ho, hk, b2⟩ := hrel
      have HK := Lib.hid hk
      clear hk
      by_cases hi : i < n
      · obtain ⟨ad, v, rfl, hv, hal, c0, c1, c2, c3⟩ := (h.below b2).2 i hi
        have HV := Lib.hid hv
        clear hv
        have HTK := Lib.hid (show vs.take (i + 1) = vs.take i ++ [v] from by rw [List.take_add_one, HV.out]; rfl)
        have hok : v.ok = true := List.all_eq_true.1 HALL.out v (List.mem_of_getElem? HV.out)
        have HOK := Lib.hid hok
        clear hok
        have hV := Blk.new wr 28 #[.int .i64 v.k, .int .i64 v.n, .int .u64 v.u, .string v.s]
        replace ho := ho.alloc (.cells #[.int .i64 v.k, .int .i64 v.n, .int .u64 v.u, .string v.s] 28)
        replace b2 := bl_al b2 (.cells #[.int .i64 v.k, .int .i64 v.n, .int .u64 v.u, .string v.s] 28)
        by_cases hk1 : 1 < v.k
        · have hk2 : decide ((1 : Int) < v.k) = true := decide_eq_true hk1
          have HE := Lib.hid (show kindE vs = 2 from by unfold kindE; rw [if_pos HALL.out, if_pos (List.any_eq_true.2 ⟨v, List.mem_of_getElem? HV.out, hk2⟩)])
          have KR := Lib.hid ((hR.below (b2.mono (Nat.le_refl _)) lR))
          have bb3 := bb.trans (b2.mono hs2)
          go_wp2_with (refine wpList_store_blk rfl 28 (.tmp 4) (.tmp 25) rfl w.heap.size 28 _ _ rfl rfl KR.out rfl valI (one4 _ _ _ _) ?_; intro wz hZ gz)
          exact bodyPost_ret (res2 Tryd.results49 rfl rfl hZ Tryd.underlying28 rfl valI) rfl ⟨by rw [← HRE.out, HR.out, HE.out]; rfl, bl_gr bb3 gz (Nat.le_refl _)⟩
        · have hk2 : decide ((1 : Int) < v.k) = false := decide_eq_false hk1
          have HF := Lib.hid (show ((vs.take (i + 1)).map truthI) = (vs.take i).map truthI ++ [truthI v] from by rw [HTK.out, List.map_append]; rfl)
          have hkv := ok_kind HOK.out (by omega)
          have hcl : ∀ w, Calls Tryd.prog 43 #[.agg #[.int .i64 v.k, .int .i64 v.n, .int .u64 v.u, .string v.s]] w fun e w' => e = .returned (.int .i64 (truthI v)) ∧ Below w.heap.size w w' := by
            rcases hkv with ⟨a1, _⟩ | ⟨a1, a2⟩
            · exact fun w => truth_0 v a1 w
            · exact fun w => truth_1 v a1 a2 w
          have HCL := Lib.hid hcl
          clear hcl hkv
          generalize truthI v = z at *
          go_wp2_with fail
          clear c0 c1 c2 c3 hal
          refine (HCL.out _).mono ?_
          rintro e w4 ⟨rfl, q4⟩
          have hb4 := Blk.new w4 3 #[.int .i64 z]
          replace ho := (ho.below q4).alloc (.cells #[.int .i64 z] 3)
          replace b2 := bl_al (bl_ca b2 q4) (.cells #[.int .i64 z] 3)
          clear q4 hV
          go_wp2_with (at_builtin; refine wpList_appI rfl (.tmp 26) (.tmp 29) rfl w2.heap.size A' i c' _ _ 1 _ z rfl rfl ho hb4 (by omega) b2.size ?_; intro A4 c4 w5 ho5 b5)
          have b6 := b2.trans b5
          go_roundg (gk - 1)
          · exact ⟨i + 1, A4, c4, by omega, by omega, by go_num, rfl, by rw [HF.out]; exact ho5, by rw [HTK.out, List.any_append, HK.out]; simp [hk2], b6⟩
          · omega
      · obtain rfl : i = n := by omega
        have htk : vs.take i = vs := List.take_of_length_le (by rw [h.1]; exact Nat.le_refl _)
        rw [htk] at ho HK
        clear htk
        have HE := Lib.hid (show kindE vs = 0 from by unfold kindE; rw [if_pos HALL.out, if_neg (by rw [HK.out]; simp)])
        have hcl := HTO.out HE.out
        have hd : decide (i < i) = false := decide_eq_false (by omega)
        have hent2 := HENT.out
        go_wp2_with fail
        obtain ⟨hr3, hcl⟩ := hcl
        have HCL := Lib.hid (hcl wr A' c' ho.rd)
        clear hcl HTO HENT hent2 hd
        rcases hr3 with hr0 | hr0 | hr0
        all_goals
          subst hr0
          refine HCL.out.mono ?_
          rintro e w6 ⟨rfl, q6⟩
          have hT6 := (hT.below b2).below q6
          obtain ⟨_, c0, c1, c2, c3, c4, c5, c6, c7, c8, c9, c10, c11⟩ := hT6
          have KR := Lib.hid ((hR.below b2 lR).ca q6)
          have bb3 := bl_ca (bb.trans (b2.mono hs2)) q6
          clear HCL
          go_wp2_with (refine wpList_store_blk rfl 28 (.tmp 4) (.tmp 36) rfl w.heap.size 28 _ _ rfl rfl KR.out rfl valI (one4 _ _ _ _) ?_; intro wz hZ gz)
          exact bodyPost_ret (res2 Tryd.results49 rfl rfl hZ Tryd.underlying28 rfl valI) rfl ⟨by rw [← HRE.out, HR.out, HE.out]; rfl, bl_gr bb3 gz (Nat.le_refl _)⟩
  · have he2 : allE vs = 120 := by unfold allE at he ⊢; split; exact absurd (by assumption) (by intro e; apply he; rw [if_pos e]); rfl
    have HE := Lib.hid (show kindE vs = 120 from by unfold kindE; rw [if_neg]; intro e; apply he; unfold allE; rw [if_pos e])
    rw [he2]
    clear he he2
    have KR := Lib.hid hR
    go_wp2_with (refine wpList_store_blk rfl 28 (.tmp 4) (.tmp 14) rfl w.heap.size 28 _ _ rfl rfl KR.out rfl valI (one4 _ _ _ _) ?_; intro wz hZ gz)
    exact bodyPost_ret (res2 Tryd.results49 rfl rfl hZ Tryd.underlying28 rfl valI) rfl ⟨by rw [← HRE.out, HR.out, HE.out]; rfl, bl_gr bb gz (Nat.le_refl _)⟩
end Go.Proofs.YtabbiepafibmmaaDoor
