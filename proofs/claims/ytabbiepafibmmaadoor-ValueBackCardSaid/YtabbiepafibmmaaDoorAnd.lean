/- value.And, Or, Not. Conditions: the table of truths holds the three truths. -/
import Derived.Test.YtabbiepafibmmaaDoorLogic
import Derived.Shelf.Abstract
namespace Go.Proofs.YtabbiepafibmmaaDoor
open Go.RowKit
theorem add0 (ad : Addr) : ad.add 0 = ad := by simp [go_sem]
theorem add1 (ad : Addr) : ad.add 1 = ⟨ad.block, ad.off + 1, none⟩ := by simp [go_sem]
theorem truthI_of {v : VV} (h : v.ok = true) (hk : v.k ≤ 1) : truthI v = 0 ∨ truthI v = 1 ∨ truthI v = 2 := by
  have := ok_kind h hk
  unfold truthI
  split <;> omega
theorem kind0_all {vs : List VV} (h : kindE vs = 0) : ∀ v ∈ vs, truthI v = 0 ∨ truthI v = 1 ∨ truthI v = 2 := by
  unfold kindE at h
  split at h
  · rename_i h1
    split at h
    · omega
    · rename_i h2
      intro v hv
      refine truthI_of (List.all_eq_true.1 h1 v hv) ?_
      refine Classical.byContradiction fun e => h2 ?_
      exact List.any_eq_true.2 ⟨v, hv, decide_eq_true (by omega)⟩
  · omega
set_option maxHeartbeats 4000000 in
theorem min1_any (x y : Int) (hx : x = 0 ∨ x = 1 ∨ x = 2) (hy : y = 0 ∨ y = 1 ∨ y = 2) (A : Option Addr) (c : Nat) (w : World) (h : Reads w w.heap.size 1 A 2 (ints [x, y])) : Calls Tryd.prog 52 #[.slice A 2 c] w fun e w' => e = .returned (.int .i64 (min x y)) ∧ Below w.heap.size w w' := by
  obtain ⟨ad, rfl, _, hc⟩ := h.2 (by omega)
  have c0 : w.cell? ad = some (.int .i64 x) := by have := hc 0 _ rfl; rwa [add0] at this
  have c1 : w.cell? ⟨ad.block, ad.off + 1, none⟩ = some (.int .i64 y) := by have := hc 1 _ rfl; rwa [add1] at this
  clear hc h
  rcases hx with rfl | rfl | rfl
  all_goals rcases hy with rfl | rfl | rfl
  all_goals
    go_enter Tryd.func52, Tryd.ntmps52
    go_wp2_with fail
    go_quiet (fail)
    go_wp2
    go_ret
    exact ⟨rfl, by first | exact Below.refl _ _ | exact ⟨rfl, rfl, rfl, Nat.le_refl _, fun _ _ => rfl⟩⟩
set_option maxHeartbeats 4000000 in
theorem max1_any (x y : Int) (hx : x = 0 ∨ x = 1 ∨ x = 2) (hy : y = 0 ∨ y = 1 ∨ y = 2) (A : Option Addr) (c : Nat) (w : World) (h : Reads w w.heap.size 1 A 2 (ints [x, y])) : Calls Tryd.prog 53 #[.slice A 2 c] w fun e w' => e = .returned (.int .i64 (max x y)) ∧ Below w.heap.size w w' := by
  obtain ⟨ad, rfl, _, hc⟩ := h.2 (by omega)
  have c0 : w.cell? ad = some (.int .i64 x) := by have := hc 0 _ rfl; rwa [add0] at this
  have c1 : w.cell? ⟨ad.block, ad.off + 1, none⟩ = some (.int .i64 y) := by have := hc 1 _ rfl; rwa [add1] at this
  clear hc h
  rcases hx with rfl | rfl | rfl
  all_goals rcases hy with rfl | rfl | rfl
  all_goals
    go_enter Tryd.func53, Tryd.ntmps53
    go_wp2_with fail
    go_quiet (fail)
    go_wp2
    go_ret
    exact ⟨rfl, by first | exact Below.refl _ _ | exact ⟨rfl, rfl, rfl, Nat.le_refl _, fun _ _ => rfl⟩⟩
set_option maxHeartbeats 4000000 in
theorem not1_any (x : Int) (hx : x = 0 ∨ x = 1 ∨ x = 2) (A : Option Addr) (c : Nat) (w : World) (h : Reads w w.heap.size 1 A 1 (ints [x])) : Calls Tryd.prog 50 #[.slice A 1 c] w fun e w' => e = .returned (.int .i64 (2 - x)) ∧ Below w.heap.size w w' := by
  obtain ⟨ad, rfl, _, hc⟩ := h.2 (by omega)
  have c0 : w.cell? ad = some (.int .i64 x) := by have := hc 0 _ rfl; rwa [add0] at this
  clear hc h
  rcases hx with rfl | rfl | rfl
  all_goals
    go_enter Tryd.func50, Tryd.ntmps50
    go_wp2
    go_ret
    exact ⟨rfl, by first | exact Below.refl _ _ | exact ⟨rfl, rfl, rfl, Nat.le_refl _, fun _ _ => rfl⟩⟩
def andV (a b : VV) : VV × Int := logV (min (truthI a) (truthI b)) [a, b]
set_option maxRecDepth 100000 in
set_option maxHeartbeats 4000000 in
theorem and_any (a b : VV) (w : World) (hT : Tru w) : Calls Tryd.prog 30 #[.agg #[.int .i64 a.k, .int .i64 a.n, .int .u64 a.u, .string a.s], .agg #[.int .i64 b.k, .int .i64 b.n, .int .u64 b.u, .string b.s]] w fun e w' => e = .returned (resT (andV a b)) ∧ Below w.heap.size w w' := by
  have hent : ∀ (args : Array Value) (w : World), (callFunc 52 args).run Tryd.prog w = .ok (.enter 52 args) w := Go.Proofs.enters_of Tryd.func52 (by kernel_rfl) rfl
  have hto : kindE [a, b] = 0 → ((min (truthI a) (truthI b)) = 0 ∨ (min (truthI a) (truthI b)) = 1 ∨ (min (truthI a) (truthI b)) = 2) ∧ ∀ w A' c', Reads w w.heap.size 1 A' 2 (ints ([a, b].map truthI)) → Calls Tryd.prog 52 #[.slice A' 2 c'] w fun e w' => e = .returned (.int .i64 (min (truthI a) (truthI b))) ∧ Below w.heap.size w w' := by
    intro h
    have ha := kind0_all h a (by simp)
    have hb := kind0_all h b (by simp)
    exact ⟨by omega, fun w A' c' hr => min1_any _ _ ha hb A' c' w hr⟩
  obtain ⟨R, hR0⟩ : ∃ R, R = andV a b := ⟨_, rfl⟩
  have HLO := Lib.hid (fun A c w h hT => logic_any 52 (min (truthI a) (truthI b)) A 2 c [a, b] w h (by omega) hT hent hto)
  have HR0 := Lib.hid hR0
  rw [show logV (min (truthI a) (truthI b)) [a, b] = R from hR0.symm] at HLO
  clear hto hent hR0
  have hA := ((((Blk.new w 28 #[.int .i64 a.k, .int .i64 a.n, .int .u64 a.u, .string a.s]).alloc (.cells #[.int .i64 b.k, .int .i64 b.n, .int .u64 b.u, .string b.s] 28)).alloc (.cells #[.int .i64 0, .int .i64 0, .int .u64 0, .string ⟨#[]⟩] 28)).alloc (.cells #[.int .i64 a.k, .int .i64 a.n, .int .u64 a.u, .string a.s, .int .i64 b.k, .int .i64 b.n, .int .u64 b.u, .string b.s] 28))
  have hB := (((Blk.new (w.alloc (.cells #[.int .i64 a.k, .int .i64 a.n, .int .u64 a.u, .string a.s] 28)) 28 #[.int .i64 b.k, .int .i64 b.n, .int .u64 b.u, .string b.s]).alloc (.cells #[.int .i64 0, .int .i64 0, .int .u64 0, .string ⟨#[]⟩] 28)).alloc (.cells #[.int .i64 a.k, .int .i64 a.n, .int .u64 a.u, .string a.s, .int .i64 b.k, .int .i64 b.n, .int .u64 b.u, .string b.s] 28))
  have hR := ((Blk.new ((w.alloc (.cells #[.int .i64 a.k, .int .i64 a.n, .int .u64 a.u, .string a.s] 28)).alloc (.cells #[.int .i64 b.k, .int .i64 b.n, .int .u64 b.u, .string b.s] 28)) 28 #[.int .i64 0, .int .i64 0, .int .u64 0, .string ⟨#[]⟩]).alloc (.cells #[.int .i64 a.k, .int .i64 a.n, .int .u64 a.u, .string a.s, .int .i64 b.k, .int .i64 b.n, .int .u64 b.u, .string b.s] 28))
  have hS := (Blk.new (((w.alloc (.cells #[.int .i64 a.k, .int .i64 a.n, .int .u64 a.u, .string a.s] 28)).alloc (.cells #[.int .i64 b.k, .int .i64 b.n, .int .u64 b.u, .string b.s] 28)).alloc (.cells #[.int .i64 0, .int .i64 0, .int .u64 0, .string ⟨#[]⟩] 28)) 28 #[.int .i64 a.k, .int .i64 a.n, .int .u64 a.u, .string a.s, .int .i64 b.k, .int .i64 b.n, .int .u64 b.u, .string b.s])
  have bb := (bl_al (bl_al (bl_al (bl_al (Below.refl w.heap.size w) (.cells #[.int .i64 a.k, .int .i64 a.n, .int .u64 a.u, .string a.s] 28)) (.cells #[.int .i64 b.k, .int .i64 b.n, .int .u64 b.u, .string b.s] 28)) (.cells #[.int .i64 0, .int .i64 0, .int .u64 0, .string ⟨#[]⟩] 28)) (.cells #[.int .i64 a.k, .int .i64 a.n, .int .u64 a.u, .string a.s, .int .i64 b.k, .int .i64 b.n, .int .u64 b.u, .string b.s] 28))
  simp only [World.size_alloc] at hB hR hS
  go_enter Tryd.func30, Tryd.ntmps30
  go_wp2_with fail
  generalize ((((w.alloc (.cells #[.int .i64 a.k, .int .i64 a.n, .int .u64 a.u, .string a.s] 28)).alloc (.cells #[.int .i64 b.k, .int .i64 b.n, .int .u64 b.u, .string b.s] 28)).alloc (.cells #[.int .i64 0, .int .i64 0, .int .u64 0, .string ⟨#[]⟩] 28)).alloc (.cells #[.int .i64 a.k, .int .i64 a.n, .int .u64 a.u, .string a.s, .int .i64 b.k, .int .i64 b.n, .int .u64 b.u, .string b.s] 28)) = w1 at *
  replace hT := hT.below bb
  refine (HLO.out _ _ w1 (rdv_two hS) hT).mono ?_
  rintro e w2 ⟨rfl, q2⟩
  have KR := Lib.hid (hR.ca q2)
  replace bb := bl_ca bb q2
  simp only [resT]
  clear q2
  go_wp2_with (refine wpList_store_blk rfl 28 (.tmp 4) (.tmp 10) rfl (w.heap.size + 1 + 1) 28 _ _ rfl rfl KR.out rfl valI (one4 _ _ _ _) ?_; intro wz hZ gz)
  exact bodyPost_ret (res2 Tryd.results30 rfl rfl hZ Tryd.underlying28 rfl valI) rfl ⟨by rw [← HR0.out]; rfl, bl_gr bb gz (by omega)⟩
def orV (a b : VV) : VV × Int := logV (max (truthI a) (truthI b)) [a, b]
set_option maxRecDepth 100000 in
set_option maxHeartbeats 4000000 in
theorem or_any (a b : VV) (w : World) (hT : Tru w) : Calls Tryd.prog 32 #[.agg #[.int .i64 a.k, .int .i64 a.n, .int .u64 a.u, .string a.s], .agg #[.int .i64 b.k, .int .i64 b.n, .int .u64 b.u, .string b.s]] w fun e w' => e = .returned (resT (orV a b)) ∧ Below w.heap.size w w' := by
  have hent : ∀ (args : Array Value) (w : World), (callFunc 53 args).run Tryd.prog w = .ok (.enter 53 args) w := Go.Proofs.enters_of Tryd.func53 (by kernel_rfl) rfl
  have hto : kindE [a, b] = 0 → ((max (truthI a) (truthI b)) = 0 ∨ (max (truthI a) (truthI b)) = 1 ∨ (max (truthI a) (truthI b)) = 2) ∧ ∀ w A' c', Reads w w.heap.size 1 A' 2 (ints ([a, b].map truthI)) → Calls Tryd.prog 53 #[.slice A' 2 c'] w fun e w' => e = .returned (.int .i64 (max (truthI a) (truthI b))) ∧ Below w.heap.size w w' := by
    intro h
    have ha := kind0_all h a (by simp)
    have hb := kind0_all h b (by simp)
    exact ⟨by omega, fun w A' c' hr => max1_any _ _ ha hb A' c' w hr⟩
  obtain ⟨R, hR0⟩ : ∃ R, R = orV a b := ⟨_, rfl⟩
  have HLO := Lib.hid (fun A c w h hT => logic_any 53 (max (truthI a) (truthI b)) A 2 c [a, b] w h (by omega) hT hent hto)
  have HR0 := Lib.hid hR0
  rw [show logV (max (truthI a) (truthI b)) [a, b] = R from hR0.symm] at HLO
  clear hto hent hR0
  have hA := ((((Blk.new w 28 #[.int .i64 a.k, .int .i64 a.n, .int .u64 a.u, .string a.s]).alloc (.cells #[.int .i64 b.k, .int .i64 b.n, .int .u64 b.u, .string b.s] 28)).alloc (.cells #[.int .i64 0, .int .i64 0, .int .u64 0, .string ⟨#[]⟩] 28)).alloc (.cells #[.int .i64 a.k, .int .i64 a.n, .int .u64 a.u, .string a.s, .int .i64 b.k, .int .i64 b.n, .int .u64 b.u, .string b.s] 28))
  have hB := (((Blk.new (w.alloc (.cells #[.int .i64 a.k, .int .i64 a.n, .int .u64 a.u, .string a.s] 28)) 28 #[.int .i64 b.k, .int .i64 b.n, .int .u64 b.u, .string b.s]).alloc (.cells #[.int .i64 0, .int .i64 0, .int .u64 0, .string ⟨#[]⟩] 28)).alloc (.cells #[.int .i64 a.k, .int .i64 a.n, .int .u64 a.u, .string a.s, .int .i64 b.k, .int .i64 b.n, .int .u64 b.u, .string b.s] 28))
  have hR := ((Blk.new ((w.alloc (.cells #[.int .i64 a.k, .int .i64 a.n, .int .u64 a.u, .string a.s] 28)).alloc (.cells #[.int .i64 b.k, .int .i64 b.n, .int .u64 b.u, .string b.s] 28)) 28 #[.int .i64 0, .int .i64 0, .int .u64 0, .string ⟨#[]⟩]).alloc (.cells #[.int .i64 a.k, .int .i64 a.n, .int .u64 a.u, .string a.s, .int .i64 b.k, .int .i64 b.n, .int .u64 b.u, .string b.s] 28))
  have hS := (Blk.new (((w.alloc (.cells #[.int .i64 a.k, .int .i64 a.n, .int .u64 a.u, .string a.s] 28)).alloc (.cells #[.int .i64 b.k, .int .i64 b.n, .int .u64 b.u, .string b.s] 28)).alloc (.cells #[.int .i64 0, .int .i64 0, .int .u64 0, .string ⟨#[]⟩] 28)) 28 #[.int .i64 a.k, .int .i64 a.n, .int .u64 a.u, .string a.s, .int .i64 b.k, .int .i64 b.n, .int .u64 b.u, .string b.s])
  have bb := (bl_al (bl_al (bl_al (bl_al (Below.refl w.heap.size w) (.cells #[.int .i64 a.k, .int .i64 a.n, .int .u64 a.u, .string a.s] 28)) (.cells #[.int .i64 b.k, .int .i64 b.n, .int .u64 b.u, .string b.s] 28)) (.cells #[.int .i64 0, .int .i64 0, .int .u64 0, .string ⟨#[]⟩] 28)) (.cells #[.int .i64 a.k, .int .i64 a.n, .int .u64 a.u, .string a.s, .int .i64 b.k, .int .i64 b.n, .int .u64 b.u, .string b.s] 28))
  simp only [World.size_alloc] at hB hR hS
  go_enter Tryd.func32, Tryd.ntmps32
  go_wp2_with fail
  generalize ((((w.alloc (.cells #[.int .i64 a.k, .int .i64 a.n, .int .u64 a.u, .string a.s] 28)).alloc (.cells #[.int .i64 b.k, .int .i64 b.n, .int .u64 b.u, .string b.s] 28)).alloc (.cells #[.int .i64 0, .int .i64 0, .int .u64 0, .string ⟨#[]⟩] 28)).alloc (.cells #[.int .i64 a.k, .int .i64 a.n, .int .u64 a.u, .string a.s, .int .i64 b.k, .int .i64 b.n, .int .u64 b.u, .string b.s] 28)) = w1 at *
  replace hT := hT.below bb
  refine (HLO.out _ _ w1 (rdv_two hS) hT).mono ?_
  rintro e w2 ⟨rfl, q2⟩
  have KR := Lib.hid (hR.ca q2)
  replace bb := bl_ca bb q2
  simp only [resT]
  clear q2
  go_wp2_with (refine wpList_store_blk rfl 28 (.tmp 4) (.tmp 10) rfl (w.heap.size + 1 + 1) 28 _ _ rfl rfl KR.out rfl valI (one4 _ _ _ _) ?_; intro wz hZ gz)
  exact bodyPost_ret (res2 Tryd.results32 rfl rfl hZ Tryd.underlying28 rfl valI) rfl ⟨by rw [← HR0.out]; rfl, bl_gr bb gz (by omega)⟩
def notV (a : VV) : VV × Int := logV (2 - truthI a) [a]
set_option maxRecDepth 100000 in
set_option maxHeartbeats 4000000 in
theorem not_any (a : VV) (w : World) (hT : Tru w) : Calls Tryd.prog 28 #[.agg #[.int .i64 a.k, .int .i64 a.n, .int .u64 a.u, .string a.s]] w fun e w' => e = .returned (resT (notV a)) ∧ Below w.heap.size w w' := by
  have hent : ∀ (args : Array Value) (w : World), (callFunc 50 args).run Tryd.prog w = .ok (.enter 50 args) w := Go.Proofs.enters_of Tryd.func50 (by kernel_rfl) rfl
  have hto : kindE [a] = 0 → ((2 - truthI a) = 0 ∨ (2 - truthI a) = 1 ∨ (2 - truthI a) = 2) ∧ ∀ w A' c', Reads w w.heap.size 1 A' 1 (ints ([a].map truthI)) → Calls Tryd.prog 50 #[.slice A' 1 c'] w fun e w' => e = .returned (.int .i64 (2 - truthI a)) ∧ Below w.heap.size w w' := by
    intro h
    have ha := kind0_all h a (by simp)
    exact ⟨by omega, fun w A' c' hr => not1_any _ ha A' c' w hr⟩
  obtain ⟨R, hR0⟩ : ∃ R, R = notV a := ⟨_, rfl⟩
  have HLO := Lib.hid (fun A c w h hT => logic_any 50 (2 - truthI a) A 1 c [a] w h (by omega) hT hent hto)
  have HR0 := Lib.hid hR0
  rw [show logV (2 - truthI a) [a] = R from hR0.symm] at HLO
  clear hto hent hR0
  have hA := (((Blk.new w 28 #[.int .i64 a.k, .int .i64 a.n, .int .u64 a.u, .string a.s]).alloc (.cells #[.int .i64 0, .int .i64 0, .int .u64 0, .string ⟨#[]⟩] 28)).alloc (.cells #[.int .i64 a.k, .int .i64 a.n, .int .u64 a.u, .string a.s] 28))
  have hR := ((Blk.new (w.alloc (.cells #[.int .i64 a.k, .int .i64 a.n, .int .u64 a.u, .string a.s] 28)) 28 #[.int .i64 0, .int .i64 0, .int .u64 0, .string ⟨#[]⟩]).alloc (.cells #[.int .i64 a.k, .int .i64 a.n, .int .u64 a.u, .string a.s] 28))
  have hS := (Blk.new ((w.alloc (.cells #[.int .i64 a.k, .int .i64 a.n, .int .u64 a.u, .string a.s] 28)).alloc (.cells #[.int .i64 0, .int .i64 0, .int .u64 0, .string ⟨#[]⟩] 28)) 28 #[.int .i64 a.k, .int .i64 a.n, .int .u64 a.u, .string a.s])
  have bb := (bl_al (bl_al (bl_al (Below.refl w.heap.size w) (.cells #[.int .i64 a.k, .int .i64 a.n, .int .u64 a.u, .string a.s] 28)) (.cells #[.int .i64 0, .int .i64 0, .int .u64 0, .string ⟨#[]⟩] 28)) (.cells #[.int .i64 a.k, .int .i64 a.n, .int .u64 a.u, .string a.s] 28))
  simp only [World.size_alloc] at hR hS
  go_enter Tryd.func28, Tryd.ntmps28
  go_wp2_with fail
  generalize (((w.alloc (.cells #[.int .i64 a.k, .int .i64 a.n, .int .u64 a.u, .string a.s] 28)).alloc (.cells #[.int .i64 0, .int .i64 0, .int .u64 0, .string ⟨#[]⟩] 28)).alloc (.cells #[.int .i64 a.k, .int .i64 a.n, .int .u64 a.u, .string a.s] 28)) = w1 at *
  replace hT := hT.below bb
  refine (HLO.out _ _ w1 (rdv_one hS) hT).mono ?_
  rintro e w2 ⟨rfl, q2⟩
  have KR := Lib.hid (hR.ca q2)
  replace bb := bl_ca bb q2
  simp only [resT]
  clear q2
  go_wp2_with (refine wpList_store_blk rfl 28 (.tmp 2) (.tmp 7) rfl (w.heap.size + 1) 28 _ _ rfl rfl KR.out rfl valI (one4 _ _ _ _) ?_; intro wz hZ gz)
  exact bodyPost_ret (res2 Tryd.results28 rfl rfl hZ Tryd.underlying28 rfl valI) rfl ⟨by rw [← HR0.out]; rfl, bl_gr bb gz (by omega)⟩
end Go.Proofs.YtabbiepafibmmaaDoor
