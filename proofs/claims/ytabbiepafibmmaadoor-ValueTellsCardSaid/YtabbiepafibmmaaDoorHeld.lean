/- value.held, Equal, Less. Conditions: the function handed in answers a truth. -/
import Derived.Test.YtabbiepafibmmaaDoorRightL
import Derived.Test.YtabbiepafibmmaaDoorLogM
import Derived.Test.YtabbiepafibmmaaDoorLin
namespace Go.Proofs.YtabbiepafibmmaaDoor
open Go.RowKit
def boolV (b : Bool) : VV := if b then VB1 else VB0
/-- why two values can't be held against one another -/
def bothE (a b : VV) : Int := if !(a.ok && b.ok) then 120 else if a.k == 4 || (b.k == 4 || (!(a.k == 0 || b.k == 0) && a.k != b.k)) then 2 else 0
def heldV (is : Int → Bool) (a b : VV) : VV × Int := if bothE a b != 0 then (V0, bothE a b) else if a.k == 0 || b.k == 0 then (V0, 0) else (boolV (is (cmpV a b)), 0)
theorem vbool_any (b : Bool) (w : World) : Calls Tryd.prog 27 #[.bool b] w fun e w' => e = .returned (.agg #[.int .i64 (boolV b).k, .int .i64 (boolV b).n, .int .u64 (boolV b).u, .string (boolV b).s]) ∧ Below w.heap.size w w' := by
  cases b
  · exact vbool_false w
  · exact vbool_true w
theorem allE2 (a b : VV) : allE [a, b] = if a.ok && b.ok then 0 else 120 := by simp [allE]
set_option maxRecDepth 100000 in
set_option maxHeartbeats 4000000 in
theorem held_e (fn : FuncId) (is : Int → Bool) (hto : ∀ c w, Calls Tryd.prog fn #[.int .i64 c] w fun e w' => e = .returned (.bool (is c)) ∧ Below w.heap.size w w') (hent : ∀ (args : Array Value) (w : World), (callFunc fn args).run Tryd.prog w = .ok (.enter fn args) w) (a b : VV) (he : allE [a, b] = 120)  (w : World) : Calls Tryd.prog 58 #[.agg #[.int .i64 a.k, .int .i64 a.n, .int .u64 a.u, .string a.s], .agg #[.int .i64 b.k, .int .i64 b.n, .int .u64 b.u, .string b.s], .func (.func fn) #[] #[]] w fun e w' => e = .returned (resT (V0, 120)) ∧ Below w.heap.size w w' := by
  have HTO := Lib.hid hto
  have HENT := Lib.hid hent
  clear hto hent
  have HRI := Lib.hid (fun A w h => (he ▸ rightl_any A 2 2 [a, b] w h (by omega) : Calls Tryd.prog 69 #[.slice A 2 2] w fun e w' => e = .returned (.int .i64 120) ∧ Below w.heap.size w w'))
  clear he
  have hA := ((((Blk.new w 28 #[.int .i64 a.k, .int .i64 a.n, .int .u64 a.u, .string a.s]).alloc (.cells #[.int .i64 b.k, .int .i64 b.n, .int .u64 b.u, .string b.s] 28)).alloc (.cells #[.int .i64 0, .int .i64 0, .int .u64 0, .string ⟨#[]⟩] 28)).alloc (.cells #[.int .i64 a.k, .int .i64 a.n, .int .u64 a.u, .string a.s, .int .i64 b.k, .int .i64 b.n, .int .u64 b.u, .string b.s] 28))
  have hB := (((Blk.new (w.alloc (.cells #[.int .i64 a.k, .int .i64 a.n, .int .u64 a.u, .string a.s] 28)) 28 #[.int .i64 b.k, .int .i64 b.n, .int .u64 b.u, .string b.s]).alloc (.cells #[.int .i64 0, .int .i64 0, .int .u64 0, .string ⟨#[]⟩] 28)).alloc (.cells #[.int .i64 a.k, .int .i64 a.n, .int .u64 a.u, .string a.s, .int .i64 b.k, .int .i64 b.n, .int .u64 b.u, .string b.s] 28))
  have hR := ((Blk.new ((w.alloc (.cells #[.int .i64 a.k, .int .i64 a.n, .int .u64 a.u, .string a.s] 28)).alloc (.cells #[.int .i64 b.k, .int .i64 b.n, .int .u64 b.u, .string b.s] 28)) 28 #[.int .i64 0, .int .i64 0, .int .u64 0, .string ⟨#[]⟩]).alloc (.cells #[.int .i64 a.k, .int .i64 a.n, .int .u64 a.u, .string a.s, .int .i64 b.k, .int .i64 b.n, .int .u64 b.u, .string b.s] 28))
  have hS := (Blk.new (((w.alloc (.cells #[.int .i64 a.k, .int .i64 a.n, .int .u64 a.u, .string a.s] 28)).alloc (.cells #[.int .i64 b.k, .int .i64 b.n, .int .u64 b.u, .string b.s] 28)).alloc (.cells #[.int .i64 0, .int .i64 0, .int .u64 0, .string ⟨#[]⟩] 28)) 28 #[.int .i64 a.k, .int .i64 a.n, .int .u64 a.u, .string a.s, .int .i64 b.k, .int .i64 b.n, .int .u64 b.u, .string b.s])
  have bb := (bl_al (bl_al (bl_al (bl_al (Below.refl w.heap.size w) (.cells #[.int .i64 a.k, .int .i64 a.n, .int .u64 a.u, .string a.s] 28)) (.cells #[.int .i64 b.k, .int .i64 b.n, .int .u64 b.u, .string b.s] 28)) (.cells #[.int .i64 0, .int .i64 0, .int .u64 0, .string ⟨#[]⟩] 28)) (.cells #[.int .i64 a.k, .int .i64 a.n, .int .u64 a.u, .string a.s, .int .i64 b.k, .int .i64 b.n, .int .u64 b.u, .string b.s] 28))
  simp only [World.size_alloc] at hB hR hS
  go_enter Tryd.func58, Tryd.ntmps58
  go_wp2_with fail
  generalize ((((w.alloc (.cells #[.int .i64 a.k, .int .i64 a.n, .int .u64 a.u, .string a.s] 28)).alloc (.cells #[.int .i64 b.k, .int .i64 b.n, .int .u64 b.u, .string b.s] 28)).alloc (.cells #[.int .i64 0, .int .i64 0, .int .u64 0, .string ⟨#[]⟩] 28)).alloc (.cells #[.int .i64 a.k, .int .i64 a.n, .int .u64 a.u, .string a.s, .int .i64 b.k, .int .i64 b.n, .int .u64 b.u, .string b.s] 28)) = w1 at *
  refine (HRI.out _ _ (rdv_two hS)).mono ?_
  rintro e w2 ⟨rfl, qw2⟩
  replace hA := hA.ca qw2
  replace hB := hB.ca qw2
  replace hR := hR.ca qw2
  replace hS := hS.ca qw2
  replace bb := bl_ca bb qw2
  clear qw2
  have KR := Lib.hid hR
  clear hR
  go_wp2_with (refine wpList_store_blk rfl 28 (.tmp 6) (.tmp 16) rfl (w.heap.size + 1 + 1) 28 _ _ rfl rfl KR.out rfl valI (one4 _ _ _ _) ?_; intro wz hZ gz)
  exact bodyPost_ret (res2 Tryd.results58 rfl rfl hZ Tryd.underlying28 rfl valI) rfl ⟨rfl, bl_gr bb gz (by omega)⟩
set_option maxRecDepth 100000 in
set_option maxHeartbeats 4000000 in
theorem held_2 (fn : FuncId) (is : Int → Bool) (hto : ∀ c w, Calls Tryd.prog fn #[.int .i64 c] w fun e w' => e = .returned (.bool (is c)) ∧ Below w.heap.size w w') (hent : ∀ (args : Array Value) (w : World), (callFunc fn args).run Tryd.prog w = .ok (.enter fn args) w) (a b : VV) (he : allE [a, b] = 0) (ka4 : (a.k == 4) = true) (ka0 : (a.k == 0) = false)  (w : World) : Calls Tryd.prog 58 #[.agg #[.int .i64 a.k, .int .i64 a.n, .int .u64 a.u, .string a.s], .agg #[.int .i64 b.k, .int .i64 b.n, .int .u64 b.u, .string b.s], .func (.func fn) #[] #[]] w fun e w' => e = .returned (resT (V0, 2)) ∧ Below w.heap.size w w' := by
  have HTO := Lib.hid hto
  have HENT := Lib.hid hent
  clear hto hent
  have HRI := Lib.hid (fun A w h => (he ▸ rightl_any A 2 2 [a, b] w h (by omega) : Calls Tryd.prog 69 #[.slice A 2 2] w fun e w' => e = .returned (.int .i64 0) ∧ Below w.heap.size w w'))
  clear he
  have hA := ((((Blk.new w 28 #[.int .i64 a.k, .int .i64 a.n, .int .u64 a.u, .string a.s]).alloc (.cells #[.int .i64 b.k, .int .i64 b.n, .int .u64 b.u, .string b.s] 28)).alloc (.cells #[.int .i64 0, .int .i64 0, .int .u64 0, .string ⟨#[]⟩] 28)).alloc (.cells #[.int .i64 a.k, .int .i64 a.n, .int .u64 a.u, .string a.s, .int .i64 b.k, .int .i64 b.n, .int .u64 b.u, .string b.s] 28))
  have hB := (((Blk.new (w.alloc (.cells #[.int .i64 a.k, .int .i64 a.n, .int .u64 a.u, .string a.s] 28)) 28 #[.int .i64 b.k, .int .i64 b.n, .int .u64 b.u, .string b.s]).alloc (.cells #[.int .i64 0, .int .i64 0, .int .u64 0, .string ⟨#[]⟩] 28)).alloc (.cells #[.int .i64 a.k, .int .i64 a.n, .int .u64 a.u, .string a.s, .int .i64 b.k, .int .i64 b.n, .int .u64 b.u, .string b.s] 28))
  have hR := ((Blk.new ((w.alloc (.cells #[.int .i64 a.k, .int .i64 a.n, .int .u64 a.u, .string a.s] 28)).alloc (.cells #[.int .i64 b.k, .int .i64 b.n, .int .u64 b.u, .string b.s] 28)) 28 #[.int .i64 0, .int .i64 0, .int .u64 0, .string ⟨#[]⟩]).alloc (.cells #[.int .i64 a.k, .int .i64 a.n, .int .u64 a.u, .string a.s, .int .i64 b.k, .int .i64 b.n, .int .u64 b.u, .string b.s] 28))
  have hS := (Blk.new (((w.alloc (.cells #[.int .i64 a.k, .int .i64 a.n, .int .u64 a.u, .string a.s] 28)).alloc (.cells #[.int .i64 b.k, .int .i64 b.n, .int .u64 b.u, .string b.s] 28)).alloc (.cells #[.int .i64 0, .int .i64 0, .int .u64 0, .string ⟨#[]⟩] 28)) 28 #[.int .i64 a.k, .int .i64 a.n, .int .u64 a.u, .string a.s, .int .i64 b.k, .int .i64 b.n, .int .u64 b.u, .string b.s])
  have bb := (bl_al (bl_al (bl_al (bl_al (Below.refl w.heap.size w) (.cells #[.int .i64 a.k, .int .i64 a.n, .int .u64 a.u, .string a.s] 28)) (.cells #[.int .i64 b.k, .int .i64 b.n, .int .u64 b.u, .string b.s] 28)) (.cells #[.int .i64 0, .int .i64 0, .int .u64 0, .string ⟨#[]⟩] 28)) (.cells #[.int .i64 a.k, .int .i64 a.n, .int .u64 a.u, .string a.s, .int .i64 b.k, .int .i64 b.n, .int .u64 b.u, .string b.s] 28))
  simp only [World.size_alloc] at hB hR hS
  go_enter Tryd.func58, Tryd.ntmps58
  go_wp2_with fail
  generalize ((((w.alloc (.cells #[.int .i64 a.k, .int .i64 a.n, .int .u64 a.u, .string a.s] 28)).alloc (.cells #[.int .i64 b.k, .int .i64 b.n, .int .u64 b.u, .string b.s] 28)).alloc (.cells #[.int .i64 0, .int .i64 0, .int .u64 0, .string ⟨#[]⟩] 28)).alloc (.cells #[.int .i64 a.k, .int .i64 a.n, .int .u64 a.u, .string a.s, .int .i64 b.k, .int .i64 b.n, .int .u64 b.u, .string b.s] 28)) = w1 at *
  refine (HRI.out _ _ (rdv_two hS)).mono ?_
  rintro e w2 ⟨rfl, qw2⟩
  replace hA := hA.ca qw2
  replace hB := hB.ca qw2
  replace hR := hR.ca qw2
  replace hS := hS.ca qw2
  replace bb := bl_ca bb qw2
  clear qw2
  have hA_0 : w2.cell? ⟨w.heap.size, 0, none⟩ = some (.int .i64 a.k) := hA.cell 0
  have hA_1 : w2.cell? ⟨w.heap.size, 1, none⟩ = some (.int .i64 a.n) := hA.cell 1
  have hA_2 : w2.cell? ⟨w.heap.size, 2, none⟩ = some (.int .u64 a.u) := hA.cell 2
  have hA_3 : w2.cell? ⟨w.heap.size, 3, none⟩ = some (.string a.s) := hA.cell 3
  have hB_0 : w2.cell? ⟨w.heap.size + 1, 0, none⟩ = some (.int .i64 b.k) := hB.cell 0
  have hB_1 : w2.cell? ⟨w.heap.size + 1, 1, none⟩ = some (.int .i64 b.n) := hB.cell 1
  have hB_2 : w2.cell? ⟨w.heap.size + 1, 2, none⟩ = some (.int .u64 b.u) := hB.cell 2
  have hB_3 : w2.cell? ⟨w.heap.size + 1, 3, none⟩ = some (.string b.s) := hB.cell 3
  have KR := Lib.hid hR
  clear hR
  go_wp2_with (refine wpList_store_blk rfl 28 (.tmp 6) (.tmp 46) rfl (w.heap.size + 1 + 1) 28 _ _ rfl rfl KR.out rfl valI (one4 _ _ _ _) ?_; intro wz hZ gz)
  exact bodyPost_ret (res2 Tryd.results58 rfl rfl hZ Tryd.underlying28 rfl valI) rfl ⟨rfl, bl_gr bb gz (by omega)⟩
set_option maxRecDepth 100000 in
set_option maxHeartbeats 4000000 in
theorem held_3a (fn : FuncId) (is : Int → Bool) (hto : ∀ c w, Calls Tryd.prog fn #[.int .i64 c] w fun e w' => e = .returned (.bool (is c)) ∧ Below w.heap.size w w') (hent : ∀ (args : Array Value) (w : World), (callFunc fn args).run Tryd.prog w = .ok (.enter fn args) w) (a b : VV) (he : allE [a, b] = 0) (ka4 : (a.k == 4) = false) (kb4 : (b.k == 4) = true) (ka0 : (a.k == 0) = true)  (w : World) : Calls Tryd.prog 58 #[.agg #[.int .i64 a.k, .int .i64 a.n, .int .u64 a.u, .string a.s], .agg #[.int .i64 b.k, .int .i64 b.n, .int .u64 b.u, .string b.s], .func (.func fn) #[] #[]] w fun e w' => e = .returned (resT (V0, 2)) ∧ Below w.heap.size w w' := by
  have HTO := Lib.hid hto
  have HENT := Lib.hid hent
  clear hto hent
  have HRI := Lib.hid (fun A w h => (he ▸ rightl_any A 2 2 [a, b] w h (by omega) : Calls Tryd.prog 69 #[.slice A 2 2] w fun e w' => e = .returned (.int .i64 0) ∧ Below w.heap.size w w'))
  clear he
  have hA := ((((Blk.new w 28 #[.int .i64 a.k, .int .i64 a.n, .int .u64 a.u, .string a.s]).alloc (.cells #[.int .i64 b.k, .int .i64 b.n, .int .u64 b.u, .string b.s] 28)).alloc (.cells #[.int .i64 0, .int .i64 0, .int .u64 0, .string ⟨#[]⟩] 28)).alloc (.cells #[.int .i64 a.k, .int .i64 a.n, .int .u64 a.u, .string a.s, .int .i64 b.k, .int .i64 b.n, .int .u64 b.u, .string b.s] 28))
  have hB := (((Blk.new (w.alloc (.cells #[.int .i64 a.k, .int .i64 a.n, .int .u64 a.u, .string a.s] 28)) 28 #[.int .i64 b.k, .int .i64 b.n, .int .u64 b.u, .string b.s]).alloc (.cells #[.int .i64 0, .int .i64 0, .int .u64 0, .string ⟨#[]⟩] 28)).alloc (.cells #[.int .i64 a.k, .int .i64 a.n, .int .u64 a.u, .string a.s, .int .i64 b.k, .int .i64 b.n, .int .u64 b.u, .string b.s] 28))
  have hR := ((Blk.new ((w.alloc (.cells #[.int .i64 a.k, .int .i64 a.n, .int .u64 a.u, .string a.s] 28)).alloc (.cells #[.int .i64 b.k, .int .i64 b.n, .int .u64 b.u, .string b.s] 28)) 28 #[.int .i64 0, .int .i64 0, .int .u64 0, .string ⟨#[]⟩]).alloc (.cells #[.int .i64 a.k, .int .i64 a.n, .int .u64 a.u, .string a.s, .int .i64 b.k, .int .i64 b.n, .int .u64 b.u, .string b.s] 28))
  have hS := (Blk.new (((w.alloc (.cells #[.int .i64 a.k, .int .i64 a.n, .int .u64 a.u, .string a.s] 28)).alloc (.cells #[.int .i64 b.k, .int .i64 b.n, .int .u64 b.u, .string b.s] 28)).alloc (.cells #[.int .i64 0, .int .i64 0, .int .u64 0, .string ⟨#[]⟩] 28)) 28 #[.int .i64 a.k, .int .i64 a.n, .int .u64 a.u, .string a.s, .int .i64 b.k, .int .i64 b.n, .int .u64 b.u, .string b.s])
  have bb := (bl_al (bl_al (bl_al (bl_al (Below.refl w.heap.size w) (.cells #[.int .i64 a.k, .int .i64 a.n, .int .u64 a.u, .string a.s] 28)) (.cells #[.int .i64 b.k, .int .i64 b.n, .int .u64 b.u, .string b.s] 28)) (.cells #[.int .i64 0, .int .i64 0, .int .u64 0, .string ⟨#[]⟩] 28)) (.cells #[.int .i64 a.k, .int .i64 a.n, .int .u64 a.u, .string a.s, .int .i64 b.k, .int .i64 b.n, .int .u64 b.u, .string b.s] 28))
  simp only [World.size_alloc] at hB hR hS
  go_enter Tryd.func58, Tryd.ntmps58
  go_wp2_with fail
  generalize ((((w.alloc (.cells #[.int .i64 a.k, .int .i64 a.n, .int .u64 a.u, .string a.s] 28)).alloc (.cells #[.int .i64 b.k, .int .i64 b.n, .int .u64 b.u, .string b.s] 28)).alloc (.cells #[.int .i64 0, .int .i64 0, .int .u64 0, .string ⟨#[]⟩] 28)).alloc (.cells #[.int .i64 a.k, .int .i64 a.n, .int .u64 a.u, .string a.s, .int .i64 b.k, .int .i64 b.n, .int .u64 b.u, .string b.s] 28)) = w1 at *
  refine (HRI.out _ _ (rdv_two hS)).mono ?_
  rintro e w2 ⟨rfl, qw2⟩
  replace hA := hA.ca qw2
  replace hB := hB.ca qw2
  replace hR := hR.ca qw2
  replace hS := hS.ca qw2
  replace bb := bl_ca bb qw2
  clear qw2
  have hA_0 : w2.cell? ⟨w.heap.size, 0, none⟩ = some (.int .i64 a.k) := hA.cell 0
  have hA_1 : w2.cell? ⟨w.heap.size, 1, none⟩ = some (.int .i64 a.n) := hA.cell 1
  have hA_2 : w2.cell? ⟨w.heap.size, 2, none⟩ = some (.int .u64 a.u) := hA.cell 2
  have hA_3 : w2.cell? ⟨w.heap.size, 3, none⟩ = some (.string a.s) := hA.cell 3
  have hB_0 : w2.cell? ⟨w.heap.size + 1, 0, none⟩ = some (.int .i64 b.k) := hB.cell 0
  have hB_1 : w2.cell? ⟨w.heap.size + 1, 1, none⟩ = some (.int .i64 b.n) := hB.cell 1
  have hB_2 : w2.cell? ⟨w.heap.size + 1, 2, none⟩ = some (.int .u64 b.u) := hB.cell 2
  have hB_3 : w2.cell? ⟨w.heap.size + 1, 3, none⟩ = some (.string b.s) := hB.cell 3
  have KR := Lib.hid hR
  clear hR
  go_wp2_with (refine wpList_store_blk rfl 28 (.tmp 6) (.tmp 46) rfl (w.heap.size + 1 + 1) 28 _ _ rfl rfl KR.out rfl valI (one4 _ _ _ _) ?_; intro wz hZ gz)
  exact bodyPost_ret (res2 Tryd.results58 rfl rfl hZ Tryd.underlying28 rfl valI) rfl ⟨rfl, bl_gr bb gz (by omega)⟩
set_option maxRecDepth 100000 in
set_option maxHeartbeats 4000000 in
theorem held_3b (fn : FuncId) (is : Int → Bool) (hto : ∀ c w, Calls Tryd.prog fn #[.int .i64 c] w fun e w' => e = .returned (.bool (is c)) ∧ Below w.heap.size w w') (hent : ∀ (args : Array Value) (w : World), (callFunc fn args).run Tryd.prog w = .ok (.enter fn args) w) (a b : VV) (he : allE [a, b] = 0) (ka4 : (a.k == 4) = false) (kb4 : (b.k == 4) = true) (ka0 : (a.k == 0) = false) (kb0 : (b.k == 0) = false)  (w : World) : Calls Tryd.prog 58 #[.agg #[.int .i64 a.k, .int .i64 a.n, .int .u64 a.u, .string a.s], .agg #[.int .i64 b.k, .int .i64 b.n, .int .u64 b.u, .string b.s], .func (.func fn) #[] #[]] w fun e w' => e = .returned (resT (V0, 2)) ∧ Below w.heap.size w w' := by
  have HTO := Lib.hid hto
  have HENT := Lib.hid hent
  clear hto hent
  have HRI := Lib.hid (fun A w h => (he ▸ rightl_any A 2 2 [a, b] w h (by omega) : Calls Tryd.prog 69 #[.slice A 2 2] w fun e w' => e = .returned (.int .i64 0) ∧ Below w.heap.size w w'))
  clear he
  have hA := ((((Blk.new w 28 #[.int .i64 a.k, .int .i64 a.n, .int .u64 a.u, .string a.s]).alloc (.cells #[.int .i64 b.k, .int .i64 b.n, .int .u64 b.u, .string b.s] 28)).alloc (.cells #[.int .i64 0, .int .i64 0, .int .u64 0, .string ⟨#[]⟩] 28)).alloc (.cells #[.int .i64 a.k, .int .i64 a.n, .int .u64 a.u, .string a.s, .int .i64 b.k, .int .i64 b.n, .int .u64 b.u, .string b.s] 28))
  have hB := (((Blk.new (w.alloc (.cells #[.int .i64 a.k, .int .i64 a.n, .int .u64 a.u, .string a.s] 28)) 28 #[.int .i64 b.k, .int .i64 b.n, .int .u64 b.u, .string b.s]).alloc (.cells #[.int .i64 0, .int .i64 0, .int .u64 0, .string ⟨#[]⟩] 28)).alloc (.cells #[.int .i64 a.k, .int .i64 a.n, .int .u64 a.u, .string a.s, .int .i64 b.k, .int .i64 b.n, .int .u64 b.u, .string b.s] 28))
  have hR := ((Blk.new ((w.alloc (.cells #[.int .i64 a.k, .int .i64 a.n, .int .u64 a.u, .string a.s] 28)).alloc (.cells #[.int .i64 b.k, .int .i64 b.n, .int .u64 b.u, .string b.s] 28)) 28 #[.int .i64 0, .int .i64 0, .int .u64 0, .string ⟨#[]⟩]).alloc (.cells #[.int .i64 a.k, .int .i64 a.n, .int .u64 a.u, .string a.s, .int .i64 b.k, .int .i64 b.n, .int .u64 b.u, .string b.s] 28))
  have hS := (Blk.new (((w.alloc (.cells #[.int .i64 a.k, .int .i64 a.n, .int .u64 a.u, .string a.s] 28)).alloc (.cells #[.int .i64 b.k, .int .i64 b.n, .int .u64 b.u, .string b.s] 28)).alloc (.cells #[.int .i64 0, .int .i64 0, .int .u64 0, .string ⟨#[]⟩] 28)) 28 #[.int .i64 a.k, .int .i64 a.n, .int .u64 a.u, .string a.s, .int .i64 b.k, .int .i64 b.n, .int .u64 b.u, .string b.s])
  have bb := (bl_al (bl_al (bl_al (bl_al (Below.refl w.heap.size w) (.cells #[.int .i64 a.k, .int .i64 a.n, .int .u64 a.u, .string a.s] 28)) (.cells #[.int .i64 b.k, .int .i64 b.n, .int .u64 b.u, .string b.s] 28)) (.cells #[.int .i64 0, .int .i64 0, .int .u64 0, .string ⟨#[]⟩] 28)) (.cells #[.int .i64 a.k, .int .i64 a.n, .int .u64 a.u, .string a.s, .int .i64 b.k, .int .i64 b.n, .int .u64 b.u, .string b.s] 28))
  simp only [World.size_alloc] at hB hR hS
  go_enter Tryd.func58, Tryd.ntmps58
  go_wp2_with fail
  generalize ((((w.alloc (.cells #[.int .i64 a.k, .int .i64 a.n, .int .u64 a.u, .string a.s] 28)).alloc (.cells #[.int .i64 b.k, .int .i64 b.n, .int .u64 b.u, .string b.s] 28)).alloc (.cells #[.int .i64 0, .int .i64 0, .int .u64 0, .string ⟨#[]⟩] 28)).alloc (.cells #[.int .i64 a.k, .int .i64 a.n, .int .u64 a.u, .string a.s, .int .i64 b.k, .int .i64 b.n, .int .u64 b.u, .string b.s] 28)) = w1 at *
  refine (HRI.out _ _ (rdv_two hS)).mono ?_
  rintro e w2 ⟨rfl, qw2⟩
  replace hA := hA.ca qw2
  replace hB := hB.ca qw2
  replace hR := hR.ca qw2
  replace hS := hS.ca qw2
  replace bb := bl_ca bb qw2
  clear qw2
  have hA_0 : w2.cell? ⟨w.heap.size, 0, none⟩ = some (.int .i64 a.k) := hA.cell 0
  have hA_1 : w2.cell? ⟨w.heap.size, 1, none⟩ = some (.int .i64 a.n) := hA.cell 1
  have hA_2 : w2.cell? ⟨w.heap.size, 2, none⟩ = some (.int .u64 a.u) := hA.cell 2
  have hA_3 : w2.cell? ⟨w.heap.size, 3, none⟩ = some (.string a.s) := hA.cell 3
  have hB_0 : w2.cell? ⟨w.heap.size + 1, 0, none⟩ = some (.int .i64 b.k) := hB.cell 0
  have hB_1 : w2.cell? ⟨w.heap.size + 1, 1, none⟩ = some (.int .i64 b.n) := hB.cell 1
  have hB_2 : w2.cell? ⟨w.heap.size + 1, 2, none⟩ = some (.int .u64 b.u) := hB.cell 2
  have hB_3 : w2.cell? ⟨w.heap.size + 1, 3, none⟩ = some (.string b.s) := hB.cell 3
  have KR := Lib.hid hR
  clear hR
  go_wp2_with (refine wpList_store_blk rfl 28 (.tmp 6) (.tmp 46) rfl (w.heap.size + 1 + 1) 28 _ _ rfl rfl KR.out rfl valI (one4 _ _ _ _) ?_; intro wz hZ gz)
  exact bodyPost_ret (res2 Tryd.results58 rfl rfl hZ Tryd.underlying28 rfl valI) rfl ⟨rfl, bl_gr bb gz (by omega)⟩
set_option maxRecDepth 100000 in
set_option maxHeartbeats 4000000 in
theorem held_4 (fn : FuncId) (is : Int → Bool) (hto : ∀ c w, Calls Tryd.prog fn #[.int .i64 c] w fun e w' => e = .returned (.bool (is c)) ∧ Below w.heap.size w w') (hent : ∀ (args : Array Value) (w : World), (callFunc fn args).run Tryd.prog w = .ok (.enter fn args) w) (a b : VV) (he : allE [a, b] = 0) (ka4 : (a.k == 4) = false) (kb4 : (b.k == 4) = false) (ka0 : (a.k == 0) = true)  (w : World) : Calls Tryd.prog 58 #[.agg #[.int .i64 a.k, .int .i64 a.n, .int .u64 a.u, .string a.s], .agg #[.int .i64 b.k, .int .i64 b.n, .int .u64 b.u, .string b.s], .func (.func fn) #[] #[]] w fun e w' => e = .returned (resT (V0, 0)) ∧ Below w.heap.size w w' := by
  have HTO := Lib.hid hto
  have HENT := Lib.hid hent
  clear hto hent
  have HRI := Lib.hid (fun A w h => (he ▸ rightl_any A 2 2 [a, b] w h (by omega) : Calls Tryd.prog 69 #[.slice A 2 2] w fun e w' => e = .returned (.int .i64 0) ∧ Below w.heap.size w w'))
  clear he
  have hA := ((((Blk.new w 28 #[.int .i64 a.k, .int .i64 a.n, .int .u64 a.u, .string a.s]).alloc (.cells #[.int .i64 b.k, .int .i64 b.n, .int .u64 b.u, .string b.s] 28)).alloc (.cells #[.int .i64 0, .int .i64 0, .int .u64 0, .string ⟨#[]⟩] 28)).alloc (.cells #[.int .i64 a.k, .int .i64 a.n, .int .u64 a.u, .string a.s, .int .i64 b.k, .int .i64 b.n, .int .u64 b.u, .string b.s] 28))
  have hB := (((Blk.new (w.alloc (.cells #[.int .i64 a.k, .int .i64 a.n, .int .u64 a.u, .string a.s] 28)) 28 #[.int .i64 b.k, .int .i64 b.n, .int .u64 b.u, .string b.s]).alloc (.cells #[.int .i64 0, .int .i64 0, .int .u64 0, .string ⟨#[]⟩] 28)).alloc (.cells #[.int .i64 a.k, .int .i64 a.n, .int .u64 a.u, .string a.s, .int .i64 b.k, .int .i64 b.n, .int .u64 b.u, .string b.s] 28))
  have hR := ((Blk.new ((w.alloc (.cells #[.int .i64 a.k, .int .i64 a.n, .int .u64 a.u, .string a.s] 28)).alloc (.cells #[.int .i64 b.k, .int .i64 b.n, .int .u64 b.u, .string b.s] 28)) 28 #[.int .i64 0, .int .i64 0, .int .u64 0, .string ⟨#[]⟩]).alloc (.cells #[.int .i64 a.k, .int .i64 a.n, .int .u64 a.u, .string a.s, .int .i64 b.k, .int .i64 b.n, .int .u64 b.u, .string b.s] 28))
  have hS := (Blk.new (((w.alloc (.cells #[.int .i64 a.k, .int .i64 a.n, .int .u64 a.u, .string a.s] 28)).alloc (.cells #[.int .i64 b.k, .int .i64 b.n, .int .u64 b.u, .string b.s] 28)).alloc (.cells #[.int .i64 0, .int .i64 0, .int .u64 0, .string ⟨#[]⟩] 28)) 28 #[.int .i64 a.k, .int .i64 a.n, .int .u64 a.u, .string a.s, .int .i64 b.k, .int .i64 b.n, .int .u64 b.u, .string b.s])
  have bb := (bl_al (bl_al (bl_al (bl_al (Below.refl w.heap.size w) (.cells #[.int .i64 a.k, .int .i64 a.n, .int .u64 a.u, .string a.s] 28)) (.cells #[.int .i64 b.k, .int .i64 b.n, .int .u64 b.u, .string b.s] 28)) (.cells #[.int .i64 0, .int .i64 0, .int .u64 0, .string ⟨#[]⟩] 28)) (.cells #[.int .i64 a.k, .int .i64 a.n, .int .u64 a.u, .string a.s, .int .i64 b.k, .int .i64 b.n, .int .u64 b.u, .string b.s] 28))
  simp only [World.size_alloc] at hB hR hS
  go_enter Tryd.func58, Tryd.ntmps58
  go_wp2_with fail
  generalize ((((w.alloc (.cells #[.int .i64 a.k, .int .i64 a.n, .int .u64 a.u, .string a.s] 28)).alloc (.cells #[.int .i64 b.k, .int .i64 b.n, .int .u64 b.u, .string b.s] 28)).alloc (.cells #[.int .i64 0, .int .i64 0, .int .u64 0, .string ⟨#[]⟩] 28)).alloc (.cells #[.int .i64 a.k, .int .i64 a.n, .int .u64 a.u, .string a.s, .int .i64 b.k, .int .i64 b.n, .int .u64 b.u, .string b.s] 28)) = w1 at *
  refine (HRI.out _ _ (rdv_two hS)).mono ?_
  rintro e w2 ⟨rfl, qw2⟩
  replace hA := hA.ca qw2
  replace hB := hB.ca qw2
  replace hR := hR.ca qw2
  replace hS := hS.ca qw2
  replace bb := bl_ca bb qw2
  clear qw2
  have hA_0 : w2.cell? ⟨w.heap.size, 0, none⟩ = some (.int .i64 a.k) := hA.cell 0
  have hA_1 : w2.cell? ⟨w.heap.size, 1, none⟩ = some (.int .i64 a.n) := hA.cell 1
  have hA_2 : w2.cell? ⟨w.heap.size, 2, none⟩ = some (.int .u64 a.u) := hA.cell 2
  have hA_3 : w2.cell? ⟨w.heap.size, 3, none⟩ = some (.string a.s) := hA.cell 3
  have hB_0 : w2.cell? ⟨w.heap.size + 1, 0, none⟩ = some (.int .i64 b.k) := hB.cell 0
  have hB_1 : w2.cell? ⟨w.heap.size + 1, 1, none⟩ = some (.int .i64 b.n) := hB.cell 1
  have hB_2 : w2.cell? ⟨w.heap.size + 1, 2, none⟩ = some (.int .u64 b.u) := hB.cell 2
  have hB_3 : w2.cell? ⟨w.heap.size + 1, 3, none⟩ = some (.string b.s) := hB.cell 3
  go_wp2_with fail
  clear hA_0 hA_1 hA_2 hA_3 hB_0 hB_1 hB_2 hB_3
  refine (vnull_any _).mono ?_
  rintro e w3 ⟨rfl, qw3⟩
  replace hA := hA.ca qw3
  replace hB := hB.ca qw3
  replace hR := hR.ca qw3
  replace hS := hS.ca qw3
  replace bb := bl_ca bb qw3
  clear qw3
  have KR := Lib.hid hR
  clear hR
  go_wp2_with (refine wpList_store_blk rfl 28 (.tmp 6) (.tmp 49) rfl (w.heap.size + 1 + 1) 28 _ _ rfl rfl KR.out rfl valI (one4 _ _ _ _) ?_; intro wz hZ gz)
  exact bodyPost_ret (res2 Tryd.results58 rfl rfl hZ Tryd.underlying28 rfl valI) rfl ⟨rfl, bl_gr bb gz (by omega)⟩
set_option maxRecDepth 100000 in
set_option maxHeartbeats 4000000 in
theorem held_5 (fn : FuncId) (is : Int → Bool) (hto : ∀ c w, Calls Tryd.prog fn #[.int .i64 c] w fun e w' => e = .returned (.bool (is c)) ∧ Below w.heap.size w w') (hent : ∀ (args : Array Value) (w : World), (callFunc fn args).run Tryd.prog w = .ok (.enter fn args) w) (a b : VV) (he : allE [a, b] = 0) (ka4 : (a.k == 4) = false) (kb4 : (b.k == 4) = false) (ka0 : (a.k == 0) = false) (kb0 : (b.k == 0) = true)  (w : World) : Calls Tryd.prog 58 #[.agg #[.int .i64 a.k, .int .i64 a.n, .int .u64 a.u, .string a.s], .agg #[.int .i64 b.k, .int .i64 b.n, .int .u64 b.u, .string b.s], .func (.func fn) #[] #[]] w fun e w' => e = .returned (resT (V0, 0)) ∧ Below w.heap.size w w' := by
  have HTO := Lib.hid hto
  have HENT := Lib.hid hent
  clear hto hent
  have HRI := Lib.hid (fun A w h => (he ▸ rightl_any A 2 2 [a, b] w h (by omega) : Calls Tryd.prog 69 #[.slice A 2 2] w fun e w' => e = .returned (.int .i64 0) ∧ Below w.heap.size w w'))
  clear he
  have hA := ((((Blk.new w 28 #[.int .i64 a.k, .int .i64 a.n, .int .u64 a.u, .string a.s]).alloc (.cells #[.int .i64 b.k, .int .i64 b.n, .int .u64 b.u, .string b.s] 28)).alloc (.cells #[.int .i64 0, .int .i64 0, .int .u64 0, .string ⟨#[]⟩] 28)).alloc (.cells #[.int .i64 a.k, .int .i64 a.n, .int .u64 a.u, .string a.s, .int .i64 b.k, .int .i64 b.n, .int .u64 b.u, .string b.s] 28))
  have hB := (((Blk.new (w.alloc (.cells #[.int .i64 a.k, .int .i64 a.n, .int .u64 a.u, .string a.s] 28)) 28 #[.int .i64 b.k, .int .i64 b.n, .int .u64 b.u, .string b.s]).alloc (.cells #[.int .i64 0, .int .i64 0, .int .u64 0, .string ⟨#[]⟩] 28)).alloc (.cells #[.int .i64 a.k, .int .i64 a.n, .int .u64 a.u, .string a.s, .int .i64 b.k, .int .i64 b.n, .int .u64 b.u, .string b.s] 28))
  have hR := ((Blk.new ((w.alloc (.cells #[.int .i64 a.k, .int .i64 a.n, .int .u64 a.u, .string a.s] 28)).alloc (.cells #[.int .i64 b.k, .int .i64 b.n, .int .u64 b.u, .string b.s] 28)) 28 #[.int .i64 0, .int .i64 0, .int .u64 0, .string ⟨#[]⟩]).alloc (.cells #[.int .i64 a.k, .int .i64 a.n, .int .u64 a.u, .string a.s, .int .i64 b.k, .int .i64 b.n, .int .u64 b.u, .string b.s] 28))
  have hS := (Blk.new (((w.alloc (.cells #[.int .i64 a.k, .int .i64 a.n, .int .u64 a.u, .string a.s] 28)).alloc (.cells #[.int .i64 b.k, .int .i64 b.n, .int .u64 b.u, .string b.s] 28)).alloc (.cells #[.int .i64 0, .int .i64 0, .int .u64 0, .string ⟨#[]⟩] 28)) 28 #[.int .i64 a.k, .int .i64 a.n, .int .u64 a.u, .string a.s, .int .i64 b.k, .int .i64 b.n, .int .u64 b.u, .string b.s])
  have bb := (bl_al (bl_al (bl_al (bl_al (Below.refl w.heap.size w) (.cells #[.int .i64 a.k, .int .i64 a.n, .int .u64 a.u, .string a.s] 28)) (.cells #[.int .i64 b.k, .int .i64 b.n, .int .u64 b.u, .string b.s] 28)) (.cells #[.int .i64 0, .int .i64 0, .int .u64 0, .string ⟨#[]⟩] 28)) (.cells #[.int .i64 a.k, .int .i64 a.n, .int .u64 a.u, .string a.s, .int .i64 b.k, .int .i64 b.n, .int .u64 b.u, .string b.s] 28))
  simp only [World.size_alloc] at hB hR hS
  go_enter Tryd.func58, Tryd.ntmps58
  go_wp2_with fail
  generalize ((((w.alloc (.cells #[.int .i64 a.k, .int .i64 a.n, .int .u64 a.u, .string a.s] 28)).alloc (.cells #[.int .i64 b.k, .int .i64 b.n, .int .u64 b.u, .string b.s] 28)).alloc (.cells #[.int .i64 0, .int .i64 0, .int .u64 0, .string ⟨#[]⟩] 28)).alloc (.cells #[.int .i64 a.k, .int .i64 a.n, .int .u64 a.u, .string a.s, .int .i64 b.k, .int .i64 b.n, .int .u64 b.u, .string b.s] 28)) = w1 at *
  refine (HRI.out _ _ (rdv_two hS)).mono ?_
  rintro e w2 ⟨rfl, qw2⟩
  replace hA := hA.ca qw2
  replace hB := hB.ca qw2
  replace hR := hR.ca qw2
  replace hS := hS.ca qw2
  replace bb := bl_ca bb qw2
  clear qw2
  have hA_0 : w2.cell? ⟨w.heap.size, 0, none⟩ = some (.int .i64 a.k) := hA.cell 0
  have hA_1 : w2.cell? ⟨w.heap.size, 1, none⟩ = some (.int .i64 a.n) := hA.cell 1
  have hA_2 : w2.cell? ⟨w.heap.size, 2, none⟩ = some (.int .u64 a.u) := hA.cell 2
  have hA_3 : w2.cell? ⟨w.heap.size, 3, none⟩ = some (.string a.s) := hA.cell 3
  have hB_0 : w2.cell? ⟨w.heap.size + 1, 0, none⟩ = some (.int .i64 b.k) := hB.cell 0
  have hB_1 : w2.cell? ⟨w.heap.size + 1, 1, none⟩ = some (.int .i64 b.n) := hB.cell 1
  have hB_2 : w2.cell? ⟨w.heap.size + 1, 2, none⟩ = some (.int .u64 b.u) := hB.cell 2
  have hB_3 : w2.cell? ⟨w.heap.size + 1, 3, none⟩ = some (.string b.s) := hB.cell 3
  go_wp2_with fail
  clear hA_0 hA_1 hA_2 hA_3 hB_0 hB_1 hB_2 hB_3
  refine (vnull_any _).mono ?_
  rintro e w3 ⟨rfl, qw3⟩
  replace hA := hA.ca qw3
  replace hB := hB.ca qw3
  replace hR := hR.ca qw3
  replace hS := hS.ca qw3
  replace bb := bl_ca bb qw3
  clear qw3
  have KR := Lib.hid hR
  clear hR
  go_wp2_with (refine wpList_store_blk rfl 28 (.tmp 6) (.tmp 49) rfl (w.heap.size + 1 + 1) 28 _ _ rfl rfl KR.out rfl valI (one4 _ _ _ _) ?_; intro wz hZ gz)
  exact bodyPost_ret (res2 Tryd.results58 rfl rfl hZ Tryd.underlying28 rfl valI) rfl ⟨rfl, bl_gr bb gz (by omega)⟩
set_option maxRecDepth 100000 in
set_option maxHeartbeats 4000000 in
theorem held_6 (fn : FuncId) (is : Int → Bool) (hto : ∀ c w, Calls Tryd.prog fn #[.int .i64 c] w fun e w' => e = .returned (.bool (is c)) ∧ Below w.heap.size w w') (hent : ∀ (args : Array Value) (w : World), (callFunc fn args).run Tryd.prog w = .ok (.enter fn args) w) (a b : VV) (he : allE [a, b] = 0) (ka4 : (a.k == 4) = false) (kb4 : (b.k == 4) = false) (ka0 : (a.k == 0) = false) (kb0 : (b.k == 0) = false) (kab : (a.k != b.k) = true)  (w : World) : Calls Tryd.prog 58 #[.agg #[.int .i64 a.k, .int .i64 a.n, .int .u64 a.u, .string a.s], .agg #[.int .i64 b.k, .int .i64 b.n, .int .u64 b.u, .string b.s], .func (.func fn) #[] #[]] w fun e w' => e = .returned (resT (V0, 2)) ∧ Below w.heap.size w w' := by
  have HTO := Lib.hid hto
  have HENT := Lib.hid hent
  clear hto hent
  have HRI := Lib.hid (fun A w h => (he ▸ rightl_any A 2 2 [a, b] w h (by omega) : Calls Tryd.prog 69 #[.slice A 2 2] w fun e w' => e = .returned (.int .i64 0) ∧ Below w.heap.size w w'))
  clear he
  have hA := ((((Blk.new w 28 #[.int .i64 a.k, .int .i64 a.n, .int .u64 a.u, .string a.s]).alloc (.cells #[.int .i64 b.k, .int .i64 b.n, .int .u64 b.u, .string b.s] 28)).alloc (.cells #[.int .i64 0, .int .i64 0, .int .u64 0, .string ⟨#[]⟩] 28)).alloc (.cells #[.int .i64 a.k, .int .i64 a.n, .int .u64 a.u, .string a.s, .int .i64 b.k, .int .i64 b.n, .int .u64 b.u, .string b.s] 28))
  have hB := (((Blk.new (w.alloc (.cells #[.int .i64 a.k, .int .i64 a.n, .int .u64 a.u, .string a.s] 28)) 28 #[.int .i64 b.k, .int .i64 b.n, .int .u64 b.u, .string b.s]).alloc (.cells #[.int .i64 0, .int .i64 0, .int .u64 0, .string ⟨#[]⟩] 28)).alloc (.cells #[.int .i64 a.k, .int .i64 a.n, .int .u64 a.u, .string a.s, .int .i64 b.k, .int .i64 b.n, .int .u64 b.u, .string b.s] 28))
  have hR := ((Blk.new ((w.alloc (.cells #[.int .i64 a.k, .int .i64 a.n, .int .u64 a.u, .string a.s] 28)).alloc (.cells #[.int .i64 b.k, .int .i64 b.n, .int .u64 b.u, .string b.s] 28)) 28 #[.int .i64 0, .int .i64 0, .int .u64 0, .string ⟨#[]⟩]).alloc (.cells #[.int .i64 a.k, .int .i64 a.n, .int .u64 a.u, .string a.s, .int .i64 b.k, .int .i64 b.n, .int .u64 b.u, .string b.s] 28))
  have hS := (Blk.new (((w.alloc (.cells #[.int .i64 a.k, .int .i64 a.n, .int .u64 a.u, .string a.s] 28)).alloc (.cells #[.int .i64 b.k, .int .i64 b.n, .int .u64 b.u, .string b.s] 28)).alloc (.cells #[.int .i64 0, .int .i64 0, .int .u64 0, .string ⟨#[]⟩] 28)) 28 #[.int .i64 a.k, .int .i64 a.n, .int .u64 a.u, .string a.s, .int .i64 b.k, .int .i64 b.n, .int .u64 b.u, .string b.s])
  have bb := (bl_al (bl_al (bl_al (bl_al (Below.refl w.heap.size w) (.cells #[.int .i64 a.k, .int .i64 a.n, .int .u64 a.u, .string a.s] 28)) (.cells #[.int .i64 b.k, .int .i64 b.n, .int .u64 b.u, .string b.s] 28)) (.cells #[.int .i64 0, .int .i64 0, .int .u64 0, .string ⟨#[]⟩] 28)) (.cells #[.int .i64 a.k, .int .i64 a.n, .int .u64 a.u, .string a.s, .int .i64 b.k, .int .i64 b.n, .int .u64 b.u, .string b.s] 28))
  simp only [World.size_alloc] at hB hR hS
  go_enter Tryd.func58, Tryd.ntmps58
  go_wp2_with fail
  generalize ((((w.alloc (.cells #[.int .i64 a.k, .int .i64 a.n, .int .u64 a.u, .string a.s] 28)).alloc (.cells #[.int .i64 b.k, .int .i64 b.n, .int .u64 b.u, .string b.s] 28)).alloc (.cells #[.int .i64 0, .int .i64 0, .int .u64 0, .string ⟨#[]⟩] 28)).alloc (.cells #[.int .i64 a.k, .int .i64 a.n, .int .u64 a.u, .string a.s, .int .i64 b.k, .int .i64 b.n, .int .u64 b.u, .string b.s] 28)) = w1 at *
  refine (HRI.out _ _ (rdv_two hS)).mono ?_
  rintro e w2 ⟨rfl, qw2⟩
  replace hA := hA.ca qw2
  replace hB := hB.ca qw2
  replace hR := hR.ca qw2
  replace hS := hS.ca qw2
  replace bb := bl_ca bb qw2
  clear qw2
  have hA_0 : w2.cell? ⟨w.heap.size, 0, none⟩ = some (.int .i64 a.k) := hA.cell 0
  have hA_1 : w2.cell? ⟨w.heap.size, 1, none⟩ = some (.int .i64 a.n) := hA.cell 1
  have hA_2 : w2.cell? ⟨w.heap.size, 2, none⟩ = some (.int .u64 a.u) := hA.cell 2
  have hA_3 : w2.cell? ⟨w.heap.size, 3, none⟩ = some (.string a.s) := hA.cell 3
  have hB_0 : w2.cell? ⟨w.heap.size + 1, 0, none⟩ = some (.int .i64 b.k) := hB.cell 0
  have hB_1 : w2.cell? ⟨w.heap.size + 1, 1, none⟩ = some (.int .i64 b.n) := hB.cell 1
  have hB_2 : w2.cell? ⟨w.heap.size + 1, 2, none⟩ = some (.int .u64 b.u) := hB.cell 2
  have hB_3 : w2.cell? ⟨w.heap.size + 1, 3, none⟩ = some (.string b.s) := hB.cell 3
  have KR := Lib.hid hR
  clear hR
  go_wp2_with (refine wpList_store_blk rfl 28 (.tmp 6) (.tmp 46) rfl (w.heap.size + 1 + 1) 28 _ _ rfl rfl KR.out rfl valI (one4 _ _ _ _) ?_; intro wz hZ gz)
  exact bodyPost_ret (res2 Tryd.results58 rfl rfl hZ Tryd.underlying28 rfl valI) rfl ⟨rfl, bl_gr bb gz (by omega)⟩
set_option maxRecDepth 100000 in
set_option maxHeartbeats 4000000 in
theorem held_7 (fn : FuncId) (is : Int → Bool) (hto : ∀ c w, Calls Tryd.prog fn #[.int .i64 c] w fun e w' => e = .returned (.bool (is c)) ∧ Below w.heap.size w w') (hent : ∀ (args : Array Value) (w : World), (callFunc fn args).run Tryd.prog w = .ok (.enter fn args) w) (a b : VV) (he : allE [a, b] = 0) (ka4 : (a.k == 4) = false) (kb4 : (b.k == 4) = false) (ka0 : (a.k == 0) = false) (kb0 : (b.k == 0) = false) (kab : (a.k != b.k) = false)  (w : World) : Calls Tryd.prog 58 #[.agg #[.int .i64 a.k, .int .i64 a.n, .int .u64 a.u, .string a.s], .agg #[.int .i64 b.k, .int .i64 b.n, .int .u64 b.u, .string b.s], .func (.func fn) #[] #[]] w fun e w' => e = .returned (resT (boolV (is (cmpV a b)), 0)) ∧ Below w.heap.size w w' := by
  have HTO := Lib.hid hto
  have HENT := Lib.hid hent
  clear hto hent
  have HRI := Lib.hid (fun A w h => (he ▸ rightl_any A 2 2 [a, b] w h (by omega) : Calls Tryd.prog 69 #[.slice A 2 2] w fun e w' => e = .returned (.int .i64 0) ∧ Below w.heap.size w w'))
  clear he
  have hA := ((((Blk.new w 28 #[.int .i64 a.k, .int .i64 a.n, .int .u64 a.u, .string a.s]).alloc (.cells #[.int .i64 b.k, .int .i64 b.n, .int .u64 b.u, .string b.s] 28)).alloc (.cells #[.int .i64 0, .int .i64 0, .int .u64 0, .string ⟨#[]⟩] 28)).alloc (.cells #[.int .i64 a.k, .int .i64 a.n, .int .u64 a.u, .string a.s, .int .i64 b.k, .int .i64 b.n, .int .u64 b.u, .string b.s] 28))
  have hB := (((Blk.new (w.alloc (.cells #[.int .i64 a.k, .int .i64 a.n, .int .u64 a.u, .string a.s] 28)) 28 #[.int .i64 b.k, .int .i64 b.n, .int .u64 b.u, .string b.s]).alloc (.cells #[.int .i64 0, .int .i64 0, .int .u64 0, .string ⟨#[]⟩] 28)).alloc (.cells #[.int .i64 a.k, .int .i64 a.n, .int .u64 a.u, .string a.s, .int .i64 b.k, .int .i64 b.n, .int .u64 b.u, .string b.s] 28))
  have hR := ((Blk.new ((w.alloc (.cells #[.int .i64 a.k, .int .i64 a.n, .int .u64 a.u, .string a.s] 28)).alloc (.cells #[.int .i64 b.k, .int .i64 b.n, .int .u64 b.u, .string b.s] 28)) 28 #[.int .i64 0, .int .i64 0, .int .u64 0, .string ⟨#[]⟩]).alloc (.cells #[.int .i64 a.k, .int .i64 a.n, .int .u64 a.u, .string a.s, .int .i64 b.k, .int .i64 b.n, .int .u64 b.u, .string b.s] 28))
  have hS := (Blk.new (((w.alloc (.cells #[.int .i64 a.k, .int .i64 a.n, .int .u64 a.u, .string a.s] 28)).alloc (.cells #[.int .i64 b.k, .int .i64 b.n, .int .u64 b.u, .string b.s] 28)).alloc (.cells #[.int .i64 0, .int .i64 0, .int .u64 0, .string ⟨#[]⟩] 28)) 28 #[.int .i64 a.k, .int .i64 a.n, .int .u64 a.u, .string a.s, .int .i64 b.k, .int .i64 b.n, .int .u64 b.u, .string b.s])
  have bb := (bl_al (bl_al (bl_al (bl_al (Below.refl w.heap.size w) (.cells #[.int .i64 a.k, .int .i64 a.n, .int .u64 a.u, .string a.s] 28)) (.cells #[.int .i64 b.k, .int .i64 b.n, .int .u64 b.u, .string b.s] 28)) (.cells #[.int .i64 0, .int .i64 0, .int .u64 0, .string ⟨#[]⟩] 28)) (.cells #[.int .i64 a.k, .int .i64 a.n, .int .u64 a.u, .string a.s, .int .i64 b.k, .int .i64 b.n, .int .u64 b.u, .string b.s] 28))
  simp only [World.size_alloc] at hB hR hS
  go_enter Tryd.func58, Tryd.ntmps58
  go_wp2_with fail
  generalize ((((w.alloc (.cells #[.int .i64 a.k, .int .i64 a.n, .int .u64 a.u, .string a.s] 28)).alloc (.cells #[.int .i64 b.k, .int .i64 b.n, .int .u64 b.u, .string b.s] 28)).alloc (.cells #[.int .i64 0, .int .i64 0, .int .u64 0, .string ⟨#[]⟩] 28)).alloc (.cells #[.int .i64 a.k, .int .i64 a.n, .int .u64 a.u, .string a.s, .int .i64 b.k, .int .i64 b.n, .int .u64 b.u, .string b.s] 28)) = w1 at *
  refine (HRI.out _ _ (rdv_two hS)).mono ?_
  rintro e w2 ⟨rfl, qw2⟩
  replace hA := hA.ca qw2
  replace hB := hB.ca qw2
  replace hR := hR.ca qw2
  replace hS := hS.ca qw2
  replace bb := bl_ca bb qw2
  clear qw2
  have hA_0 : w2.cell? ⟨w.heap.size, 0, none⟩ = some (.int .i64 a.k) := hA.cell 0
  have hA_1 : w2.cell? ⟨w.heap.size, 1, none⟩ = some (.int .i64 a.n) := hA.cell 1
  have hA_2 : w2.cell? ⟨w.heap.size, 2, none⟩ = some (.int .u64 a.u) := hA.cell 2
  have hA_3 : w2.cell? ⟨w.heap.size, 3, none⟩ = some (.string a.s) := hA.cell 3
  have hB_0 : w2.cell? ⟨w.heap.size + 1, 0, none⟩ = some (.int .i64 b.k) := hB.cell 0
  have hB_1 : w2.cell? ⟨w.heap.size + 1, 1, none⟩ = some (.int .i64 b.n) := hB.cell 1
  have hB_2 : w2.cell? ⟨w.heap.size + 1, 2, none⟩ = some (.int .u64 b.u) := hB.cell 2
  have hB_3 : w2.cell? ⟨w.heap.size + 1, 3, none⟩ = some (.string b.s) := hB.cell 3
  go_wp2_with fail
  clear hA_0 hA_1 hA_2 hA_3 hB_0 hB_1 hB_2 hB_3
  refine (compare_any a b _).mono ?_
  rintro e w3 ⟨rfl, qw3⟩
  replace hA := hA.ca qw3
  replace hB := hB.ca qw3
  replace hR := hR.ca qw3
  replace hS := hS.ca qw3
  replace bb := bl_ca bb qw3
  have hent2 := HENT.out
  clear qw3
  go_wp2_with fail
  refine (HTO.out _ _).mono ?_
  rintro e w4 ⟨rfl, qw4⟩
  replace hA := hA.ca qw4
  replace hB := hB.ca qw4
  replace hR := hR.ca qw4
  replace hS := hS.ca qw4
  replace bb := bl_ca bb qw4
  clear hent2
  clear qw4
  go_wp2_with fail
  refine (vbool_any _ _).mono ?_
  rintro e w5 ⟨rfl, qw5⟩
  replace hA := hA.ca qw5
  replace hB := hB.ca qw5
  replace hR := hR.ca qw5
  replace hS := hS.ca qw5
  replace bb := bl_ca bb qw5
  clear qw5
  have KR := Lib.hid hR
  clear hR
  go_wp2_with (refine wpList_store_blk rfl 28 (.tmp 6) (.tmp 55) rfl (w.heap.size + 1 + 1) 28 _ _ rfl rfl KR.out rfl valI (one4 _ _ _ _) ?_; intro wz hZ gz)
  exact bodyPost_ret (res2 Tryd.results58 rfl rfl hZ Tryd.underlying28 rfl valI) rfl ⟨rfl, bl_gr bb gz (by omega)⟩
theorem held_any (fn : FuncId) (is : Int → Bool) (hto : ∀ c w, Calls Tryd.prog fn #[.int .i64 c] w fun e w' => e = .returned (.bool (is c)) ∧ Below w.heap.size w w') (hent : ∀ (args : Array Value) (w : World), (callFunc fn args).run Tryd.prog w = .ok (.enter fn args) w) (a b : VV) (w : World) : Calls Tryd.prog 58 #[.agg #[.int .i64 a.k, .int .i64 a.n, .int .u64 a.u, .string a.s], .agg #[.int .i64 b.k, .int .i64 b.n, .int .u64 b.u, .string b.s], .func (.func fn) #[] #[]] w fun e w' => e = .returned (resT (heldV is a b)) ∧ Below w.heap.size w w' := by
  have g : ∀ r, heldV is a b = r → (Calls Tryd.prog 58 #[.agg #[.int .i64 a.k, .int .i64 a.n, .int .u64 a.u, .string a.s], .agg #[.int .i64 b.k, .int .i64 b.n, .int .u64 b.u, .string b.s], .func (.func fn) #[] #[]] w fun e w' => e = .returned (resT r) ∧ Below w.heap.size w w') → Calls Tryd.prog 58 #[.agg #[.int .i64 a.k, .int .i64 a.n, .int .u64 a.u, .string a.s], .agg #[.int .i64 b.k, .int .i64 b.n, .int .u64 b.u, .string b.s], .func (.func fn) #[] #[]] w fun e w' => e = .returned (resT (heldV is a b)) ∧ Below w.heap.size w w' := fun r e h => by rw [e]; exact h
  have hA := allE2 a b
  cases hok : a.ok && b.ok
  · rw [hok] at hA
    exact g (V0, 120) (by simp [heldV, bothE, hok]) (held_e fn is hto hent a b hA w)
  · rw [hok] at hA
    cases ka4 : a.k == 4
    · cases kb4 : b.k == 4
      · cases ka0 : a.k == 0
        · cases kb0 : b.k == 0
          · cases kab : a.k != b.k
            · exact g _ (by simp only [heldV, bothE, hok, ka4, kb4, ka0, kb0, kab]; rfl) (held_7 fn is hto hent a b hA ka4 kb4 ka0 kb0 kab w)
            · exact g (V0, 2) (by simp only [heldV, bothE, hok, ka4, kb4, ka0, kb0, kab]; rfl) (held_6 fn is hto hent a b hA ka4 kb4 ka0 kb0 kab w)
          · exact g (V0, 0) (by simp only [heldV, bothE, hok, ka4, kb4, ka0, kb0]; rfl) (held_5 fn is hto hent a b hA ka4 kb4 ka0 kb0 w)
        · exact g (V0, 0) (by simp only [heldV, bothE, hok, ka4, kb4, ka0]; rfl) (held_4 fn is hto hent a b hA ka4 kb4 ka0 w)
      · cases ka0 : a.k == 0
        · exact g (V0, 2) (by simp only [heldV, bothE, hok, ka4, kb4, ka0]; rfl) (held_3b fn is hto hent a b hA ka4 kb4 ka0 (by simp at kb4 ⊢; omega) w)
        · exact g (V0, 2) (by simp only [heldV, bothE, hok, ka4, kb4, ka0]; rfl) (held_3a fn is hto hent a b hA ka4 kb4 ka0 w)
    · exact g (V0, 2) (by simp only [heldV, bothE, hok, ka4]; rfl) (held_2 fn is hto hent a b hA ka4 (by simp at ka4 ⊢; omega) w)
set_option maxHeartbeats 1000000 in
theorem equal1_any (c : Int) (w : World) : Calls Tryd.prog 59 #[.int .i64 c] w fun e w' => e = .returned (.bool (decide (c = 0))) ∧ Below w.heap.size w w' := by
  by_cases hc : c = 0
  · have h1 : (decide (c = 0)) = true := by simp [hc]
    have h2 : (c == 0) = true := by simp [hc]
    go_enter Tryd.func59, Tryd.ntmps59
    go_wp2
    go_ret
    exact ⟨by simp [hc], Below.refl _ _⟩
  · have h1 : (decide (c = 0)) = false := by simp [hc]
    go_enter Tryd.func59, Tryd.ntmps59
    go_wp2
    go_ret
    exact ⟨by simp [hc], Below.refl _ _⟩
def equalV (a b : VV) : VV × Int := heldV (fun c => decide (c = 0)) a b
set_option maxRecDepth 100000 in
set_option maxHeartbeats 4000000 in
theorem equal_any (a b : VV) (w : World) : Calls Tryd.prog 36 #[.agg #[.int .i64 a.k, .int .i64 a.n, .int .u64 a.u, .string a.s], .agg #[.int .i64 b.k, .int .i64 b.n, .int .u64 b.u, .string b.s]] w fun e w' => e = .returned (resT (equalV a b)) ∧ Below w.heap.size w w' := by
  have hent : ∀ (args : Array Value) (w : World), (callFunc 59 args).run Tryd.prog w = .ok (.enter 59 args) w := Go.Proofs.enters_of Tryd.func59 (by kernel_rfl) rfl
  have HH := Lib.hid (fun w => held_any 59 (fun c => decide (c = 0)) (fun c w => equal1_any c w) hent a b w)
  clear hent
  rw [show heldV (fun c => decide (c = 0)) a b = equalV a b from rfl] at HH
  generalize equalV a b = r at *
  have hA := (((Blk.new w 28 #[.int .i64 a.k, .int .i64 a.n, .int .u64 a.u, .string a.s]).alloc (.cells #[.int .i64 b.k, .int .i64 b.n, .int .u64 b.u, .string b.s] 28)).alloc (.cells #[.int .i64 0, .int .i64 0, .int .u64 0, .string ⟨#[]⟩] 28))
  have hB := ((Blk.new (w.alloc (.cells #[.int .i64 a.k, .int .i64 a.n, .int .u64 a.u, .string a.s] 28)) 28 #[.int .i64 b.k, .int .i64 b.n, .int .u64 b.u, .string b.s]).alloc (.cells #[.int .i64 0, .int .i64 0, .int .u64 0, .string ⟨#[]⟩] 28))
  have hR := (Blk.new ((w.alloc (.cells #[.int .i64 a.k, .int .i64 a.n, .int .u64 a.u, .string a.s] 28)).alloc (.cells #[.int .i64 b.k, .int .i64 b.n, .int .u64 b.u, .string b.s] 28)) 28 #[.int .i64 0, .int .i64 0, .int .u64 0, .string ⟨#[]⟩])
  have bb := (bl_al (bl_al (bl_al (Below.refl w.heap.size w) (.cells #[.int .i64 a.k, .int .i64 a.n, .int .u64 a.u, .string a.s] 28)) (.cells #[.int .i64 b.k, .int .i64 b.n, .int .u64 b.u, .string b.s] 28)) (.cells #[.int .i64 0, .int .i64 0, .int .u64 0, .string ⟨#[]⟩] 28))
  simp only [World.size_alloc] at hB hR
  go_enter Tryd.func36, Tryd.ntmps36
  go_wp2_with fail
  generalize (((w.alloc (.cells #[.int .i64 a.k, .int .i64 a.n, .int .u64 a.u, .string a.s] 28)).alloc (.cells #[.int .i64 b.k, .int .i64 b.n, .int .u64 b.u, .string b.s] 28)).alloc (.cells #[.int .i64 0, .int .i64 0, .int .u64 0, .string ⟨#[]⟩] 28)) = w1 at *
  refine (HH.out _).mono ?_
  rintro e w2 ⟨rfl, qw2⟩
  simp only [resT]
  replace hA := hA.ca qw2
  replace hB := hB.ca qw2
  replace hR := hR.ca qw2
  replace bb := bl_ca bb qw2
  clear qw2
  have KR := Lib.hid hR
  clear hR
  go_wp2_with (refine wpList_store_blk rfl 28 (.tmp 4) (.tmp 9) rfl (w.heap.size + 1 + 1) 28 _ _ rfl rfl KR.out rfl valI (one4 _ _ _ _) ?_; intro wz hZ gz)
  exact bodyPost_ret (res2 Tryd.results36 rfl rfl hZ Tryd.underlying28 rfl valI) rfl ⟨rfl, bl_gr bb gz (by omega)⟩
set_option maxHeartbeats 1000000 in
theorem less1_any (c : Int) (w : World) : Calls Tryd.prog 61 #[.int .i64 c] w fun e w' => e = .returned (.bool (decide (c < 0))) ∧ Below w.heap.size w w' := by
  by_cases hc : c < 0
  · have h1 : (decide (c < 0)) = true := by simp [hc]
    have h2 : (c < 0) = true := by simp [hc]
    go_enter Tryd.func61, Tryd.ntmps61
    go_wp2
    go_ret
    exact ⟨by simp [hc], Below.refl _ _⟩
  · have h1 : (decide (c < 0)) = false := by simp [hc]
    go_enter Tryd.func61, Tryd.ntmps61
    go_wp2
    go_ret
    exact ⟨by simp [hc], Below.refl _ _⟩
def lessV (a b : VV) : VV × Int := heldV (fun c => decide (c < 0)) a b
set_option maxRecDepth 100000 in
set_option maxHeartbeats 4000000 in
theorem less_any (a b : VV) (w : World) : Calls Tryd.prog 38 #[.agg #[.int .i64 a.k, .int .i64 a.n, .int .u64 a.u, .string a.s], .agg #[.int .i64 b.k, .int .i64 b.n, .int .u64 b.u, .string b.s]] w fun e w' => e = .returned (resT (lessV a b)) ∧ Below w.heap.size w w' := by
  have hent : ∀ (args : Array Value) (w : World), (callFunc 61 args).run Tryd.prog w = .ok (.enter 61 args) w := Go.Proofs.enters_of Tryd.func61 (by kernel_rfl) rfl
  have HH := Lib.hid (fun w => held_any 61 (fun c => decide (c < 0)) (fun c w => less1_any c w) hent a b w)
  clear hent
  rw [show heldV (fun c => decide (c < 0)) a b = lessV a b from rfl] at HH
  generalize lessV a b = r at *
  have hA := (((Blk.new w 28 #[.int .i64 a.k, .int .i64 a.n, .int .u64 a.u, .string a.s]).alloc (.cells #[.int .i64 b.k, .int .i64 b.n, .int .u64 b.u, .string b.s] 28)).alloc (.cells #[.int .i64 0, .int .i64 0, .int .u64 0, .string ⟨#[]⟩] 28))
  have hB := ((Blk.new (w.alloc (.cells #[.int .i64 a.k, .int .i64 a.n, .int .u64 a.u, .string a.s] 28)) 28 #[.int .i64 b.k, .int .i64 b.n, .int .u64 b.u, .string b.s]).alloc (.cells #[.int .i64 0, .int .i64 0, .int .u64 0, .string ⟨#[]⟩] 28))
  have hR := (Blk.new ((w.alloc (.cells #[.int .i64 a.k, .int .i64 a.n, .int .u64 a.u, .string a.s] 28)).alloc (.cells #[.int .i64 b.k, .int .i64 b.n, .int .u64 b.u, .string b.s] 28)) 28 #[.int .i64 0, .int .i64 0, .int .u64 0, .string ⟨#[]⟩])
  have bb := (bl_al (bl_al (bl_al (Below.refl w.heap.size w) (.cells #[.int .i64 a.k, .int .i64 a.n, .int .u64 a.u, .string a.s] 28)) (.cells #[.int .i64 b.k, .int .i64 b.n, .int .u64 b.u, .string b.s] 28)) (.cells #[.int .i64 0, .int .i64 0, .int .u64 0, .string ⟨#[]⟩] 28))
  simp only [World.size_alloc] at hB hR
  go_enter Tryd.func38, Tryd.ntmps38
  go_wp2_with fail
  generalize (((w.alloc (.cells #[.int .i64 a.k, .int .i64 a.n, .int .u64 a.u, .string a.s] 28)).alloc (.cells #[.int .i64 b.k, .int .i64 b.n, .int .u64 b.u, .string b.s] 28)).alloc (.cells #[.int .i64 0, .int .i64 0, .int .u64 0, .string ⟨#[]⟩] 28)) = w1 at *
  refine (HH.out _).mono ?_
  rintro e w2 ⟨rfl, qw2⟩
  simp only [resT]
  replace hA := hA.ca qw2
  replace hB := hB.ca qw2
  replace hR := hR.ca qw2
  replace bb := bl_ca bb qw2
  clear qw2
  have KR := Lib.hid hR
  clear hR
  go_wp2_with (refine wpList_store_blk rfl 28 (.tmp 4) (.tmp 9) rfl (w.heap.size + 1 + 1) 28 _ _ rfl rfl KR.out rfl valI (one4 _ _ _ _) ?_; intro wz hZ gz)
  exact bodyPost_ret (res2 Tryd.results38 rfl rfl hZ Tryd.underlying28 rfl valI) rfl ⟨rfl, bl_gr bb gz (by omega)⟩
end Go.Proofs.YtabbiepafibmmaaDoor
