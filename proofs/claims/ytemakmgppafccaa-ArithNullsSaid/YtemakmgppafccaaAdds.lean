/- arith.Add, Sub, Mul, Div, Neg. Conditions: numbers within their kind. -/
import Derived.Test.YtemakmgppafccaaOps
import Derived.Shelf.Abstract
namespace Go.Proofs.Ytemakmgppafccaa
open Go.RowKit Go.Proofs.Big
set_option maxRecDepth 100000 in
set_option maxHeartbeats 1000000 in
theorem add_any  (a b : VV) (w : World) (ha : I64 a.n) (hb : I64 b.n) : Calls Try.prog 20 #[.agg #[.int .i64 a.k, .int .i64 a.n, .int .u64 a.u, .string a.s], .agg #[.int .i64 b.k, .int .i64 b.n, .int .u64 b.u, .string b.s]] w fun e w' => e = .returned (resT (opV (a.n + b.n) a b)) ∧ Below w.heap.size w w' := by
  have hent : ∀ (args : Array Value) (w : World), (callFunc 40 args).run Try.prog w = .ok (.enter 40 args) w := Go.Proofs.enters_of Try.func40 (by kernel_rfl) rfl
  have HDO := Lib.hid (fun w => do_any (a.n + b.n) a b 40 w hent (fun w => add1_any a.n b.n w ha hb))
  clear hent
  have hA := (((Blk.new w 27 #[.int .i64 a.k, .int .i64 a.n, .int .u64 a.u, .string a.s]).alloc (.cells #[.int .i64 b.k, .int .i64 b.n, .int .u64 b.u, .string b.s] 27)).alloc (.cells #[.int .i64 0, .int .i64 0, .int .u64 0, .string ⟨#[]⟩] 27))
  have hB := ((Blk.new (w.alloc (.cells #[.int .i64 a.k, .int .i64 a.n, .int .u64 a.u, .string a.s] 27)) 27 #[.int .i64 b.k, .int .i64 b.n, .int .u64 b.u, .string b.s]).alloc (.cells #[.int .i64 0, .int .i64 0, .int .u64 0, .string ⟨#[]⟩] 27))
  have hR := (Blk.new ((w.alloc (.cells #[.int .i64 a.k, .int .i64 a.n, .int .u64 a.u, .string a.s] 27)).alloc (.cells #[.int .i64 b.k, .int .i64 b.n, .int .u64 b.u, .string b.s] 27)) 27 #[.int .i64 0, .int .i64 0, .int .u64 0, .string ⟨#[]⟩])
  have b0 := (bl_al (bl_al (bl_al (Below.refl w.heap.size w) (.cells #[.int .i64 a.k, .int .i64 a.n, .int .u64 a.u, .string a.s] 27)) (.cells #[.int .i64 b.k, .int .i64 b.n, .int .u64 b.u, .string b.s] 27)) (.cells #[.int .i64 0, .int .i64 0, .int .u64 0, .string ⟨#[]⟩] 27))
  simp only [World.size_alloc] at hB hR
  obtain ⟨R, hR0⟩ : ∃ R, R = opV (a.n + b.n) a b := ⟨_, rfl⟩
  rw [← hR0] at HDO
  have HR0 := Lib.hid hR0
  clear hR0 ha hb
  go_enter Try.func20, Try.ntmps20
  go_wp2_with fail
  generalize (((w.alloc (.cells #[.int .i64 a.k, .int .i64 a.n, .int .u64 a.u, .string a.s] 27)).alloc (.cells #[.int .i64 b.k, .int .i64 b.n, .int .u64 b.u, .string b.s] 27)).alloc (.cells #[.int .i64 0, .int .i64 0, .int .u64 0, .string ⟨#[]⟩] 27)) = w1 at *
  refine (HDO.out w1).mono ?_
  rintro e w2 ⟨rfl, q⟩
  have hR2 := hR.below q hR.lt
  have b2 := bl_ca b0 q
  clear hA hB hR b0 q HDO
  simp only [resT]
  go_wp2_with (refine wpList_store_blk rfl 27 (.tmp 4) (.tmp 9) rfl (w.heap.size + 1 + 1) 27 _ _ rfl rfl hR2 rfl valI (one4 _ _ _ _) ?_; intro w3 hR3 g3)
  exact bodyPost_ret (res2 Try.results20 rfl rfl hR3 Try.underlying27 rfl valI) rfl ⟨by rw [← HR0.out]; rfl, bl_gr b2 g3 (by omega)⟩
set_option maxRecDepth 100000 in
set_option maxHeartbeats 1000000 in
theorem sub_any  (a b : VV) (w : World) (ha : I64 a.n) (hb : I64 b.n) : Calls Try.prog 22 #[.agg #[.int .i64 a.k, .int .i64 a.n, .int .u64 a.u, .string a.s], .agg #[.int .i64 b.k, .int .i64 b.n, .int .u64 b.u, .string b.s]] w fun e w' => e = .returned (resT (opV (a.n - b.n) a b)) ∧ Below w.heap.size w w' := by
  have hent : ∀ (args : Array Value) (w : World), (callFunc 45 args).run Try.prog w = .ok (.enter 45 args) w := Go.Proofs.enters_of Try.func45 (by kernel_rfl) rfl
  have HDO := Lib.hid (fun w => do_any (a.n - b.n) a b 45 w hent (fun w => sub1_any a.n b.n w ha hb))
  clear hent
  have hA := (((Blk.new w 27 #[.int .i64 a.k, .int .i64 a.n, .int .u64 a.u, .string a.s]).alloc (.cells #[.int .i64 b.k, .int .i64 b.n, .int .u64 b.u, .string b.s] 27)).alloc (.cells #[.int .i64 0, .int .i64 0, .int .u64 0, .string ⟨#[]⟩] 27))
  have hB := ((Blk.new (w.alloc (.cells #[.int .i64 a.k, .int .i64 a.n, .int .u64 a.u, .string a.s] 27)) 27 #[.int .i64 b.k, .int .i64 b.n, .int .u64 b.u, .string b.s]).alloc (.cells #[.int .i64 0, .int .i64 0, .int .u64 0, .string ⟨#[]⟩] 27))
  have hR := (Blk.new ((w.alloc (.cells #[.int .i64 a.k, .int .i64 a.n, .int .u64 a.u, .string a.s] 27)).alloc (.cells #[.int .i64 b.k, .int .i64 b.n, .int .u64 b.u, .string b.s] 27)) 27 #[.int .i64 0, .int .i64 0, .int .u64 0, .string ⟨#[]⟩])
  have b0 := (bl_al (bl_al (bl_al (Below.refl w.heap.size w) (.cells #[.int .i64 a.k, .int .i64 a.n, .int .u64 a.u, .string a.s] 27)) (.cells #[.int .i64 b.k, .int .i64 b.n, .int .u64 b.u, .string b.s] 27)) (.cells #[.int .i64 0, .int .i64 0, .int .u64 0, .string ⟨#[]⟩] 27))
  simp only [World.size_alloc] at hB hR
  obtain ⟨R, hR0⟩ : ∃ R, R = opV (a.n - b.n) a b := ⟨_, rfl⟩
  rw [← hR0] at HDO
  have HR0 := Lib.hid hR0
  clear hR0 ha hb
  go_enter Try.func22, Try.ntmps22
  go_wp2_with fail
  generalize (((w.alloc (.cells #[.int .i64 a.k, .int .i64 a.n, .int .u64 a.u, .string a.s] 27)).alloc (.cells #[.int .i64 b.k, .int .i64 b.n, .int .u64 b.u, .string b.s] 27)).alloc (.cells #[.int .i64 0, .int .i64 0, .int .u64 0, .string ⟨#[]⟩] 27)) = w1 at *
  refine (HDO.out w1).mono ?_
  rintro e w2 ⟨rfl, q⟩
  have hR2 := hR.below q hR.lt
  have b2 := bl_ca b0 q
  clear hA hB hR b0 q HDO
  simp only [resT]
  go_wp2_with (refine wpList_store_blk rfl 27 (.tmp 4) (.tmp 9) rfl (w.heap.size + 1 + 1) 27 _ _ rfl rfl hR2 rfl valI (one4 _ _ _ _) ?_; intro w3 hR3 g3)
  exact bodyPost_ret (res2 Try.results22 rfl rfl hR3 Try.underlying27 rfl valI) rfl ⟨by rw [← HR0.out]; rfl, bl_gr b2 g3 (by omega)⟩
set_option maxRecDepth 100000 in
set_option maxHeartbeats 1000000 in
theorem mul_any  (a b : VV) (w : World) (ha : I64 a.n) (hb : I64 b.n) : Calls Try.prog 21 #[.agg #[.int .i64 a.k, .int .i64 a.n, .int .u64 a.u, .string a.s], .agg #[.int .i64 b.k, .int .i64 b.n, .int .u64 b.u, .string b.s]] w fun e w' => e = .returned (resT (opV (a.n * b.n) a b)) ∧ Below w.heap.size w w' := by
  have hent : ∀ (args : Array Value) (w : World), (callFunc 41 args).run Try.prog w = .ok (.enter 41 args) w := Go.Proofs.enters_of Try.func41 (by kernel_rfl) rfl
  have HDO := Lib.hid (fun w => do_any (a.n * b.n) a b 41 w hent (fun w => mul1_any a.n b.n w ha hb))
  clear hent
  have hA := (((Blk.new w 27 #[.int .i64 a.k, .int .i64 a.n, .int .u64 a.u, .string a.s]).alloc (.cells #[.int .i64 b.k, .int .i64 b.n, .int .u64 b.u, .string b.s] 27)).alloc (.cells #[.int .i64 0, .int .i64 0, .int .u64 0, .string ⟨#[]⟩] 27))
  have hB := ((Blk.new (w.alloc (.cells #[.int .i64 a.k, .int .i64 a.n, .int .u64 a.u, .string a.s] 27)) 27 #[.int .i64 b.k, .int .i64 b.n, .int .u64 b.u, .string b.s]).alloc (.cells #[.int .i64 0, .int .i64 0, .int .u64 0, .string ⟨#[]⟩] 27))
  have hR := (Blk.new ((w.alloc (.cells #[.int .i64 a.k, .int .i64 a.n, .int .u64 a.u, .string a.s] 27)).alloc (.cells #[.int .i64 b.k, .int .i64 b.n, .int .u64 b.u, .string b.s] 27)) 27 #[.int .i64 0, .int .i64 0, .int .u64 0, .string ⟨#[]⟩])
  have b0 := (bl_al (bl_al (bl_al (Below.refl w.heap.size w) (.cells #[.int .i64 a.k, .int .i64 a.n, .int .u64 a.u, .string a.s] 27)) (.cells #[.int .i64 b.k, .int .i64 b.n, .int .u64 b.u, .string b.s] 27)) (.cells #[.int .i64 0, .int .i64 0, .int .u64 0, .string ⟨#[]⟩] 27))
  simp only [World.size_alloc] at hB hR
  obtain ⟨R, hR0⟩ : ∃ R, R = opV (a.n * b.n) a b := ⟨_, rfl⟩
  rw [← hR0] at HDO
  have HR0 := Lib.hid hR0
  clear hR0 ha hb
  go_enter Try.func21, Try.ntmps21
  go_wp2_with fail
  generalize (((w.alloc (.cells #[.int .i64 a.k, .int .i64 a.n, .int .u64 a.u, .string a.s] 27)).alloc (.cells #[.int .i64 b.k, .int .i64 b.n, .int .u64 b.u, .string b.s] 27)).alloc (.cells #[.int .i64 0, .int .i64 0, .int .u64 0, .string ⟨#[]⟩] 27)) = w1 at *
  refine (HDO.out w1).mono ?_
  rintro e w2 ⟨rfl, q⟩
  have hR2 := hR.below q hR.lt
  have b2 := bl_ca b0 q
  clear hA hB hR b0 q HDO
  simp only [resT]
  go_wp2_with (refine wpList_store_blk rfl 27 (.tmp 4) (.tmp 9) rfl (w.heap.size + 1 + 1) 27 _ _ rfl rfl hR2 rfl valI (one4 _ _ _ _) ?_; intro w3 hR3 g3)
  exact bodyPost_ret (res2 Try.results21 rfl rfl hR3 Try.underlying27 rfl valI) rfl ⟨by rw [← HR0.out]; rfl, bl_gr b2 g3 (by omega)⟩
theorem div1_r (r a b : Int) (w : World) (ha : I64 a) (hb : I64 b) (hr : r = if b = 0 then 9223372036854775808 else a.tdiv b) : Calls Try.prog 46 #[.int .i64 a, .int .i64 b] w (SmallP r w) := by
  by_cases h0 : b = 0
  · subst h0
    rw [if_pos rfl] at hr
    exact div1_z a r w (by subst hr; rfl)
  · rw [if_neg h0] at hr
    subst hr
    exact div1_any a b w ha hb h0
set_option maxRecDepth 100000 in
set_option maxHeartbeats 1000000 in
theorem div_any (r : Int) (a b : VV) (w : World) (ha : I64 a.n) (hb : I64 b.n) (hr : r = if b.n = 0 then 9223372036854775808 else a.n.tdiv b.n) : Calls Try.prog 23 #[.agg #[.int .i64 a.k, .int .i64 a.n, .int .u64 a.u, .string a.s], .agg #[.int .i64 b.k, .int .i64 b.n, .int .u64 b.u, .string b.s]] w fun e w' => e = .returned (resT (opV (r) a b)) ∧ Below w.heap.size w w' := by
  have hent : ∀ (args : Array Value) (w : World), (callFunc 46 args).run Try.prog w = .ok (.enter 46 args) w := Go.Proofs.enters_of Try.func46 (by kernel_rfl) rfl
  have HDO := Lib.hid (fun w => do_any (r) a b 46 w hent (fun w => div1_r r a.n b.n w ha hb hr))
  clear hent hr
  have hA := (((Blk.new w 27 #[.int .i64 a.k, .int .i64 a.n, .int .u64 a.u, .string a.s]).alloc (.cells #[.int .i64 b.k, .int .i64 b.n, .int .u64 b.u, .string b.s] 27)).alloc (.cells #[.int .i64 0, .int .i64 0, .int .u64 0, .string ⟨#[]⟩] 27))
  have hB := ((Blk.new (w.alloc (.cells #[.int .i64 a.k, .int .i64 a.n, .int .u64 a.u, .string a.s] 27)) 27 #[.int .i64 b.k, .int .i64 b.n, .int .u64 b.u, .string b.s]).alloc (.cells #[.int .i64 0, .int .i64 0, .int .u64 0, .string ⟨#[]⟩] 27))
  have hR := (Blk.new ((w.alloc (.cells #[.int .i64 a.k, .int .i64 a.n, .int .u64 a.u, .string a.s] 27)).alloc (.cells #[.int .i64 b.k, .int .i64 b.n, .int .u64 b.u, .string b.s] 27)) 27 #[.int .i64 0, .int .i64 0, .int .u64 0, .string ⟨#[]⟩])
  have b0 := (bl_al (bl_al (bl_al (Below.refl w.heap.size w) (.cells #[.int .i64 a.k, .int .i64 a.n, .int .u64 a.u, .string a.s] 27)) (.cells #[.int .i64 b.k, .int .i64 b.n, .int .u64 b.u, .string b.s] 27)) (.cells #[.int .i64 0, .int .i64 0, .int .u64 0, .string ⟨#[]⟩] 27))
  simp only [World.size_alloc] at hB hR
  obtain ⟨R, hR0⟩ : ∃ R, R = opV (r) a b := ⟨_, rfl⟩
  rw [← hR0] at HDO
  have HR0 := Lib.hid hR0
  clear hR0 ha hb
  go_enter Try.func23, Try.ntmps23
  go_wp2_with fail
  generalize (((w.alloc (.cells #[.int .i64 a.k, .int .i64 a.n, .int .u64 a.u, .string a.s] 27)).alloc (.cells #[.int .i64 b.k, .int .i64 b.n, .int .u64 b.u, .string b.s] 27)).alloc (.cells #[.int .i64 0, .int .i64 0, .int .u64 0, .string ⟨#[]⟩] 27)) = w1 at *
  refine (HDO.out w1).mono ?_
  rintro e w2 ⟨rfl, q⟩
  have hR2 := hR.below q hR.lt
  have b2 := bl_ca b0 q
  clear hA hB hR b0 q HDO
  simp only [resT]
  go_wp2_with (refine wpList_store_blk rfl 27 (.tmp 4) (.tmp 9) rfl (w.heap.size + 1 + 1) 27 _ _ rfl rfl hR2 rfl valI (one4 _ _ _ _) ?_; intro w3 hR3 g3)
  exact bodyPost_ret (res2 Try.results23 rfl rfl hR3 Try.underlying27 rfl valI) rfl ⟨by rw [← HR0.out]; rfl, bl_gr b2 g3 (by omega)⟩
set_option maxRecDepth 100000 in
set_option maxHeartbeats 2000000 in
theorem neg_any (a : VV) (w : World) (ha : I64 a.n) : Calls Try.prog 24 #[.agg #[.int .i64 a.k, .int .i64 a.n, .int .u64 a.u, .string a.s]] w fun e w' => e = .returned (resT (opV (0 - a.n) (VI 0) a)) ∧ Below w.heap.size w w' := by
  have HSUB := Lib.hid (show ∀ w, Calls Try.prog 22 #[.agg #[.int .i64 2, .int .i64 0, .int .u64 0, .string ⟨#[]⟩], .agg #[.int .i64 a.k, .int .i64 a.n, .int .u64 a.u, .string a.s]] w fun e w' => e = .returned (resT (opV (0 - a.n) (VI 0) a)) ∧ Below w.heap.size w w' from fun w => sub_any (VI 0) a w ⟨by decide, by decide⟩ ha)
  clear ha
  have hA := ((Blk.new w 27 #[.int .i64 a.k, .int .i64 a.n, .int .u64 a.u, .string a.s]).alloc (.cells #[.int .i64 0, .int .i64 0, .int .u64 0, .string ⟨#[]⟩] 27))
  have hR := (Blk.new (w.alloc (.cells #[.int .i64 a.k, .int .i64 a.n, .int .u64 a.u, .string a.s] 27)) 27 #[.int .i64 0, .int .i64 0, .int .u64 0, .string ⟨#[]⟩])
  have b0 := (bl_al (bl_al (Below.refl w.heap.size w) (.cells #[.int .i64 a.k, .int .i64 a.n, .int .u64 a.u, .string a.s] 27)) (.cells #[.int .i64 0, .int .i64 0, .int .u64 0, .string ⟨#[]⟩] 27))
  simp only [World.size_alloc] at hR
  obtain ⟨R, hR0⟩ : ∃ R, R = opV (0 - a.n) (VI 0) a := ⟨_, rfl⟩
  rw [← hR0] at HSUB
  have HR0 := Lib.hid hR0
  clear hR0
  go_enter Try.func24, Try.ntmps24
  go_wp2_with fail
  generalize ((w.alloc (.cells #[.int .i64 a.k, .int .i64 a.n, .int .u64 a.u, .string a.s] 27)).alloc (.cells #[.int .i64 0, .int .i64 0, .int .u64 0, .string ⟨#[]⟩] 27)) = w1 at *
  replace hA := hA.drew
  replace hR := hR.drew
  replace b0 := bl_d1 b0
  have a0 : w1.drew.cell? ⟨w.heap.size, 0, none⟩ = some (.int .i64 a.k) := hA.cell 0
  have a1 : w1.drew.cell? ⟨w.heap.size, 1, none⟩ = some (.int .i64 a.n) := hA.cell 1
  have a2 : w1.drew.cell? ⟨w.heap.size, 2, none⟩ = some (.int .u64 a.u) := hA.cell 2
  have a3 : w1.drew.cell? ⟨w.heap.size, 3, none⟩ = some (.string a.s) := hA.cell 3
  go_region_held3 (fun w' => w'.cell? ⟨w.heap.size, 0, none⟩ = some (.int .i64 a.k) ∧ w'.cell? ⟨w.heap.size, 1, none⟩ = some (.int .i64 a.n) ∧ w'.cell? ⟨w.heap.size, 2, none⟩ = some (.int .u64 a.u) ∧ w'.cell? ⟨w.heap.size, 3, none⟩ = some (.string a.s)) (first | go_keep | exact eS)
    (first
      | (go_at_call 17; refine (vint_any 0 _).mono ?_; rintro e wa ⟨rfl, qa⟩; have hA1 := hA.below qa hA.lt; have hR1 := hR.below qa hR.lt; have b1 := bl_ca b0 qa; have eS : wa.cell? ⟨w.heap.size, 0, none⟩ = some (.int .i64 a.k) ∧ wa.cell? ⟨w.heap.size, 1, none⟩ = some (.int .i64 a.n) ∧ wa.cell? ⟨w.heap.size, 2, none⟩ = some (.int .u64 a.u) ∧ wa.cell? ⟨w.heap.size, 3, none⟩ = some (.string a.s) := ⟨hA1.cell 0, hA1.cell 1, hA1.cell 2, hA1.cell 3⟩)
      | (go_at_call 22; refine (HSUB.out _).mono ?_; rintro e wb ⟨rfl, qb⟩; have hR2 := hR1.below qb hR1.lt; have hA2 := hA1.below qb hA1.lt; have b2 := bl_ca b1 qb; simp only [resT]; have r0 : wb.cell? ⟨w.heap.size + 1, 0, none⟩ = some (.int .i64 0) := hR2.cell 0; have r1 : wb.cell? ⟨w.heap.size + 1, 1, none⟩ = some (.int .i64 0) := hR2.cell 1; have r2 : wb.cell? ⟨w.heap.size + 1, 2, none⟩ = some (.int .u64 0) := hR2.cell 2; have r3 : wb.cell? ⟨w.heap.size + 1, 3, none⟩ = some (.string ⟨#[]⟩) := hR2.cell 3; have f0 : wb.frozen? ⟨w.heap.size + 1, 0, none⟩ = false := hR2.frozen 0; have f1 : wb.frozen? ⟨w.heap.size + 1, 1, none⟩ = false := hR2.frozen 1; have f2 : wb.frozen? ⟨w.heap.size + 1, 2, none⟩ = false := hR2.frozen 2; have f3 : wb.frozen? ⟨w.heap.size + 1, 3, none⟩ = false := hR2.frozen 3; have eS : wb.cell? ⟨w.heap.size, 0, none⟩ = some (.int .i64 a.k) ∧ wb.cell? ⟨w.heap.size, 1, none⟩ = some (.int .i64 a.n) ∧ wb.cell? ⟨w.heap.size, 2, none⟩ = some (.int .u64 a.u) ∧ wb.cell? ⟨w.heap.size, 3, none⟩ = some (.string a.s) := ⟨hA2.cell 0, hA2.cell 1, hA2.cell 2, hA2.cell 3⟩))
  go_wp2
  exact bodyPost_ret (res2 Try.results24 rfl rfl (blk_set4 hR2 _ _ _ _) Try.underlying27 rfl valI) rfl ⟨by rw [← HR0.out]; rfl, bl_set4 b2 (by omega) _ _ _ _⟩
end Go.Proofs.Ytemakmgppafccaa
