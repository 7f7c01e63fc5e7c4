/- arith.do: what comes of two terms. Conditions: the fields within their kinds. -/
import Derived.Test.YtemakmgppafccaaBigSmall
import Derived.Test.YtemakmgppafccaaTerm
namespace Go.Proofs.Ytemakmgppafccaa
open Go.RowKit
def V0 : VV := ⟨0, 0, 0, ⟨#[]⟩⟩
def VI (n : Int) : VV := ⟨2, n, 0, ⟨#[]⟩⟩
/-- a value, and why there is none -/
def resT (r : VV × Int) : Value := .tuple #[.agg #[.int .i64 r.1.k, .int .i64 r.1.n, .int .u64 r.1.u, .string r.1.s], .int .i64 r.2]
/-- what comes of two terms, if the numbers come to r -/
def opV (r : Int) (a b : VV) : VV × Int :=
  if areE 2 [a, b] ≠ 0 then (V0, areE 2 [a, b]) else if a.k = 0 ∨ b.k = 0 then (V0, 0) else if smallB r then (VI r, 0) else (V0, 140)
theorem rdv_one {w : World} {g : Nat} {t : TypeId} {a : VV} (h : Blk w g t #[.int .i64 a.k, .int .i64 a.n, .int .u64 a.u, .string a.s]) : RdV w (some ⟨g, 0, none⟩) 1 [a] := by
  refine ⟨rfl, fun i hi => ?_⟩
  obtain rfl : i = 0 := by omega
  exact ⟨_, a, rfl, rfl, h.lt, h.cell 0, h.cell 1, h.cell 2, h.cell 3⟩
theorem rdv_two {w : World} {g : Nat} {t : TypeId} {a b : VV} (h : Blk w g t #[.int .i64 a.k, .int .i64 a.n, .int .u64 a.u, .string a.s, .int .i64 b.k, .int .i64 b.n, .int .u64 b.u, .string b.s]) : RdV w (some ⟨g, 0, none⟩) 2 [a, b] := by
  refine ⟨rfl, fun i hi => ?_⟩
  have hc : i = 0 ∨ i = 1 := by omega
  rcases hc with rfl | rfl
  · exact ⟨_, a, rfl, rfl, h.lt, h.cell 0, h.cell 1, h.cell 2, h.cell 3⟩
  · exact ⟨_, b, rfl, rfl, h.lt, h.cell 4, h.cell 5, h.cell 6, h.cell 7⟩
theorem valI : (Try.prog.info? 27).map (·.size) = some 4 := by kernel_rfl
theorem one4 (k n u : Int) (s : ByteArray) : (#[.int .i64 k, .int .i64 n, .int .u64 u, .string s] : Array Value).all (·.oneCell') = true := by simp [Value.oneCell']
set_option maxRecDepth 100000 in
set_option maxHeartbeats 4000000 in
theorem do_any (r : Int) (a b : VV) (fn : FuncId) (w : World) (hent : ∀ (args : Array Value) (w : World), (callFunc fn args).run Try.prog w = .ok (.enter fn args) w)
    (hto : ∀ w, Calls Try.prog fn #[.int .i64 a.n, .int .i64 b.n] w (SmallP r w)) :
    Calls Try.prog 39 #[.agg #[.int .i64 a.k, .int .i64 a.n, .int .u64 a.u, .string a.s], .agg #[.int .i64 b.k, .int .i64 b.n, .int .u64 b.u, .string b.s], .func (.func fn) #[] #[]] w fun e w' => e = .returned (resT (opV r a b)) ∧ Below w.heap.size w w' := by
  have hA := ((((Blk.new w 27 #[.int .i64 a.k, .int .i64 a.n, .int .u64 a.u, .string a.s]).alloc (.cells #[.int .i64 b.k, .int .i64 b.n, .int .u64 b.u, .string b.s] 27)).alloc (.cells #[.int .i64 0, .int .i64 0, .int .u64 0, .string ⟨#[]⟩] 27)).alloc (.cells #[.int .i64 a.k, .int .i64 a.n, .int .u64 a.u, .string a.s, .int .i64 b.k, .int .i64 b.n, .int .u64 b.u, .string b.s] 27))
  have hB := (((Blk.new (w.alloc (.cells #[.int .i64 a.k, .int .i64 a.n, .int .u64 a.u, .string a.s] 27)) 27 #[.int .i64 b.k, .int .i64 b.n, .int .u64 b.u, .string b.s]).alloc (.cells #[.int .i64 0, .int .i64 0, .int .u64 0, .string ⟨#[]⟩] 27)).alloc (.cells #[.int .i64 a.k, .int .i64 a.n, .int .u64 a.u, .string a.s, .int .i64 b.k, .int .i64 b.n, .int .u64 b.u, .string b.s] 27))
  have hR := ((Blk.new ((w.alloc (.cells #[.int .i64 a.k, .int .i64 a.n, .int .u64 a.u, .string a.s] 27)).alloc (.cells #[.int .i64 b.k, .int .i64 b.n, .int .u64 b.u, .string b.s] 27)) 27 #[.int .i64 0, .int .i64 0, .int .u64 0, .string ⟨#[]⟩]).alloc (.cells #[.int .i64 a.k, .int .i64 a.n, .int .u64 a.u, .string a.s, .int .i64 b.k, .int .i64 b.n, .int .u64 b.u, .string b.s] 27))
  have hS := (Blk.new (((w.alloc (.cells #[.int .i64 a.k, .int .i64 a.n, .int .u64 a.u, .string a.s] 27)).alloc (.cells #[.int .i64 b.k, .int .i64 b.n, .int .u64 b.u, .string b.s] 27)).alloc (.cells #[.int .i64 0, .int .i64 0, .int .u64 0, .string ⟨#[]⟩] 27)) 27 #[.int .i64 a.k, .int .i64 a.n, .int .u64 a.u, .string a.s, .int .i64 b.k, .int .i64 b.n, .int .u64 b.u, .string b.s])
  have b0 := (bl_al (bl_al (bl_al (bl_al (Below.refl w.heap.size w) (.cells #[.int .i64 a.k, .int .i64 a.n, .int .u64 a.u, .string a.s] 27)) (.cells #[.int .i64 b.k, .int .i64 b.n, .int .u64 b.u, .string b.s] 27)) (.cells #[.int .i64 0, .int .i64 0, .int .u64 0, .string ⟨#[]⟩] 27)) (.cells #[.int .i64 a.k, .int .i64 a.n, .int .u64 a.u, .string a.s, .int .i64 b.k, .int .i64 b.n, .int .u64 b.u, .string b.s] 27))
  simp only [World.size_alloc] at hB hR hS
  have HTO := Lib.hid hto
  clear hto
  go_enter Try.func39, Try.ntmps39
  go_wp2_with fail
  generalize ((((w.alloc (.cells #[.int .i64 a.k, .int .i64 a.n, .int .u64 a.u, .string a.s] 27)).alloc (.cells #[.int .i64 b.k, .int .i64 b.n, .int .u64 b.u, .string b.s] 27)).alloc (.cells #[.int .i64 0, .int .i64 0, .int .u64 0, .string ⟨#[]⟩] 27)).alloc (.cells #[.int .i64 a.k, .int .i64 a.n, .int .u64 a.u, .string a.s, .int .i64 b.k, .int .i64 b.n, .int .u64 b.u, .string b.s] 27)) = w1 at *
  refine (are_any 2 _ 2 2 [a, b] w1 (rdv_two hS) (by omega)).mono ?_
  rintro e w2 ⟨rfl, q⟩
  have hA2 := hA.below q hA.lt
  have hB2 := hB.below q hB.lt
  have hR2 := hR.below q hR.lt
  have b2 := bl_ca b0 q
  clear hA hB hR hS b0 q
  have tA : w2.cell? ⟨w.heap.size, 0, none⟩ = some (.int .i64 a.k) := hA2.cell 0
  have tB : w2.cell? ⟨w.heap.size + 1, 0, none⟩ = some (.int .i64 b.k) := hB2.cell 0
  have tA1 : w2.cell? ⟨w.heap.size, 1, none⟩ = some (.int .i64 a.n) := hA2.cell 1
  have tB1 : w2.cell? ⟨w.heap.size + 1, 1, none⟩ = some (.int .i64 b.n) := hB2.cell 1
  have KR := Lib.hid hR2
  clear hR2
  by_cases he : areE 2 [a, b] = 0
  · by_cases hk : a.k = 0 ∨ b.k = 0
    · have hop : opV r a b = (V0, 0) := by unfold opV; rw [if_neg (by simp [he]), if_pos hk]
      have HOP := Lib.hid hop
      rw [he]
      clear hop he
      by_cases h0 : a.k = 0
      · skip
        have h1 : (a.k == 0) = true := by simp [h0]
        clear h0
        clear hk
        go_wp2_with fail
        refine (vnull_any w2).mono ?_
        rintro e w3 ⟨rfl, q3⟩
        have hR3 := KR.out.below q3 KR.out.lt
        have b3 := bl_ca b2 q3
        clear KR q3 b2 tA tB tA1 tB1
        go_wp2_with (refine wpList_store_blk rfl 27 (.tmp 6) (.tmp 27) rfl (w.heap.size + 1 + 1) 27 _ _ rfl rfl hR3 rfl valI (one4 _ _ _ _) ?_; intro w4 hRw4 g4)
        exact bodyPost_ret (res2 Try.results39 rfl rfl hRw4 Try.underlying27 rfl valI) rfl ⟨by rw [HOP.out]; rfl, bl_gr b3 g4 (by omega)⟩
      · skip
        have h1 : (a.k == 0) = false := by simp [h0]
        have h2 : (b.k == 0) = true := ibeq_t (hk.resolve_left h0)
        clear h0
        clear hk
        go_wp2_with fail
        refine (vnull_any w2).mono ?_
        rintro e w3 ⟨rfl, q3⟩
        have hR3 := KR.out.below q3 KR.out.lt
        have b3 := bl_ca b2 q3
        clear KR q3 b2 tA tB tA1 tB1
        go_wp2_with (refine wpList_store_blk rfl 27 (.tmp 6) (.tmp 27) rfl (w.heap.size + 1 + 1) 27 _ _ rfl rfl hR3 rfl valI (one4 _ _ _ _) ?_; intro w4 hRw4 g4)
        exact bodyPost_ret (res2 Try.results39 rfl rfl hRw4 Try.underlying27 rfl valI) rfl ⟨by rw [HOP.out]; rfl, bl_gr b3 g4 (by omega)⟩
    · have ha0 : (a.k == 0) = false := by simp; intro h; exact hk (.inl h)
      have hb0 : (b.k == 0) = false := by simp; intro h; exact hk (.inr h)
      by_cases hs : smallB r = true
      · have hop : opV r a b = (VI r, 0) := by unfold opV; rw [if_neg (by simp [he]), if_neg hk, if_pos hs]
        have HOP := Lib.hid hop
        rw [he]
        clear hop he hk
        go_wp2_with fail
        refine (HTO.out w2).mono ?_
        rintro e w3 ⟨n, rfl, hn, q3⟩
        obtain rfl := hn hs
        rw [hs]
        have hR3 := KR.out.below q3 KR.out.lt
        have b3 := bl_ca b2 q3
        clear KR q3 b2 tA tB tA1 tB1 hn hs
        go_wp2_with fail
        refine (vint_any n w3).mono ?_
        rintro e w4 ⟨rfl, q4⟩
        have hR4 := hR3.below q4 hR3.lt
        have b4 := bl_ca b3 q4
        clear hR3 q4 b3
        go_wp2_with (refine wpList_store_blk rfl 27 (.tmp 6) (.tmp 41) rfl (w.heap.size + 1 + 1) 27 _ _ rfl rfl hR4 rfl valI (one4 _ _ _ _) ?_; intro w5 hRw5 g5)
        exact bodyPost_ret (res2 Try.results39 rfl rfl hRw5 Try.underlying27 rfl valI) rfl ⟨by rw [HOP.out]; rfl, bl_gr b4 g5 (by omega)⟩
      · have hs' : smallB r = false := by simpa using hs
        have hop : opV r a b = (V0, 140) := by unfold opV; rw [if_neg (by simp [he]), if_neg hk, if_neg hs]
        have HOP := Lib.hid hop
        rw [he]
        clear hop he hk hs
        go_wp2_with fail
        refine (HTO.out w2).mono ?_
        rintro e w3 ⟨n, rfl, hn, q3⟩
        rw [hs']
        have hR3 := KR.out.below q3 KR.out.lt
        have b3 := bl_ca b2 q3
        clear KR q3 b2 tA tB tA1 tB1 hn hs'
        go_wp2_with (refine wpList_store_blk rfl 27 (.tmp 6) (.tmp 39) rfl (w.heap.size + 1 + 1) 27 _ _ rfl rfl hR3 rfl valI (one4 _ _ _ _) ?_; intro w5 hRw5 g5)
        exact bodyPost_ret (res2 Try.results39 rfl rfl hRw5 Try.underlying27 rfl valI) rfl ⟨by rw [HOP.out]; rfl, bl_gr b3 g5 (by omega)⟩
  · have hop : opV r a b = (V0, areE 2 [a, b]) := by unfold opV; rw [if_pos he]
    have h1 : (areE 2 [a, b] != 0) = true := ibne_t he
    generalize areE 2 [a, b] = E at *
    have HOP := Lib.hid hop
    clear hop he
    go_wp2_with (refine wpList_store_blk rfl 27 (.tmp 6) (.tmp 17) rfl (w.heap.size + 1 + 1) 27 _ _ rfl rfl KR.out rfl valI (one4 _ _ _ _) ?_; intro w5 hRw5 g5)
    exact bodyPost_ret (res2 Try.results39 rfl rfl hRw5 Try.underlying27 rfl valI) rfl ⟨by rw [HOP.out]; rfl, bl_gr b2 g5 (by omega)⟩
end Go.Proofs.Ytemakmgppafccaa
