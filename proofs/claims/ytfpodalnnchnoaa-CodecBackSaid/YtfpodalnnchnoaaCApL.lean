/- The walk of the law CodecApart. Conditions: the numbers lie within their kinds. -/
import Derived.Test.YtfpodalnnchnoaaCPre
import Derived.Test.YtfpodalnnchnoaaCWakes
namespace Go.Proofs.Ytfpodalnnchnoaa
open Go.RowKit
def cellsV (a : VV) : Array Value := #[.int .i64 a.k, .int .i64 a.n, .int .u64 a.u, .string a.s]
theorem rdv_one {w : World} {g : Nat} {t : TypeId} {a : VV} (h : Blk w g t #[.int .i64 a.k, .int .i64 a.n, .int .u64 a.u, .string a.s]) : RdV w (some ⟨g, 0, none⟩) 1 [a] := by
  refine ⟨rfl, fun i hi => ?_⟩
  obtain rfl : i = 0 := by omega
  exact ⟨_, a, rfl, rfl, h.lt, h.cell 0, h.cell 1, h.cell 2, h.cell 3⟩
theorem short_one (a : VV) (g c : Nat) (w : World) (h : Blk w g 24 #[.int .i64 a.k, .int .i64 a.n, .int .u64 a.u, .string a.s]) :
    Calls Try.prog 9 #[.slice (some ⟨g, 0, none⟩) 1 c] w fun e w' => ∃ A' c', e = .returned (.slice A' 1 c') ∧ RdV w' A' 1 [a.short] ∧ Below w.heap.size w w' := by
  refine (short_any _ 1 c [a] w (rdv_one h) (by omega)).mono ?_
  rintro e w' ⟨A', n', c', rfl, ho, hb⟩
  obtain rfl : 1 = n' := ho.len
  exact ⟨A', c', rfl, ho.rd, hb⟩
theorem vS2 {W : World} {g g' : Nat} {a b : VV} (h : Blk W g 24 #[.int .i64 a.k, .int .i64 a.n, .int .u64 a.u, .string a.s]) (h' : Blk W g' 24 #[.int .i64 b.k, .int .i64 b.n, .int .u64 b.u, .string b.s]) : W.cell? ⟨g, 0, none⟩ = some (.int .i64 a.k) ∧ W.cell? ⟨g, 1, none⟩ = some (.int .i64 a.n) ∧ W.cell? ⟨g, 2, none⟩ = some (.int .u64 a.u) ∧ W.cell? ⟨g, 3, none⟩ = some (.string a.s) ∧ W.cell? ⟨g', 0, none⟩ = some (.int .i64 b.k) ∧ W.cell? ⟨g', 1, none⟩ = some (.int .i64 b.n) ∧ W.cell? ⟨g', 2, none⟩ = some (.int .u64 b.u) ∧ W.cell? ⟨g', 3, none⟩ = some (.string b.s) :=
  ⟨h.cell 0, h.cell 1, h.cell 2, h.cell 3, h'.cell 0, h'.cell 1, h'.cell 2, h'.cell 3⟩
structure SV (w : World) (p : Addr) (x : VV) : Prop where
  lt : p.block < w.heap.size
  c0 : w.cell? p = some (.int .i64 x.k)
  c1 : w.cell? ⟨p.block, p.off + 1, none⟩ = some (.int .i64 x.n)
  c2 : w.cell? ⟨p.block, p.off + 2, none⟩ = some (.int .u64 x.u)
  c3 : w.cell? ⟨p.block, p.off + 3, none⟩ = some (.string x.s)
theorem SV.below {w w' : World} {p : Addr} {x : VV} (h : SV w p x) (hb : Below w.heap.size w w') : SV w' p x := by
  refine ⟨Nat.lt_of_lt_of_le h.lt hb.size, (hb.cell ?_).trans h.c0, (hb.cell ?_).trans h.c1, (hb.cell ?_).trans h.c2, (hb.cell ?_).trans h.c3⟩ <;> exact h.lt
theorem svx {w : World} {A : Option Addr} {x : VV} (h : RdV w A 1 [x]) : ∃ p, A = some p ∧ SV w p x := by
  obtain ⟨p, v, rfl, hv, hl, c0, c1, c2, c3⟩ := h.2 0 (by decide)
  obtain rfl : x = v := by simpa using hv
  have e : p.add (0 * 4) = p := by simp [Addr.add]
  rw [e] at c0 c1 c2 c3
  exact ⟨p, rfl, hl, c0, c1, c2, c3⟩
theorem cval_o (v : VV) (hu : uOk v) (h : v.ok = true) (w : World) : Calls Try.prog 10 #[.agg #[.int .i64 v.k, .int .i64 v.n, .int .u64 v.u, .string v.s]] w fun e w' => ∃ A n c, e = .returned (.tuple #[.slice A n c, .int .i64 0]) ∧ RdB w' A n (valB v) ∧ n ≤ c ∧ Below w.heap.size w w' :=
  (cval_y v hu h w).mono fun _ _ ⟨A, c, h1, h2, h3⟩ => ⟨A, _, c, h1, h2.rd, h2.cap.1, h3⟩
theorem cval_z (v : VV) (hu : uOk v) (h : v.ok = false) (w : World) : Calls Try.prog 10 #[.agg #[.int .i64 v.k, .int .i64 v.n, .int .u64 v.u, .string v.s]] w fun e w' => ∃ A n c, e = .returned (.tuple #[.slice A n c, .int .i64 120]) ∧ Below w.heap.size w w' :=
  (cval_n v hu h w).mono fun _ _ ⟨A, c, h1, _, h3⟩ => ⟨A, _, c, h1, h3⟩
theorem equal_self (A B : Option Addr) (n c m d : Nat) (xs : List UInt8) (w : World) (ha : RdB w A n xs) (hb : RdB w B m xs) :
    Calls Try.prog 11 #[.slice A n c, .slice B m d] w fun e w' => e = .returned (.bool true) ∧ w = w' := by
  have := equal_any A B n c m d xs xs w ha hb
  rwa [show (xs == xs) = true from by simp] at this
def eqVV (v u : VV) : Bool := v.k == u.k && (v.n == u.n && (v.u == u.u && v.s.toList == u.s.toList))
theorem eqVV_iff (v u : VV) : eqVV v u = true ↔ v = u := by
  rcases v with ⟨k, n, x, ⟨⟨s⟩⟩⟩
  rcases u with ⟨k', n', x', ⟨⟨s'⟩⟩⟩
  simp [eqVV, ByteArray.toList_eq]
theorem run_eqVV (v u : VV) : ∀ W, (Op.equalIn 10000 24 (.agg #[.int .i64 v.k, .int .i64 v.n, .int .u64 v.u, .string v.s]) (.agg #[.int .i64 u.k, .int .i64 u.n, .int .u64 u.u, .string u.s])).run Try.prog W = .ok (eqVV v u) W := by
  intro W
  unfold eqVV
  rw [run_equalIn_agg W 9999 _ _ _ (by kernel_rfl) (by kernel_rfl)]
  go_simp
  by_cases h1 : v.k = u.k <;> by_cases h2 : v.n = u.n <;> by_cases h3 : v.u = u.u <;> by_cases h4 : v.s.toList = u.s.toList <;> simp [h1, h2, h3, h4]
set_option maxRecDepth 100000 in
set_option maxHeartbeats 16000000 in
theorem codecApart_walk (a b : VV) (w : World) (ra : a.rng) (rb : b.rng) :
    Calls Try.prog 3 #[.agg #[.int .i64 a.k, .int .i64 a.n, .int .u64 a.u, .string a.s], .agg #[.int .i64 b.k, .int .i64 b.n, .int .u64 b.u, .string b.s]] w fun e w' => e = .returned (.bool true) ∧ Below w.heap.size w w' := by
  have HSA := Lib.hid (short_one a)
  have HSB := Lib.hid (short_one b)
  have qq := bl_al (bl_al (Below.refl w.heap.size w) (.cells #[.int .i64 a.k, .int .i64 a.n, .int .u64 a.u, .string a.s] 24)) (.cells #[.int .i64 b.k, .int .i64 b.n, .int .u64 b.u, .string b.s] 24)
  have hA := (Blk.new w 24 #[.int .i64 a.k, .int .i64 a.n, .int .u64 a.u, .string a.s]).alloc (.cells #[.int .i64 b.k, .int .i64 b.n, .int .u64 b.u, .string b.s] 24)
  have hB := Blk.new (w.alloc (.cells #[.int .i64 a.k, .int .i64 a.n, .int .u64 a.u, .string a.s] 24)) 24 #[.int .i64 b.k, .int .i64 b.n, .int .u64 b.u, .string b.s]
  simp only [World.size_alloc] at hB
  go_enter Try.func3, Try.ntmps3
  go_wp2_with fail
  refine (wakes6_any _).mono ?_
  rintro e w1 ⟨rfl, q1⟩
  replace qq := bl_ca qq q1
  replace hA := hA.ca q1
  replace hB := hB.ca q1
  clear q1
  go_wp2_with fail
  have W1 : Blk ((w1.alloc (.cells #[.int .i64 b.k, .int .i64 b.n, .int .u64 b.u, .string b.s] 24)).alloc (.cells #[.int .i64 a.k, .int .i64 a.n, .int .u64 a.u, .string a.s] 24)).drew (w1.heap.size + 1) 24 #[.int .i64 a.k, .int .i64 a.n, .int .u64 a.u, .string a.s] := (by have := Blk.new (w1.alloc (.cells #[.int .i64 b.k, .int .i64 b.n, .int .u64 b.u, .string b.s] 24)) 24 #[.int .i64 a.k, .int .i64 a.n, .int .u64 a.u, .string a.s]; simp only [World.size_alloc] at this; exact this.drew)
  have W2 : Blk ((w1.alloc (.cells #[.int .i64 a.k, .int .i64 a.n, .int .u64 a.u, .string a.s] 24)).alloc (.cells #[.int .i64 b.k, .int .i64 b.n, .int .u64 b.u, .string b.s] 24)).drew w1.heap.size 24 #[.int .i64 a.k, .int .i64 a.n, .int .u64 a.u, .string a.s] := ((Blk.new w1 24 #[.int .i64 a.k, .int .i64 a.n, .int .u64 a.u, .string a.s]).alloc (.cells #[.int .i64 b.k, .int .i64 b.n, .int .u64 b.u, .string b.s] 24)).drew
  have W3 : Blk (w1.alloc (.cells #[.int .i64 a.k, .int .i64 a.n, .int .u64 a.u, .string a.s] 24)).drew w1.heap.size 24 #[.int .i64 a.k, .int .i64 a.n, .int .u64 a.u, .string a.s] := (Blk.new w1 24 #[.int .i64 a.k, .int .i64 a.n, .int .u64 a.u, .string a.s]).drew
  have X1 : Blk ((w1.alloc (.cells #[.int .i64 b.k, .int .i64 b.n, .int .u64 b.u, .string b.s] 24)).alloc (.cells #[.int .i64 a.k, .int .i64 a.n, .int .u64 a.u, .string a.s] 24)).drew w1.heap.size 24 #[.int .i64 b.k, .int .i64 b.n, .int .u64 b.u, .string b.s] := ((Blk.new w1 24 #[.int .i64 b.k, .int .i64 b.n, .int .u64 b.u, .string b.s]).alloc (.cells #[.int .i64 a.k, .int .i64 a.n, .int .u64 a.u, .string a.s] 24)).drew
  have X2 : Blk ((w1.alloc (.cells #[.int .i64 a.k, .int .i64 a.n, .int .u64 a.u, .string a.s] 24)).alloc (.cells #[.int .i64 b.k, .int .i64 b.n, .int .u64 b.u, .string b.s] 24)).drew (w1.heap.size + 1) 24 #[.int .i64 b.k, .int .i64 b.n, .int .u64 b.u, .string b.s] := (by have := Blk.new (w1.alloc (.cells #[.int .i64 a.k, .int .i64 a.n, .int .u64 a.u, .string a.s] 24)) 24 #[.int .i64 b.k, .int .i64 b.n, .int .u64 b.u, .string b.s]; simp only [World.size_alloc] at this; exact this.drew)
  go_region_held3 (fun w' => w'.cell? ⟨w.heap.size, 0, none⟩ = some (.int .i64 a.k) ∧ w'.cell? ⟨w.heap.size, 1, none⟩ = some (.int .i64 a.n) ∧ w'.cell? ⟨w.heap.size, 2, none⟩ = some (.int .u64 a.u) ∧ w'.cell? ⟨w.heap.size, 3, none⟩ = some (.string a.s) ∧ w'.cell? ⟨w.heap.size + 1, 0, none⟩ = some (.int .i64 b.k) ∧ w'.cell? ⟨w.heap.size + 1, 1, none⟩ = some (.int .i64 b.n) ∧ w'.cell? ⟨w.heap.size + 1, 2, none⟩ = some (.int .u64 b.u) ∧ w'.cell? ⟨w.heap.size + 1, 3, none⟩ = some (.string b.s)) (first | with_reducible exact vS2 (hA) (hB) | with_reducible exact vS2 ((hA).drew) ((hB).drew) | with_reducible exact vS2 (((hA).alloc _).drew) (((hB).alloc _).drew) | with_reducible exact vS2 ((((hA).alloc _).alloc _).drew) ((((hB).alloc _).alloc _).drew) | with_reducible exact vS2 ((hA).alloc _) ((hB).alloc _) | with_reducible exact vS2 (((hA).alloc _).alloc _) (((hB).alloc _).alloc _))
    (first
      | (go_at_call 9; (with_reducible refine (HSA.out _ _ _ (by first | with_reducible exact W1 | with_reducible exact W2 | with_reducible exact W3)).mono ?_); rintro e wa ⟨A1, c1, rfl, rA, qa⟩; (try replace X1 : Blk wa w1.heap.size 24 #[.int .i64 b.k, .int .i64 b.n, .int .u64 b.u, .string b.s] := (by with_reducible exact X1.ca qa)); (try replace X2 : Blk wa (w1.heap.size + 1) 24 #[.int .i64 b.k, .int .i64 b.n, .int .u64 b.u, .string b.s] := (by with_reducible exact X2.ca qa)); replace hA : Blk wa (w.heap.size) 24 #[.int .i64 a.k, .int .i64 a.n, .int .u64 a.u, .string a.s] := (by first | with_reducible exact (hA).ca qa | with_reducible exact ((hA).drew).ca qa | with_reducible exact (((hA).alloc _).drew).ca qa | with_reducible exact ((((hA).alloc _).alloc _).drew).ca qa | with_reducible exact ((hA).alloc _).ca qa | with_reducible exact (((hA).alloc _).alloc _).ca qa); replace hB : Blk wa (w.heap.size + 1) 24 #[.int .i64 b.k, .int .i64 b.n, .int .u64 b.u, .string b.s] := (by first | with_reducible exact (hB).ca qa | with_reducible exact ((hB).drew).ca qa | with_reducible exact (((hB).alloc _).drew).ca qa | with_reducible exact ((((hB).alloc _).alloc _).drew).ca qa | with_reducible exact ((hB).alloc _).ca qa | with_reducible exact (((hB).alloc _).alloc _).ca qa); replace qq : Below w.heap.size w wa := (by first | with_reducible exact bl_ca (qq) qa | with_reducible exact bl_ca (bl_d1 (qq)) qa | with_reducible exact bl_ca (bl_d1 (bl_al (qq) _)) qa | with_reducible exact bl_ca (bl_d1 (bl_al (bl_al (qq) _) _)) qa | with_reducible exact bl_ca (bl_al (qq) _) qa | with_reducible exact bl_ca (bl_al (bl_al (qq) _) _) qa))
      | (go_at_call 9; (with_reducible refine (HSB.out _ _ _ (by first | with_reducible exact X1 | with_reducible exact X2 | with_reducible exact X1.drew | with_reducible exact X2.drew | with_reducible exact Blk.new wa 24 #[.int .i64 b.k, .int .i64 b.n, .int .u64 b.u, .string b.s] | with_reducible exact (Blk.new wa 24 #[.int .i64 b.k, .int .i64 b.n, .int .u64 b.u, .string b.s]).drew)).mono ?_); rintro e wb ⟨A2, c2, rfl, rB, qb⟩; replace rA : RdV wb A1 1 [a.short] := (by first | with_reducible exact rA.below qb | with_reducible exact rA.below (bl_ca (bl_d1 (Below.refl _ _)) qb) | with_reducible exact rA.below (bl_ca (bl_al (Below.refl _ _) _) qb) | with_reducible exact rA.below (bl_ca (bl_d1 (bl_al (Below.refl _ _) _)) qb)); replace hA : Blk wb (w.heap.size) 24 #[.int .i64 a.k, .int .i64 a.n, .int .u64 a.u, .string a.s] := (by first | with_reducible exact (hA).ca qb | with_reducible exact ((hA).drew).ca qb | with_reducible exact (((hA).alloc _).drew).ca qb | with_reducible exact ((((hA).alloc _).alloc _).drew).ca qb | with_reducible exact ((hA).alloc _).ca qb | with_reducible exact (((hA).alloc _).alloc _).ca qb); replace hB : Blk wb (w.heap.size + 1) 24 #[.int .i64 b.k, .int .i64 b.n, .int .u64 b.u, .string b.s] := (by first | with_reducible exact (hB).ca qb | with_reducible exact ((hB).drew).ca qb | with_reducible exact (((hB).alloc _).drew).ca qb | with_reducible exact ((((hB).alloc _).alloc _).drew).ca qb | with_reducible exact ((hB).alloc _).ca qb | with_reducible exact (((hB).alloc _).alloc _).ca qb); replace qq : Below w.heap.size w wb := (by first | with_reducible exact bl_ca (qq) qb | with_reducible exact bl_ca (bl_d1 (qq)) qb | with_reducible exact bl_ca (bl_d1 (bl_al (qq) _)) qb | with_reducible exact bl_ca (bl_d1 (bl_al (bl_al (qq) _) _)) qb | with_reducible exact bl_ca (bl_al (qq) _) qb | with_reducible exact bl_ca (bl_al (bl_al (qq) _) _) qb)))
  · clear HSA HSB W1 W2 W3 X1 X2 hA hB
    have rx := short_rng ra
    have ry := short_rng rb
    obtain ⟨p1, rfl, s1⟩ := svx rA
    obtain ⟨p2, rfl, s2⟩ := svx rB
    clear rA rB ra rb
    generalize a.short = x at rx s1
    generalize b.short = y at ry s2
    cases hx : x.ok
    · cases hy : y.ok
      · have HX := Lib.hid (fun w => cval_z x rx.2 hx w)
        have HY := Lib.hid (fun w => cval_z y ry.2 hy w)
        clear hx hy
        have c0 := s1.c0
        have c1 := s1.c1
        have c2 := s1.c2
        have c3 := s1.c3
        go_wp2_with fail
        refine (HX.out _).mono ?_
        rintro e wc ⟨A3, n3, c3, rfl, q3⟩
        replace qq := bl_ca qq q3
        replace s1 := s1.below q3
        replace s2 := s2.below q3
        clear q3 HX
        have d0 := s2.c0
        have d1 := s2.c1
        have d2 := s2.c2
        have d3 := s2.c3
        go_wp2_with fail
        refine (HY.out _).mono ?_
        rintro e wd ⟨A4, n4, c4, rfl, q4⟩
        replace qq := bl_ca qq q4
        replace s1 := s1.below q4
        replace s2 := s2.below q4
        clear q4 HY
        go_wp2
        exact bodyPost_ret (v := .bool true) (by simp [results, Try.results3, go_sem]) rfl ⟨rfl, qq⟩
      · have HX := Lib.hid (fun w => cval_z x rx.2 hx w)
        have HY := Lib.hid (fun w => cval_o y ry.2 hy w)
        clear hx hy
        have c0 := s1.c0
        have c1 := s1.c1
        have c2 := s1.c2
        have c3 := s1.c3
        go_wp2_with fail
        refine (HX.out _).mono ?_
        rintro e wc ⟨A3, n3, c3, rfl, q3⟩
        replace qq := bl_ca qq q3
        replace s1 := s1.below q3
        replace s2 := s2.below q3
        clear q3 HX
        have d0 := s2.c0
        have d1 := s2.c1
        have d2 := s2.c2
        have d3 := s2.c3
        go_wp2_with fail
        refine (HY.out _).mono ?_
        rintro e wd ⟨A4, n4, c4, rfl, o4, l4, q4⟩
        replace qq := bl_ca qq q4
        replace s1 := s1.below q4
        replace s2 := s2.below q4
        clear q4 HY
        go_wp2
        exact bodyPost_ret (v := .bool true) (by simp [results, Try.results3, go_sem]) rfl ⟨rfl, qq⟩
    · cases hy : y.ok
      · have HX := Lib.hid (fun w => cval_o x rx.2 hx w)
        have HY := Lib.hid (fun w => cval_z y ry.2 hy w)
        clear hx hy
        have c0 := s1.c0
        have c1 := s1.c1
        have c2 := s1.c2
        have c3 := s1.c3
        go_wp2_with fail
        refine (HX.out _).mono ?_
        rintro e wc ⟨A3, n3, c3, rfl, o3, l3, q3⟩
        replace qq := bl_ca qq q3
        replace s1 := s1.below q3
        replace s2 := s2.below q3
        clear q3 HX
        have d0 := s2.c0
        have d1 := s2.c1
        have d2 := s2.c2
        have d3 := s2.c3
        go_wp2_with fail
        refine (HY.out _).mono ?_
        rintro e wd ⟨A4, n4, c4, rfl, q4⟩
        replace qq := bl_ca qq q4
        replace s1 := s1.below q4
        replace s2 := s2.below q4
        replace o3 := o3.below q4
        clear q4 HY
        go_wp2
        exact bodyPost_ret (v := .bool true) (by simp [results, Try.results3, go_sem]) rfl ⟨rfl, qq⟩
      · by_cases hxy : x = y
        · subst hxy
          have HQ : ∀ W, (Op.equalIn 10000 24 (.agg #[.int .i64 x.k, .int .i64 x.n, .int .u64 x.u, .string x.s]) (.agg #[.int .i64 x.k, .int .i64 x.n, .int .u64 x.u, .string x.s])).run Try.prog W = .ok true W := fun W => by rw [run_eqVV]; rw [(eqVV_iff x x).2 rfl]
          have HX := Lib.hid (fun w => cval_o x rx.2 hx w)
          have HY := Lib.hid (fun w => cval_o x ry.2 hy w)
          clear hx hy
          have c0 := s1.c0
          have c1 := s1.c1
          have c2 := s1.c2
          have c3 := s1.c3
          go_wp2_with fail
          refine (HX.out _).mono ?_
          rintro e wc ⟨A3, n3, c3, rfl, o3, l3, q3⟩
          replace qq := bl_ca qq q3
          replace s1 := s1.below q3
          replace s2 := s2.below q3
          clear q3 HX
          have d0 := s2.c0
          have d1 := s2.c1
          have d2 := s2.c2
          have d3 := s2.c3
          go_wp2_with fail
          refine (HY.out _).mono ?_
          rintro e wd ⟨A4, n4, c4, rfl, o4, l4, q4⟩
          replace qq := bl_ca qq q4
          replace s1 := s1.below q4
          replace s2 := s2.below q4
          replace o3 := o3.below q4
          clear q4 HY
          have e0 := s1.c0
          have e1 := s1.c1
          have e2 := s1.c2
          have e3 := s1.c3
          have f0 := s2.c0
          have f1 := s2.c1
          have f2 := s2.c2
          have f3 := s2.c3
          go_wp2_with fail
          go_quiet (fail)
          go_wp2_with fail
          refine (equal_self _ _ _ _ _ _ _ _ (o3.below (by first | with_reducible exact Below.refl _ _ | with_reducible exact bl_dr (Below.refl _ _) _ | with_reducible exact bl_d1 (Below.refl _ _))) (o4.below (by first | with_reducible exact Below.refl _ _ | with_reducible exact bl_dr (Below.refl _ _) _ | with_reducible exact bl_d1 (Below.refl _ _)))).mono ?_
          rintro e we ⟨rfl, rfl⟩
          go_wp2
          exact bodyPost_ret (v := .bool true) (by simp [results, Try.results3, go_sem]) rfl ⟨rfl, by first | with_reducible exact qq | with_reducible exact bl_dr qq _ | with_reducible exact bl_d1 qq⟩
        · have HP1 := valB_apart hx hy rx ry hxy
          have HP2 := valB_apart hy hx ry rx (Ne.symm hxy)
          have HQ : ∀ W, (Op.equalIn 10000 24 (.agg #[.int .i64 x.k, .int .i64 x.n, .int .u64 x.u, .string x.s]) (.agg #[.int .i64 y.k, .int .i64 y.n, .int .u64 y.u, .string y.s])).run Try.prog W = .ok false W := fun W => by rw [run_eqVV]; rw [show eqVV x y = false from by cases he : eqVV x y; rfl; exact absurd ((eqVV_iff x y).1 he) hxy]
          have HX := Lib.hid (fun w => cval_o x rx.2 hx w)
          have HY := Lib.hid (fun w => cval_o y ry.2 hy w)
          clear hx hy
          have c0 := s1.c0
          have c1 := s1.c1
          have c2 := s1.c2
          have c3 := s1.c3
          go_wp2_with fail
          refine (HX.out _).mono ?_
          rintro e wc ⟨A3, n3, c3, rfl, o3, l3, q3⟩
          replace qq := bl_ca qq q3
          replace s1 := s1.below q3
          replace s2 := s2.below q3
          clear q3 HX
          have d0 := s2.c0
          have d1 := s2.c1
          have d2 := s2.c2
          have d3 := s2.c3
          go_wp2_with fail
          refine (HY.out _).mono ?_
          rintro e wd ⟨A4, n4, c4, rfl, o4, l4, q4⟩
          replace qq := bl_ca qq q4
          replace s1 := s1.below q4
          replace s2 := s2.below q4
          replace o3 := o3.below q4
          clear q4 HY
          have e0 := s1.c0
          have e1 := s1.c1
          have e2 := s1.c2
          have e3 := s1.c3
          have f0 := s2.c0
          have f1 := s2.c1
          have f2 := s2.c2
          have f3 := s2.c3
          have PA := Lib.hid (fun W ha hb => HP1 ▸ prefix_any A3 A4 n3 c3 n4 c4 (valB x) (valB y) W ha hb l3 : ∀ W, RdB W A3 n3 (valB x) → RdB W A4 n4 (valB y) → Calls Try.prog 12 #[.slice A3 n3 c3, .slice A4 n4 c4] W fun e w' => e = .returned (.bool false) ∧ W = w')
          have PB := Lib.hid (fun W ha hb => HP2 ▸ prefix_any A4 A3 n4 c4 n3 c3 (valB y) (valB x) W hb ha l4 : ∀ W, RdB W A3 n3 (valB x) → RdB W A4 n4 (valB y) → Calls Try.prog 12 #[.slice A4 n4 c4, .slice A3 n3 c3] W fun e w' => e = .returned (.bool false) ∧ W = w')
          clear HP1 HP2
          go_wp2_with fail
          go_quiet (fail)
          go_wp2_with fail
          refine (PA.out _ (o3.below (by first | with_reducible exact Below.refl _ _ | with_reducible exact bl_dr (Below.refl _ _) _ | with_reducible exact bl_d1 (Below.refl _ _))) (o4.below (by first | with_reducible exact Below.refl _ _ | with_reducible exact bl_dr (Below.refl _ _) _ | with_reducible exact bl_d1 (Below.refl _ _)))).mono ?_
          rintro e we ⟨rfl, rfl⟩
          go_wp2_with fail
          refine (PB.out _ (o3.below (by first | with_reducible exact Below.refl _ _ | with_reducible exact bl_dr (Below.refl _ _) _ | with_reducible exact bl_d1 (Below.refl _ _))) (o4.below (by first | with_reducible exact Below.refl _ _ | with_reducible exact bl_dr (Below.refl _ _) _ | with_reducible exact bl_d1 (Below.refl _ _)))).mono ?_
          rintro e wf ⟨rfl, rfl⟩
          go_wp2
          exact bodyPost_ret (v := .bool true) (by simp [results, Try.results3, go_sem]) rfl ⟨rfl, by first | with_reducible exact qq | with_reducible exact bl_dr qq _ | with_reducible exact bl_d1 qq⟩
  · clear HSA HSB W1 W2 W3 X1 X2 hA hB
    have rx := short_rng ra
    have ry := short_rng rb
    obtain ⟨p1, rfl, s1⟩ := svx rA
    obtain ⟨p2, rfl, s2⟩ := svx rB
    clear rA rB ra rb
    generalize a.short = x at rx s1
    generalize b.short = y at ry s2
    cases hx : x.ok
    · cases hy : y.ok
      · have HX := Lib.hid (fun w => cval_z x rx.2 hx w)
        have HY := Lib.hid (fun w => cval_z y ry.2 hy w)
        clear hx hy
        have c0 := s1.c0
        have c1 := s1.c1
        have c2 := s1.c2
        have c3 := s1.c3
        go_wp2_with fail
        refine (HX.out _).mono ?_
        rintro e wc ⟨A3, n3, c3, rfl, q3⟩
        replace qq := bl_ca qq q3
        replace s1 := s1.below q3
        replace s2 := s2.below q3
        clear q3 HX
        have d0 := s2.c0
        have d1 := s2.c1
        have d2 := s2.c2
        have d3 := s2.c3
        go_wp2_with fail
        refine (HY.out _).mono ?_
        rintro e wd ⟨A4, n4, c4, rfl, q4⟩
        replace qq := bl_ca qq q4
        replace s1 := s1.below q4
        replace s2 := s2.below q4
        clear q4 HY
        go_wp2
        exact bodyPost_ret (v := .bool true) (by simp [results, Try.results3, go_sem]) rfl ⟨rfl, qq⟩
      · have HX := Lib.hid (fun w => cval_z x rx.2 hx w)
        have HY := Lib.hid (fun w => cval_o y ry.2 hy w)
        clear hx hy
        have c0 := s1.c0
        have c1 := s1.c1
        have c2 := s1.c2
        have c3 := s1.c3
        go_wp2_with fail
        refine (HX.out _).mono ?_
        rintro e wc ⟨A3, n3, c3, rfl, q3⟩
        replace qq := bl_ca qq q3
        replace s1 := s1.below q3
        replace s2 := s2.below q3
        clear q3 HX
        have d0 := s2.c0
        have d1 := s2.c1
        have d2 := s2.c2
        have d3 := s2.c3
        go_wp2_with fail
        refine (HY.out _).mono ?_
        rintro e wd ⟨A4, n4, c4, rfl, o4, l4, q4⟩
        replace qq := bl_ca qq q4
        replace s1 := s1.below q4
        replace s2 := s2.below q4
        clear q4 HY
        go_wp2
        exact bodyPost_ret (v := .bool true) (by simp [results, Try.results3, go_sem]) rfl ⟨rfl, qq⟩
    · cases hy : y.ok
      · have HX := Lib.hid (fun w => cval_o x rx.2 hx w)
        have HY := Lib.hid (fun w => cval_z y ry.2 hy w)
        clear hx hy
        have c0 := s1.c0
        have c1 := s1.c1
        have c2 := s1.c2
        have c3 := s1.c3
        go_wp2_with fail
        refine (HX.out _).mono ?_
        rintro e wc ⟨A3, n3, c3, rfl, o3, l3, q3⟩
        replace qq := bl_ca qq q3
        replace s1 := s1.below q3
        replace s2 := s2.below q3
        clear q3 HX
        have d0 := s2.c0
        have d1 := s2.c1
        have d2 := s2.c2
        have d3 := s2.c3
        go_wp2_with fail
        refine (HY.out _).mono ?_
        rintro e wd ⟨A4, n4, c4, rfl, q4⟩
        replace qq := bl_ca qq q4
        replace s1 := s1.below q4
        replace s2 := s2.below q4
        replace o3 := o3.below q4
        clear q4 HY
        go_wp2
        exact bodyPost_ret (v := .bool true) (by simp [results, Try.results3, go_sem]) rfl ⟨rfl, qq⟩
      · by_cases hxy : x = y
        · subst hxy
          have HQ : ∀ W, (Op.equalIn 10000 24 (.agg #[.int .i64 x.k, .int .i64 x.n, .int .u64 x.u, .string x.s]) (.agg #[.int .i64 x.k, .int .i64 x.n, .int .u64 x.u, .string x.s])).run Try.prog W = .ok true W := fun W => by rw [run_eqVV]; rw [(eqVV_iff x x).2 rfl]
          have HX := Lib.hid (fun w => cval_o x rx.2 hx w)
          have HY := Lib.hid (fun w => cval_o x ry.2 hy w)
          clear hx hy
          have c0 := s1.c0
          have c1 := s1.c1
          have c2 := s1.c2
          have c3 := s1.c3
          go_wp2_with fail
          refine (HX.out _).mono ?_
          rintro e wc ⟨A3, n3, c3, rfl, o3, l3, q3⟩
          replace qq := bl_ca qq q3
          replace s1 := s1.below q3
          replace s2 := s2.below q3
          clear q3 HX
          have d0 := s2.c0
          have d1 := s2.c1
          have d2 := s2.c2
          have d3 := s2.c3
          go_wp2_with fail
          refine (HY.out _).mono ?_
          rintro e wd ⟨A4, n4, c4, rfl, o4, l4, q4⟩
          replace qq := bl_ca qq q4
          replace s1 := s1.below q4
          replace s2 := s2.below q4
          replace o3 := o3.below q4
          clear q4 HY
          have e0 := s1.c0
          have e1 := s1.c1
          have e2 := s1.c2
          have e3 := s1.c3
          have f0 := s2.c0
          have f1 := s2.c1
          have f2 := s2.c2
          have f3 := s2.c3
          go_wp2_with fail
          go_quiet (fail)
          go_wp2_with fail
          refine (equal_self _ _ _ _ _ _ _ _ (o3.below (by first | with_reducible exact Below.refl _ _ | with_reducible exact bl_dr (Below.refl _ _) _ | with_reducible exact bl_d1 (Below.refl _ _))) (o4.below (by first | with_reducible exact Below.refl _ _ | with_reducible exact bl_dr (Below.refl _ _) _ | with_reducible exact bl_d1 (Below.refl _ _)))).mono ?_
          rintro e we ⟨rfl, rfl⟩
          go_wp2
          exact bodyPost_ret (v := .bool true) (by simp [results, Try.results3, go_sem]) rfl ⟨rfl, by first | with_reducible exact qq | with_reducible exact bl_dr qq _ | with_reducible exact bl_d1 qq⟩
        · have HP1 := valB_apart hx hy rx ry hxy
          have HP2 := valB_apart hy hx ry rx (Ne.symm hxy)
          have HQ : ∀ W, (Op.equalIn 10000 24 (.agg #[.int .i64 x.k, .int .i64 x.n, .int .u64 x.u, .string x.s]) (.agg #[.int .i64 y.k, .int .i64 y.n, .int .u64 y.u, .string y.s])).run Try.prog W = .ok false W := fun W => by rw [run_eqVV]; rw [show eqVV x y = false from by cases he : eqVV x y; rfl; exact absurd ((eqVV_iff x y).1 he) hxy]
          have HX := Lib.hid (fun w => cval_o x rx.2 hx w)
          have HY := Lib.hid (fun w => cval_o y ry.2 hy w)
          clear hx hy
          have c0 := s1.c0
          have c1 := s1.c1
          have c2 := s1.c2
          have c3 := s1.c3
          go_wp2_with fail
          refine (HX.out _).mono ?_
          rintro e wc ⟨A3, n3, c3, rfl, o3, l3, q3⟩
          replace qq := bl_ca qq q3
          replace s1 := s1.below q3
          replace s2 := s2.below q3
          clear q3 HX
          have d0 := s2.c0
          have d1 := s2.c1
          have d2 := s2.c2
          have d3 := s2.c3
          go_wp2_with fail
          refine (HY.out _).mono ?_
          rintro e wd ⟨A4, n4, c4, rfl, o4, l4, q4⟩
          replace qq := bl_ca qq q4
          replace s1 := s1.below q4
          replace s2 := s2.below q4
          replace o3 := o3.below q4
          clear q4 HY
          have e0 := s1.c0
          have e1 := s1.c1
          have e2 := s1.c2
          have e3 := s1.c3
          have f0 := s2.c0
          have f1 := s2.c1
          have f2 := s2.c2
          have f3 := s2.c3
          have PA := Lib.hid (fun W ha hb => HP1 ▸ prefix_any A3 A4 n3 c3 n4 c4 (valB x) (valB y) W ha hb l3 : ∀ W, RdB W A3 n3 (valB x) → RdB W A4 n4 (valB y) → Calls Try.prog 12 #[.slice A3 n3 c3, .slice A4 n4 c4] W fun e w' => e = .returned (.bool false) ∧ W = w')
          have PB := Lib.hid (fun W ha hb => HP2 ▸ prefix_any A4 A3 n4 c4 n3 c3 (valB y) (valB x) W hb ha l4 : ∀ W, RdB W A3 n3 (valB x) → RdB W A4 n4 (valB y) → Calls Try.prog 12 #[.slice A4 n4 c4, .slice A3 n3 c3] W fun e w' => e = .returned (.bool false) ∧ W = w')
          clear HP1 HP2
          go_wp2_with fail
          go_quiet (fail)
          go_wp2_with fail
          refine (PA.out _ (o3.below (by first | with_reducible exact Below.refl _ _ | with_reducible exact bl_dr (Below.refl _ _) _ | with_reducible exact bl_d1 (Below.refl _ _))) (o4.below (by first | with_reducible exact Below.refl _ _ | with_reducible exact bl_dr (Below.refl _ _) _ | with_reducible exact bl_d1 (Below.refl _ _)))).mono ?_
          rintro e we ⟨rfl, rfl⟩
          go_wp2_with fail
          refine (PB.out _ (o3.below (by first | with_reducible exact Below.refl _ _ | with_reducible exact bl_dr (Below.refl _ _) _ | with_reducible exact bl_d1 (Below.refl _ _))) (o4.below (by first | with_reducible exact Below.refl _ _ | with_reducible exact bl_dr (Below.refl _ _) _ | with_reducible exact bl_d1 (Below.refl _ _)))).mono ?_
          rintro e wf ⟨rfl, rfl⟩
          go_wp2
          exact bodyPost_ret (v := .bool true) (by simp [results, Try.results3, go_sem]) rfl ⟨rfl, by first | with_reducible exact qq | with_reducible exact bl_dr qq _ | with_reducible exact bl_d1 qq⟩
  · clear HSA HSB W1 W2 W3 X1 X2 hA hB
    have rx := short_rng ra
    have ry := short_rng rb
    obtain ⟨p1, rfl, s1⟩ := svx rA
    obtain ⟨p2, rfl, s2⟩ := svx rB
    clear rA rB ra rb
    generalize a.short = x at rx s1
    generalize b.short = y at ry s2
    cases hx : x.ok
    · cases hy : y.ok
      · have HX := Lib.hid (fun w => cval_z x rx.2 hx w)
        have HY := Lib.hid (fun w => cval_z y ry.2 hy w)
        clear hx hy
        have c0 := s1.c0
        have c1 := s1.c1
        have c2 := s1.c2
        have c3 := s1.c3
        go_wp2_with fail
        refine (HX.out _).mono ?_
        rintro e wc ⟨A3, n3, c3, rfl, q3⟩
        replace qq := bl_ca qq q3
        replace s1 := s1.below q3
        replace s2 := s2.below q3
        clear q3 HX
        have d0 := s2.c0
        have d1 := s2.c1
        have d2 := s2.c2
        have d3 := s2.c3
        go_wp2_with fail
        refine (HY.out _).mono ?_
        rintro e wd ⟨A4, n4, c4, rfl, q4⟩
        replace qq := bl_ca qq q4
        replace s1 := s1.below q4
        replace s2 := s2.below q4
        clear q4 HY
        go_wp2
        exact bodyPost_ret (v := .bool true) (by simp [results, Try.results3, go_sem]) rfl ⟨rfl, qq⟩
      · have HX := Lib.hid (fun w => cval_z x rx.2 hx w)
        have HY := Lib.hid (fun w => cval_o y ry.2 hy w)
        clear hx hy
        have c0 := s1.c0
        have c1 := s1.c1
        have c2 := s1.c2
        have c3 := s1.c3
        go_wp2_with fail
        refine (HX.out _).mono ?_
        rintro e wc ⟨A3, n3, c3, rfl, q3⟩
        replace qq := bl_ca qq q3
        replace s1 := s1.below q3
        replace s2 := s2.below q3
        clear q3 HX
        have d0 := s2.c0
        have d1 := s2.c1
        have d2 := s2.c2
        have d3 := s2.c3
        go_wp2_with fail
        refine (HY.out _).mono ?_
        rintro e wd ⟨A4, n4, c4, rfl, o4, l4, q4⟩
        replace qq := bl_ca qq q4
        replace s1 := s1.below q4
        replace s2 := s2.below q4
        clear q4 HY
        go_wp2
        exact bodyPost_ret (v := .bool true) (by simp [results, Try.results3, go_sem]) rfl ⟨rfl, qq⟩
    · cases hy : y.ok
      · have HX := Lib.hid (fun w => cval_o x rx.2 hx w)
        have HY := Lib.hid (fun w => cval_z y ry.2 hy w)
        clear hx hy
        have c0 := s1.c0
        have c1 := s1.c1
        have c2 := s1.c2
        have c3 := s1.c3
        go_wp2_with fail
        refine (HX.out _).mono ?_
        rintro e wc ⟨A3, n3, c3, rfl, o3, l3, q3⟩
        replace qq := bl_ca qq q3
        replace s1 := s1.below q3
        replace s2 := s2.below q3
        clear q3 HX
        have d0 := s2.c0
        have d1 := s2.c1
        have d2 := s2.c2
        have d3 := s2.c3
        go_wp2_with fail
        refine (HY.out _).mono ?_
        rintro e wd ⟨A4, n4, c4, rfl, q4⟩
        replace qq := bl_ca qq q4
        replace s1 := s1.below q4
        replace s2 := s2.below q4
        replace o3 := o3.below q4
        clear q4 HY
        go_wp2
        exact bodyPost_ret (v := .bool true) (by simp [results, Try.results3, go_sem]) rfl ⟨rfl, qq⟩
      · by_cases hxy : x = y
        · subst hxy
          have HQ : ∀ W, (Op.equalIn 10000 24 (.agg #[.int .i64 x.k, .int .i64 x.n, .int .u64 x.u, .string x.s]) (.agg #[.int .i64 x.k, .int .i64 x.n, .int .u64 x.u, .string x.s])).run Try.prog W = .ok true W := fun W => by rw [run_eqVV]; rw [(eqVV_iff x x).2 rfl]
          have HX := Lib.hid (fun w => cval_o x rx.2 hx w)
          have HY := Lib.hid (fun w => cval_o x ry.2 hy w)
          clear hx hy
          have c0 := s1.c0
          have c1 := s1.c1
          have c2 := s1.c2
          have c3 := s1.c3
          go_wp2_with fail
          refine (HX.out _).mono ?_
          rintro e wc ⟨A3, n3, c3, rfl, o3, l3, q3⟩
          replace qq := bl_ca qq q3
          replace s1 := s1.below q3
          replace s2 := s2.below q3
          clear q3 HX
          have d0 := s2.c0
          have d1 := s2.c1
          have d2 := s2.c2
          have d3 := s2.c3
          go_wp2_with fail
          refine (HY.out _).mono ?_
          rintro e wd ⟨A4, n4, c4, rfl, o4, l4, q4⟩
          replace qq := bl_ca qq q4
          replace s1 := s1.below q4
          replace s2 := s2.below q4
          replace o3 := o3.below q4
          clear q4 HY
          have e0 := s1.c0
          have e1 := s1.c1
          have e2 := s1.c2
          have e3 := s1.c3
          have f0 := s2.c0
          have f1 := s2.c1
          have f2 := s2.c2
          have f3 := s2.c3
          go_wp2_with fail
          go_quiet (fail)
          go_wp2_with fail
          refine (equal_self _ _ _ _ _ _ _ _ (o3.below (by first | with_reducible exact Below.refl _ _ | with_reducible exact bl_dr (Below.refl _ _) _ | with_reducible exact bl_d1 (Below.refl _ _))) (o4.below (by first | with_reducible exact Below.refl _ _ | with_reducible exact bl_dr (Below.refl _ _) _ | with_reducible exact bl_d1 (Below.refl _ _)))).mono ?_
          rintro e we ⟨rfl, rfl⟩
          go_wp2
          exact bodyPost_ret (v := .bool true) (by simp [results, Try.results3, go_sem]) rfl ⟨rfl, by first | with_reducible exact qq | with_reducible exact bl_dr qq _ | with_reducible exact bl_d1 qq⟩
        · have HP1 := valB_apart hx hy rx ry hxy
          have HP2 := valB_apart hy hx ry rx (Ne.symm hxy)
          have HQ : ∀ W, (Op.equalIn 10000 24 (.agg #[.int .i64 x.k, .int .i64 x.n, .int .u64 x.u, .string x.s]) (.agg #[.int .i64 y.k, .int .i64 y.n, .int .u64 y.u, .string y.s])).run Try.prog W = .ok false W := fun W => by rw [run_eqVV]; rw [show eqVV x y = false from by cases he : eqVV x y; rfl; exact absurd ((eqVV_iff x y).1 he) hxy]
          have HX := Lib.hid (fun w => cval_o x rx.2 hx w)
          have HY := Lib.hid (fun w => cval_o y ry.2 hy w)
          clear hx hy
          have c0 := s1.c0
          have c1 := s1.c1
          have c2 := s1.c2
          have c3 := s1.c3
          go_wp2_with fail
          refine (HX.out _).mono ?_
          rintro e wc ⟨A3, n3, c3, rfl, o3, l3, q3⟩
          replace qq := bl_ca qq q3
          replace s1 := s1.below q3
          replace s2 := s2.below q3
          clear q3 HX
          have d0 := s2.c0
          have d1 := s2.c1
          have d2 := s2.c2
          have d3 := s2.c3
          go_wp2_with fail
          refine (HY.out _).mono ?_
          rintro e wd ⟨A4, n4, c4, rfl, o4, l4, q4⟩
          replace qq := bl_ca qq q4
          replace s1 := s1.below q4
          replace s2 := s2.below q4
          replace o3 := o3.below q4
          clear q4 HY
          have e0 := s1.c0
          have e1 := s1.c1
          have e2 := s1.c2
          have e3 := s1.c3
          have f0 := s2.c0
          have f1 := s2.c1
          have f2 := s2.c2
          have f3 := s2.c3
          have PA := Lib.hid (fun W ha hb => HP1 ▸ prefix_any A3 A4 n3 c3 n4 c4 (valB x) (valB y) W ha hb l3 : ∀ W, RdB W A3 n3 (valB x) → RdB W A4 n4 (valB y) → Calls Try.prog 12 #[.slice A3 n3 c3, .slice A4 n4 c4] W fun e w' => e = .returned (.bool false) ∧ W = w')
          have PB := Lib.hid (fun W ha hb => HP2 ▸ prefix_any A4 A3 n4 c4 n3 c3 (valB y) (valB x) W hb ha l4 : ∀ W, RdB W A3 n3 (valB x) → RdB W A4 n4 (valB y) → Calls Try.prog 12 #[.slice A4 n4 c4, .slice A3 n3 c3] W fun e w' => e = .returned (.bool false) ∧ W = w')
          clear HP1 HP2
          go_wp2_with fail
          go_quiet (fail)
          go_wp2_with fail
          refine (PA.out _ (o3.below (by first | with_reducible exact Below.refl _ _ | with_reducible exact bl_dr (Below.refl _ _) _ | with_reducible exact bl_d1 (Below.refl _ _))) (o4.below (by first | with_reducible exact Below.refl _ _ | with_reducible exact bl_dr (Below.refl _ _) _ | with_reducible exact bl_d1 (Below.refl _ _)))).mono ?_
          rintro e we ⟨rfl, rfl⟩
          go_wp2_with fail
          refine (PB.out _ (o3.below (by first | with_reducible exact Below.refl _ _ | with_reducible exact bl_dr (Below.refl _ _) _ | with_reducible exact bl_d1 (Below.refl _ _))) (o4.below (by first | with_reducible exact Below.refl _ _ | with_reducible exact bl_dr (Below.refl _ _) _ | with_reducible exact bl_d1 (Below.refl _ _)))).mono ?_
          rintro e wf ⟨rfl, rfl⟩
          go_wp2
          exact bodyPost_ret (v := .bool true) (by simp [results, Try.results3, go_sem]) rfl ⟨rfl, by first | with_reducible exact qq | with_reducible exact bl_dr qq _ | with_reducible exact bl_d1 qq⟩
end Go.Proofs.Ytfpodalnnchnoaa
