/- bowspritref06.Value of a value that may be (printed by gen_crval.py). Conditions: the value may be; its numbers lie within their kinds. -/
import Derived.Test.YtfpodalnnchnoaaCRNum
import Derived.Test.YtfpodalnnchnoaaCApM
namespace Go.Proofs.Ytfpodalnnchnoaa
open Go.RowKit
/-- it returns bytes of its own -/
def retN (w : World) (bs : List UInt8) (x : Ending) (w' : World) : Prop := ∃ A c, x = .returned (.slice A bs.length c) ∧ OwnB w' w.heap.size A bs.length c bs ∧ Below w.heap.size w w'
set_option maxRecDepth 100000 in
set_option maxHeartbeats 4000000 in
theorem rval_0 (w : World) : Calls Try.prog 15 #[.agg #[.int .i64 0, .int .i64 0, .int .u64 0, .string ⟨#[]⟩]] w (retN w [0]) := by
  have hA := Blk.new w 24 #[.int .i64 0, .int .i64 0, .int .u64 0, .string ⟨#[]⟩]
  have bb := bl_al (Below.refl w.heap.size w) (.cells #[.int .i64 0, .int .i64 0, .int .u64 0, .string ⟨#[]⟩] 24)
  have ho := OwnB.one_ (w.alloc (.cells #[.int .i64 0, .int .i64 0, .int .u64 0, .string ⟨#[]⟩] 24)) 0 (.int .u8 0) rfl
  simp only [World.size_alloc] at ho
  have b1 := bl_al bb (.cells #[.int .u8 0] 5)
  have hA1 := hA.alloc (.cells #[.int .u8 0] 5)
  have z1 := b1.size
  have d0 : ((w.alloc (.cells #[.int .i64 0, .int .i64 0, .int .u64 0, .string ⟨#[]⟩] 24)).alloc (.cells #[.int .u8 0] 5)).cell? ⟨w.heap.size, 0, none⟩ = some (.int .i64 0) := hA1.cell 0
  have d1 : ((w.alloc (.cells #[.int .i64 0, .int .i64 0, .int .u64 0, .string ⟨#[]⟩] 24)).alloc (.cells #[.int .u8 0] 5)).cell? ⟨w.heap.size, 1, none⟩ = some (.int .i64 0) := hA1.cell 1
  have d2 : ((w.alloc (.cells #[.int .i64 0, .int .i64 0, .int .u64 0, .string ⟨#[]⟩] 24)).alloc (.cells #[.int .u8 0] 5)).cell? ⟨w.heap.size, 2, none⟩ = some (.int .u64 0) := hA1.cell 2
  have d3 : ((w.alloc (.cells #[.int .i64 0, .int .i64 0, .int .u64 0, .string ⟨#[]⟩] 24)).alloc (.cells #[.int .u8 0] 5)).cell? ⟨w.heap.size, 3, none⟩ = some (.string ⟨#[]⟩) := hA1.cell 3
  go_enter Try.func15, Try.ntmps15
  go_wp2
  go_ret
  exact ⟨_, _, rfl, ho.less (by omega), b1⟩
set_option maxRecDepth 100000 in
set_option maxHeartbeats 4000000 in
theorem rval_1 (n : Int) (hn : n = 0 ∨ n = 1) (w : World) : Calls Try.prog 15 #[.agg #[.int .i64 1, .int .i64 n, .int .u64 0, .string ⟨#[]⟩]] w (retN w [1, UInt8.ofNat n.toNat]) := by
  have hA := Blk.new w 24 #[.int .i64 1, .int .i64 n, .int .u64 0, .string ⟨#[]⟩]
  have bb := bl_al (Below.refl w.heap.size w) (.cells #[.int .i64 1, .int .i64 n, .int .u64 0, .string ⟨#[]⟩] 24)
  have ho := OwnB.one_ (w.alloc (.cells #[.int .i64 1, .int .i64 n, .int .u64 0, .string ⟨#[]⟩] 24)) 1 (.int .u8 1) rfl
  simp only [World.size_alloc] at ho
  have b1 := bl_al bb (.cells #[.int .u8 1] 5)
  have hA1 := hA.alloc (.cells #[.int .u8 1] 5)
  have z1 := b1.size
  have d0 : ((w.alloc (.cells #[.int .i64 1, .int .i64 n, .int .u64 0, .string ⟨#[]⟩] 24)).alloc (.cells #[.int .u8 1] 5)).cell? ⟨w.heap.size, 0, none⟩ = some (.int .i64 1) := hA1.cell 0
  have d1 : ((w.alloc (.cells #[.int .i64 1, .int .i64 n, .int .u64 0, .string ⟨#[]⟩] 24)).alloc (.cells #[.int .u8 1] 5)).cell? ⟨w.heap.size, 1, none⟩ = some (.int .i64 n) := hA1.cell 1
  have d2 : ((w.alloc (.cells #[.int .i64 1, .int .i64 n, .int .u64 0, .string ⟨#[]⟩] 24)).alloc (.cells #[.int .u8 1] 5)).cell? ⟨w.heap.size, 2, none⟩ = some (.int .u64 0) := hA1.cell 2
  have d3 : ((w.alloc (.cells #[.int .i64 1, .int .i64 n, .int .u64 0, .string ⟨#[]⟩] 24)).alloc (.cells #[.int .u8 1] 5)).cell? ⟨w.heap.size, 3, none⟩ = some (.string ⟨#[]⟩) := hA1.cell 3
  have b2 := bl_al b1 (.cells #[.int .u8 n] 5)
  have hr : RdB (((w.alloc (.cells #[.int .i64 1, .int .i64 n, .int .u64 0, .string ⟨#[]⟩] 24)).alloc (.cells #[.int .u8 1] 5)).alloc (.cells #[.int .u8 n] 5)) (some ⟨w.heap.size + 2, 0, none⟩) 1 [UInt8.ofNat n.toNat] := by have := RdB.one ((w.alloc (.cells #[.int .i64 1, .int .i64 n, .int .u64 0, .string ⟨#[]⟩] 24)).alloc (.cells #[.int .u8 1] 5)) (UInt8.ofNat n.toNat) (.int .u8 n) (by rcases hn with rfl | rfl <;> rfl) 5; simpa only [World.size_alloc] using this
  have ho2 := ho.alloc (.cells #[.int .u8 n] 5)
  have hw : IntKind.u8.wrap n = n := by rcases hn with rfl | rfl <;> rfl
  clear hn
  go_enter Try.func15, Try.ntmps15
  go_wp2_with (at_builtin; refine wpList_appB rfl (.tmp 12) (.tmp 16) rfl (w.heap.size + 1) (some ⟨w.heap.size + 1, 0, none⟩) 1 1 [1] (some ⟨w.heap.size + 2, 0, none⟩) 1 1 [UInt8.ofNat n.toNat] rfl rfl ho2 hr (by omega) (by simp only [World.size_alloc]; omega) ?_; intro A3 c3 w3 ho3 b3)
  go_ret
  exact ⟨_, _, rfl, ho3.less (by omega), b2.trans (b3.mono (by omega))⟩
set_option maxRecDepth 100000 in
set_option maxHeartbeats 4000000 in
theorem rval_2 (n : Int) (w : World) : Calls Try.prog 15 #[.agg #[.int .i64 2, .int .i64 n, .int .u64 0, .string ⟨#[]⟩]] w (retN w (2 :: beB 8 (U64 n))) := by
  have hA := Blk.new w 24 #[.int .i64 2, .int .i64 n, .int .u64 0, .string ⟨#[]⟩]
  have bb := bl_al (Below.refl w.heap.size w) (.cells #[.int .i64 2, .int .i64 n, .int .u64 0, .string ⟨#[]⟩] 24)
  have ho := OwnB.one_ (w.alloc (.cells #[.int .i64 2, .int .i64 n, .int .u64 0, .string ⟨#[]⟩] 24)) 2 (.int .u8 2) rfl
  simp only [World.size_alloc] at ho
  have b1 := bl_al bb (.cells #[.int .u8 2] 5)
  have hA1 := hA.alloc (.cells #[.int .u8 2] 5)
  have z1 := b1.size
  have d0 : ((w.alloc (.cells #[.int .i64 2, .int .i64 n, .int .u64 0, .string ⟨#[]⟩] 24)).alloc (.cells #[.int .u8 2] 5)).cell? ⟨w.heap.size, 0, none⟩ = some (.int .i64 2) := hA1.cell 0
  have d1 : ((w.alloc (.cells #[.int .i64 2, .int .i64 n, .int .u64 0, .string ⟨#[]⟩] 24)).alloc (.cells #[.int .u8 2] 5)).cell? ⟨w.heap.size, 1, none⟩ = some (.int .i64 n) := hA1.cell 1
  have d2 : ((w.alloc (.cells #[.int .i64 2, .int .i64 n, .int .u64 0, .string ⟨#[]⟩] 24)).alloc (.cells #[.int .u8 2] 5)).cell? ⟨w.heap.size, 2, none⟩ = some (.int .u64 0) := hA1.cell 2
  have d3 : ((w.alloc (.cells #[.int .i64 2, .int .i64 n, .int .u64 0, .string ⟨#[]⟩] 24)).alloc (.cells #[.int .u8 2] 5)).cell? ⟨w.heap.size, 3, none⟩ = some (.string ⟨#[]⟩) := hA1.cell 3
  have hx := (u64_spec n).1
  have HN := Lib.hid (fun w => number_any (U64 n) w (u64_spec n).2)
  generalize U64 n = x at *
  have PL := Lib.hid (show (2 :: beB 8 x).length = 9 from by simp [beB])
  go_enter Try.func15, Try.ntmps15
  go_wp2_with fail
  refine (HN.out _).mono ?_
  rintro e w3 ⟨A3, c3, rfl, ho3, q3⟩
  replace b1 := bl_ca b1 q3
  have ho2 := ho.below q3
  have hr := ho3.rd
  have z3 := q3.size
  clear d0 d1 d2 d3
  go_wp2_with (at_builtin; refine wpList_appB rfl (.tmp 20) (.tmp 24) rfl (w.heap.size + 1) (some ⟨w.heap.size + 1, 0, none⟩) 1 1 [2] A3 8 c3 (beB 8 x) rfl rfl ho2 hr (by omega) (by have := z3; simp only [World.size_alloc] at this; omega) ?_; intro A4 c4 w4 ho4 b4)
  go_ret
  exact ⟨A4, c4, by rw [PL.out]; rfl, by rw [PL.out]; exact ho4.less (by omega), b1.trans (b4.mono (by omega))⟩
set_option maxRecDepth 100000 in
set_option maxHeartbeats 4000000 in
theorem rval_3 (s : ByteArray) (hs : s.size ≤ 40) (w : World) : Calls Try.prog 15 #[.agg #[.int .i64 3, .int .i64 0, .int .u64 0, .string s]] w (retN w (3 :: UInt8.ofNat s.size :: s.data.toList)) := by
  have hA := Blk.new w 24 #[.int .i64 3, .int .i64 0, .int .u64 0, .string s]
  have bb := bl_al (Below.refl w.heap.size w) (.cells #[.int .i64 3, .int .i64 0, .int .u64 0, .string s] 24)
  have ho := OwnB.one_ (w.alloc (.cells #[.int .i64 3, .int .i64 0, .int .u64 0, .string s] 24)) 3 (.int .u8 3) rfl
  simp only [World.size_alloc] at ho
  have b1 := bl_al bb (.cells #[.int .u8 3] 5)
  have hA1 := hA.alloc (.cells #[.int .u8 3] 5)
  have z1 := b1.size
  have d0 : ((w.alloc (.cells #[.int .i64 3, .int .i64 0, .int .u64 0, .string s] 24)).alloc (.cells #[.int .u8 3] 5)).cell? ⟨w.heap.size, 0, none⟩ = some (.int .i64 3) := hA1.cell 0
  have d1 : ((w.alloc (.cells #[.int .i64 3, .int .i64 0, .int .u64 0, .string s] 24)).alloc (.cells #[.int .u8 3] 5)).cell? ⟨w.heap.size, 1, none⟩ = some (.int .i64 0) := hA1.cell 1
  have d2 : ((w.alloc (.cells #[.int .i64 3, .int .i64 0, .int .u64 0, .string s] 24)).alloc (.cells #[.int .u8 3] 5)).cell? ⟨w.heap.size, 2, none⟩ = some (.int .u64 0) := hA1.cell 2
  have d3 : ((w.alloc (.cells #[.int .i64 3, .int .i64 0, .int .u64 0, .string s] 24)).alloc (.cells #[.int .u8 3] 5)).cell? ⟨w.heap.size, 3, none⟩ = some (.string s) := hA1.cell 3
  have HV := Lib.hid (show Value.int .u8 (s.size : Int) = vb (UInt8.ofNat s.size) from by simp [vb]; omega)
  have PL := Lib.hid (show (3 :: UInt8.ofNat s.size :: s.data.toList).length = 2 + s.size from by show s.data.toList.length + 1 + 1 = 2 + s.data.size; rw [Array.length_toList]; omega)
  have hsl : IntKind.u8.wrap (s.size : Int) = (s.size : Int) := by rw [IntKind.wrap_u8]; omega
  have hA1d := hA1.drew
  have hA2 := (hA1.alloc (.cells #[.int .u8 (s.size : Int)] 5)).drew
  have ho2 : OwnB ((((w.alloc (.cells #[.int .i64 3, .int .i64 0, .int .u64 0, .string s] 24)).alloc (.cells #[.int .u8 3] 5)).alloc (.cells #[.int .u8 (s.size : Int)] 5)).drew) (w.heap.size + 1) (some ⟨w.heap.size + 1, 0, none⟩) 1 1 [3] := OwnB.below (ho.alloc (.cells #[.int .u8 (s.size : Int)] 5)) (Below.refl _ _).drew
  have hr : RdB ((((w.alloc (.cells #[.int .i64 3, .int .i64 0, .int .u64 0, .string s] 24)).alloc (.cells #[.int .u8 3] 5)).alloc (.cells #[.int .u8 (s.size : Int)] 5)).drew) (some ⟨w.heap.size + 2, 0, none⟩) 1 [UInt8.ofNat s.size] := by have := RdB.below (RdB.one ((w.alloc (.cells #[.int .i64 3, .int .i64 0, .int .u64 0, .string s] 24)).alloc (.cells #[.int .u8 3] 5)) _ _ HV.out 5) (Below.refl _ _).drew; simpa only [World.size_alloc] using this
  have b2 := (bl_al b1 (.cells #[.int .u8 (s.size : Int)] 5)).drew
  have z2 : w.heap.size + 1 ≤ ((((w.alloc (.cells #[.int .i64 3, .int .i64 0, .int .u64 0, .string s] 24)).alloc (.cells #[.int .u8 3] 5)).alloc (.cells #[.int .u8 (s.size : Int)] 5)).drew).heap.size := by simp only [World.size_drew, World.size_alloc]; omega
  have hAl := hA.lt
  go_enter Try.func15, Try.ntmps15
  go_wp2_with fail
  go_region_held3 (fun w' => w'.cell? ⟨w.heap.size, 0, none⟩ = some (.int .i64 3) ∧ w'.cell? ⟨w.heap.size, 1, none⟩ = some (.int .i64 0) ∧ w'.cell? ⟨w.heap.size, 2, none⟩ = some (.int .u64 0) ∧ w'.cell? ⟨w.heap.size, 3, none⟩ = some (.string s)) (first | with_reducible exact vS hA1d | with_reducible exact vS hA2 | with_reducible exact vS hA4 | with_reducible exact vS hA5)
    (first
      | (refine step_appB rfl (.tmp 28) (.tmp 33) rfl (w.heap.size + 1) (some ⟨w.heap.size + 1, 0, none⟩) 1 1 [3] (some ⟨w.heap.size + 2, 0, none⟩) 1 1 [UInt8.ofNat s.size] rfl rfl ho2 hr (by omega) z2 ?_; intro A4 c4 w4 ho4 q4; have hA4 := Blk.below hA2 q4 (by omega))
      | (refine step_appS rfl (.tmp 34) (.tmp 36) rfl (w.heap.size + 1) A4 2 c4 [3, UInt8.ofNat s.size] s rfl rfl ho4 (by omega) (Nat.le_trans z2 q4.size) ?_; intro A5 c5 w5 ho5 q5; have hA5 := Blk.below hA4 q5 (by omega)))
  go_wp2
  go_ret
  exact ⟨A5, c5, by rw [PL.out]; rfl, by rw [PL.out]; exact ho5.less (by omega), (b2.trans (q4.mono (by omega))).trans (q5.mono (by omega))⟩
theorem OwnB.apart {w w' : World} {B : Nat} {A : Option Addr} {n c : Nat} {bs : List UInt8} {row : Option Nat} (h : OwnB w B A n c bs) (hg : w.grownBy w' row) (hr : ∀ g, row = some g → g < B) : OwnB w' B A n c bs := by
  refine ⟨h.1, ?_⟩
  rcases h.2 with h2 | ⟨g, cap, cur, e, hgB, hh, r⟩
  · exact .inl h2
  · have hlt : g < w.heap.size := by
      rcases Nat.lt_or_ge g w.heap.size with h | h
      · exact h
      · rw [Array.getElem?_eq_none h] at hh; cases hh
    exact .inr ⟨g, cap, cur, e, hgB, (hg.block g hlt (by intro e2; have := hr g e2.symm; omega)).trans hh, r⟩
theorem step_appG {ops : Array Oper} {o : Oper} {a : Act} {w : World} {K : Act → World → Prop} {Q : Exit → Act → World → Prop} {E : Prop} (hgd : o.guard = none) (s x : Operand)
    (ho : o.op = .call { callee := .builtin .append, args := #[s, x], argTypes := #[29, 29] })
    (B : Nat) (A : Option Addr) (n c : Nat) (xs : List UInt8) (A2 : Option Addr) (m c2 : Nat) (ys : List UInt8)
    (hs : a.eval s = .slice A n c) (hx : a.eval x = .slice A2 m c2) (hown : OwnB w B A n c xs) (hr : RdB w A2 m ys) (hb : n + m ≤ 140737488355328) (hB : B ≤ w.heap.size)
    (h : ∀ A' c' w', OwnB w' B A' (n + m) c' (xs ++ ys) → Below B w w' → w.grownBy w' (Value.slice A n c).ownBlock → K (a.put o.dst (.slice A' (n + m) c')) w') :
    if Region.wanted o (yielded ops a.tmps) = true then Oper.wp Try.prog o a w K Q else E := by
  obtain ⟨i0, hi0, hz0, hz1, hz2⟩ := info_parts Try.byteInfo
  refine step_append_any w hgd s x 29 ho B 5 i0 _ 1 1 Try.underlying29 hi0 hz0 hz1 hz2 rfl (by omega) (.slice A n c) n (xs.map vb) hs hown w.heap.size A2 m c2 (ys.map vb) hx hr (vb_one ys) (by simp only [maxLen]; omega) (by omega) hB ?_
  intro v' w' hown' hg hat
  obtain ⟨A', c', rfl⟩ := own_form hown'
  refine h A' c' w' (by unfold OwnB; rw [List.map_append]; exact hown') ?_ hg
  exact (Below.refl _ _).grown hg hB (own_base hown)
set_option maxRecDepth 100000 in
set_option maxHeartbeats 4000000 in
theorem rval_4 (n : Int) (y : Nat) (hy : y < 2 ^ 64) (w : World) : Calls Try.prog 15 #[.agg #[.int .i64 4, .int .i64 n, .int .u64 (y : Int), .string ⟨#[]⟩]] w (retN w (4 :: (beB 8 (U64 n) ++ beB 8 y))) := by
  have hA := Blk.new w 24 #[.int .i64 4, .int .i64 n, .int .u64 (y : Int), .string ⟨#[]⟩]
  have bb := bl_al (Below.refl w.heap.size w) (.cells #[.int .i64 4, .int .i64 n, .int .u64 (y : Int), .string ⟨#[]⟩] 24)
  have ho := OwnB.one_ (w.alloc (.cells #[.int .i64 4, .int .i64 n, .int .u64 (y : Int), .string ⟨#[]⟩] 24)) 4 (.int .u8 4) rfl
  simp only [World.size_alloc] at ho
  have b1 := bl_al bb (.cells #[.int .u8 4] 5)
  have hA1 := hA.alloc (.cells #[.int .u8 4] 5)
  have z1 := b1.size
  have d0 : ((w.alloc (.cells #[.int .i64 4, .int .i64 n, .int .u64 (y : Int), .string ⟨#[]⟩] 24)).alloc (.cells #[.int .u8 4] 5)).cell? ⟨w.heap.size, 0, none⟩ = some (.int .i64 4) := hA1.cell 0
  have d1 : ((w.alloc (.cells #[.int .i64 4, .int .i64 n, .int .u64 (y : Int), .string ⟨#[]⟩] 24)).alloc (.cells #[.int .u8 4] 5)).cell? ⟨w.heap.size, 1, none⟩ = some (.int .i64 n) := hA1.cell 1
  have d2 : ((w.alloc (.cells #[.int .i64 4, .int .i64 n, .int .u64 (y : Int), .string ⟨#[]⟩] 24)).alloc (.cells #[.int .u8 4] 5)).cell? ⟨w.heap.size, 2, none⟩ = some (.int .u64 (y : Int)) := hA1.cell 2
  have d3 : ((w.alloc (.cells #[.int .i64 4, .int .i64 n, .int .u64 (y : Int), .string ⟨#[]⟩] 24)).alloc (.cells #[.int .u8 4] 5)).cell? ⟨w.heap.size, 3, none⟩ = some (.string ⟨#[]⟩) := hA1.cell 3
  have hx := (u64_spec n).1
  have HN := Lib.hid (fun w => number_any (U64 n) w (u64_spec n).2)
  have HM := Lib.hid (fun w => number_any y w hy)
  clear hy
  generalize U64 n = x at *
  have PL := Lib.hid (show (4 :: (beB 8 x ++ beB 8 y)).length = 17 from by simp [beB])
  replace hA1 := hA1.drew
  have ho2 : OwnB (((w.alloc (.cells #[.int .i64 4, .int .i64 n, .int .u64 (y : Int), .string ⟨#[]⟩] 24)).alloc (.cells #[.int .u8 4] 5)).drew) (w.heap.size + 1) (some ⟨w.heap.size + 1, 0, none⟩) 1 1 [4] := OwnB.below ho (Below.refl _ _).drew
  replace b1 := b1.drew
  have zg : w.heap.size + 1 < (((w.alloc (.cells #[.int .i64 4, .int .i64 n, .int .u64 (y : Int), .string ⟨#[]⟩] 24)).alloc (.cells #[.int .u8 4] 5)).drew).heap.size := by simp only [World.size_drew, World.size_alloc]; omega
  go_enter Try.func15, Try.ntmps15
  go_wp2_with fail
  clear ho bb hA z1
  go_region_held3 (fun w' => w'.cell? ⟨w.heap.size, 0, none⟩ = some (.int .i64 4) ∧ w'.cell? ⟨w.heap.size, 1, none⟩ = some (.int .i64 n) ∧ w'.cell? ⟨w.heap.size, 2, none⟩ = some (.int .u64 (y : Int)) ∧ w'.cell? ⟨w.heap.size, 3, none⟩ = some (.string ⟨#[]⟩)) (first | with_reducible exact vS hA1)
    (first
      | (go_at_call 28; (with_reducible refine (HN.out _).mono ?_); rintro e wa ⟨AX, cX, rfl, oX, qa⟩; have hX := oX.rd; clear oX; replace ho2 := ho2.below qa; replace hA1 := hA1.ca qa; replace b1 := bl_ca b1 qa; replace zg := Nat.lt_of_lt_of_le zg qa.size)
      | (go_at_call 28; (with_reducible refine (HM.out _).mono ?_); rintro e wb ⟨AY, cY, rfl, oY, qb⟩; (try replace ho2 := ho2.below qb); (try replace ho5 := ho5.below qb); (try replace hX := hX.below qb); replace hA1 := hA1.ca qb; replace b1 := bl_ca b1 qb; replace oY := OwnB.less oY (B' := w.heap.size + 2) zg; replace zg := Nat.lt_of_lt_of_le zg qb.size)
      | (refine step_appG rfl (.tmp 40) (.tmp 44) rfl (w.heap.size + 1) (some ⟨w.heap.size + 1, 0, none⟩) 1 1 [4] AX 8 cX (beB 8 x) rfl rfl ho2 hX (by omega) (Nat.le_of_lt zg) ?_; intro A5 c5 w5 ho5 q5 g5; clear ho2 hX; (try replace oY := OwnB.apart oY g5 (by intro g hg; simp [Value.ownBlock] at hg; omega)); replace hA1 := Blk.below hA1 q5 (by omega); replace b1 := b1.trans (q5.mono (by omega)); replace zg := Nat.lt_of_lt_of_le zg q5.size)
      | (refine step_appB rfl (.tmp 45) (.tmp 48) rfl (w.heap.size + 1) A5 9 c5 ([4] ++ beB 8 x) AY 8 cY (beB 8 y) rfl rfl ho5 oY.rd (by omega) (Nat.le_of_lt zg) ?_; intro A6 c6 w6 ho6 q6; replace hA1 := Blk.below hA1 q6 (by omega); replace b1 := b1.trans (q6.mono (by omega))))
  all_goals
    go_wp2
    go_ret
    exact ⟨A6, c6, by rw [PL.out]; rfl, by rw [PL.out]; exact ho6.less (by omega), b1⟩
end Go.Proofs.Ytfpodalnnchnoaa
