/- codec.Value: a value's bytes. Conditions: a value whose numbers are in their ranges. -/
import Derived.Test.YtfpodalnnchnoaaPut
import Derived.Test.YtfpodalnnchnoaaRight
import Derived.Test.YtfpodalnnchnoaaAre
import Derived.Test.YtfpodalnnchnoaaLin
import Derived.Test.YtfpodalnnchnoaaOwnV
import Derived.Lib.AppendStr
import Derived.Deep.RegionHeld3
namespace Go.Proofs.Ytfpodalnnchnoaa
open Go.RowKit
def U64 (z : Int) : Nat := (IntKind.u64.wrap z).toNat
theorem u64_spec (z : Int) : IntKind.u64.wrap z = ((U64 z : Nat) : Int) ∧ U64 z < 2 ^ 64 := by
  have h : 0 ≤ IntKind.u64.wrap z ∧ IntKind.u64.wrap z < 18446744073709551616 := by rw [IntKind.wrap_u64]; omega
  unfold U64
  omega
def valB (v : VV) : List UInt8 :=
  if v.k = 1 then [1, UInt8.ofNat v.n.toNat] else if v.k = 2 then 2 :: beB 8 (U64 v.n) else if v.k = 3 then 3 :: UInt8.ofNat v.s.size :: v.s.data.toList
  else if v.k = 4 then 4 :: (beB 8 (U64 v.n) ++ beB 8 (U64 v.u)) else [0]
/-- it returns bytes of its own, and an error -/
def retB (w : World) (bs : List UInt8) (e : Int) (x : Ending) (w' : World) : Prop := ∃ A c, x = .returned (.tuple #[.slice A bs.length c, .int .i64 e]) ∧ OwnB w' w.heap.size A bs.length c bs ∧ Below w.heap.size w w'
theorem OwnB.one_ (W : World) (x : UInt8) (v : Value) (hv : v = vb x) : OwnB (W.alloc (.cells #[v] 5)) W.heap.size (some ⟨W.heap.size, 0, none⟩) 1 1 [x] := by
  subst hv
  exact ⟨by simp, .inr ⟨W.heap.size, 1, #[vb x], rfl, Nat.le_refl _, heap_alloc_new W _, Nat.le_refl _, by unfold maxLen; omega, by simp, by simp⟩⟩
theorem strCells_vb (s : ByteArray) : Lib.strCells s = s.data.toList.map vb := rfl
theorem OwnB.str_ {w : World} {B : Nat} {A : Option Addr} {n c : Nat} {bs : List UInt8} (h : OwnB w B A n c bs) : ∃ xs, xs = bs.map vb ∧ w.ownsRow B 5 1 (.slice A n c) n xs := ⟨_, rfl, h⟩
/-- append(b, x...): b the call's own; for a region -/
theorem step_appB {ops : Array Oper} {o : Oper} {a : Act} {w : World} {K : Act → World → Prop} {Q : Exit → Act → World → Prop} {E : Prop} (hgd : o.guard = none) (s x : Operand)
    (ho : o.op = .call { callee := .builtin .append, args := #[s, x], argTypes := #[29, 29] })
    (B : Nat) (A : Option Addr) (n c : Nat) (xs : List UInt8) (A2 : Option Addr) (m c2 : Nat) (ys : List UInt8)
    (hs : a.eval s = .slice A n c) (hx : a.eval x = .slice A2 m c2) (hown : OwnB w B A n c xs) (hr : RdB w A2 m ys) (hb : n + m ≤ 140737488355328) (hB : B ≤ w.heap.size)
    (h : ∀ A' c' w', OwnB w' B A' (n + m) c' (xs ++ ys) → Below B w w' → K (a.put o.dst (.slice A' (n + m) c')) w') :
    if Region.wanted o (yielded ops a.tmps) = true then Oper.wp Try.prog o a w K Q else E := by
  obtain ⟨i0, hi0, hz0, hz1, hz2⟩ := info_parts Try.byteInfo
  refine step_append_any w hgd s x 29 ho B 5 i0 _ 1 1 Try.underlying29 hi0 hz0 hz1 hz2 rfl (by omega) (.slice A n c) n (xs.map vb) hs hown w.heap.size A2 m c2 (ys.map vb) hx hr (vb_one ys) (by simp only [maxLen]; omega) (by omega) hB ?_
  intro v' w' hown' hg hat
  obtain ⟨A', c', rfl⟩ := own_form hown'
  refine h A' c' w' (by unfold OwnB; rw [List.map_append]; exact hown') ?_
  exact (Below.refl _ _).grown hg hB (own_base hown)
/-- append(b, s...): s a text; for a region -/
theorem step_appS {ops : Array Oper} {o : Oper} {a : Act} {w : World} {K : Act → World → Prop} {Q : Exit → Act → World → Prop} {E : Prop} (hgd : o.guard = none) (sl x : Operand)
    (ho : o.op = .call { callee := .builtin .append, args := #[sl, x], argTypes := #[29, 9] })
    (B : Nat) (A : Option Addr) (n c : Nat) (xs : List UInt8) (s : ByteArray)
    (hs : a.eval sl = .slice A n c) (hx : a.eval x = .string s) (hown : OwnB w B A n c xs) (hb : n + s.size ≤ 140737488355328) (hB : B ≤ w.heap.size)
    (h : ∀ A' c' w', OwnB w' B A' (n + s.size) c' (xs ++ s.data.toList) → Below B w w' → K (a.put o.dst (.slice A' (n + s.size) c')) w') :
    if Region.wanted o (yielded ops a.tmps) = true then Oper.wp Try.prog o a w K Q else E := by
  obtain ⟨i0, hi0, hz0, hz1, hz2⟩ := info_parts Try.byteInfo
  have hw : Region.wanted o (yielded ops a.tmps) = true := by simp [Region.wanted, hgd]
  rw [if_pos hw]
  obtain ⟨v', w', hr, h2, h3, _⟩ := Lib.run_append_own_string (P := Try.prog) w B 29 9 o.type 5 i0 Try.underlying29 Try.underlying9 hi0 hz0 hz1 hz2 (.slice A n c) n (xs.map vb) hown s (by simp only [maxLen]; omega) hb hB
  obtain ⟨A', c', rfl⟩ := own_form h2
  unfold Oper.wp execOp
  simp only [ho, resolve, invoke, builtin, Sem.run_bind, Sem.run_pure, Result.andThen_ok, List.map_toArray, List.map_cons, List.map_nil, hs, hx, hr]
  exact h A' c' w' (by unfold OwnB; rw [List.map_append, ← strCells_vb]; exact h2) ((Below.refl _ _).grown h3 hB (own_base hown))
theorem ck_y (v : VV) (h : v.ok = true) (w : World) : Calls Try.prog 26 #[.agg #[.int .i64 v.k, .int .i64 v.n, .int .u64 v.u, .string v.s]] w fun e w' => e = .returned (.int .i64 0) ∧ Below w.heap.size w w' := by
  have := check_any v.k v.n v.u v.s w
  rw [show rightB v.k v.n v.u v.s = true from h] at this
  exact this
theorem ck_n (v : VV) (h : v.ok = false) (w : World) : Calls Try.prog 26 #[.agg #[.int .i64 v.k, .int .i64 v.n, .int .u64 v.u, .string v.s]] w fun e w' => e = .returned (.int .i64 120) ∧ Below w.heap.size w w' := by
  have := check_any v.k v.n v.u v.s w
  rw [show rightB v.k v.n v.u v.s = false from h] at this
  exact this
set_option maxRecDepth 100000 in
set_option maxHeartbeats 4000000 in
theorem cval_e (k : Int) (n u : Int) (s : ByteArray) (HCK : Hid (∀ w, Calls Try.prog 26 #[.agg #[.int .i64 k, .int .i64 n, .int .u64 u, .string s]] w fun e w' => e = .returned (.int .i64 120) ∧ Below w.heap.size w w')) (w : World) : Calls Try.prog 10 #[.agg #[.int .i64 k, .int .i64 n, .int .u64 u, .string s]] w (retB w [] 120) := by
  have hA := (Blk.new w 24 #[.int .i64 k, .int .i64 n, .int .u64 u, .string s])
  have bb := (bl_al (Below.refl w.heap.size w) (.cells #[.int .i64 k, .int .i64 n, .int .u64 u, .string s] 24))
  go_enter Try.func10, Try.ntmps10
  go_wp2_with fail
  generalize (w.alloc (.cells #[.int .i64 k, .int .i64 n, .int .u64 u, .string s] 24)) = w1 at *
  refine (HCK.out _).mono ?_
  rintro e w2 ⟨rfl, qw2⟩
  replace hA := hA.ca qw2
  replace bb := bl_ca bb qw2
  clear qw2
  go_wp2
  go_ret2
  exact ⟨none, 0, rfl, OwnB.none_ _ _, bb⟩
set_option maxRecDepth 100000 in
set_option maxHeartbeats 4000000 in
theorem cval_0 (n u : Int) (s : ByteArray) (HCK : Hid (∀ w, Calls Try.prog 26 #[.agg #[.int .i64 0, .int .i64 n, .int .u64 u, .string s]] w fun e w' => e = .returned (.int .i64 0) ∧ Below w.heap.size w w')) (w : World) : Calls Try.prog 10 #[.agg #[.int .i64 0, .int .i64 n, .int .u64 u, .string s]] w (retB w [0] 0) := by
  have hA := (Blk.new w 24 #[.int .i64 0, .int .i64 n, .int .u64 u, .string s])
  have bb := (bl_al (Below.refl w.heap.size w) (.cells #[.int .i64 0, .int .i64 n, .int .u64 u, .string s] 24))
  go_enter Try.func10, Try.ntmps10
  go_wp2_with fail
  generalize (w.alloc (.cells #[.int .i64 0, .int .i64 n, .int .u64 u, .string s] 24)) = w1 at *
  refine (HCK.out _).mono ?_
  rintro e w2 ⟨rfl, qw2⟩
  replace hA := hA.ca qw2
  replace bb := bl_ca bb qw2
  clear qw2
  have hA_0 : w2.cell? ⟨w.heap.size, 0, none⟩ = some (.int .i64 0) := hA.cell 0
  have hA_1 : w2.cell? ⟨w.heap.size, 1, none⟩ = some (.int .i64 n) := hA.cell 1
  have hA_2 : w2.cell? ⟨w.heap.size, 2, none⟩ = some (.int .u64 u) := hA.cell 2
  have hA_3 : w2.cell? ⟨w.heap.size, 3, none⟩ = some (.string s) := hA.cell 3
  have ho := OwnB.one_ w2 0 (.int .u8 0) rfl
  have b1 := bl_al bb (.cells #[.int .u8 0] 5)
  have hA1 := hA.alloc (.cells #[.int .u8 0] 5)
  have d0 : (w2.alloc (.cells #[.int .u8 0] 5)).cell? ⟨w.heap.size, 0, none⟩ = some (.int .i64 0) := hA1.cell 0
  have d1 : (w2.alloc (.cells #[.int .u8 0] 5)).cell? ⟨w.heap.size, 1, none⟩ = some (.int .i64 n) := hA1.cell 1
  have d2 : (w2.alloc (.cells #[.int .u8 0] 5)).cell? ⟨w.heap.size, 2, none⟩ = some (.int .u64 u) := hA1.cell 2
  have d3 : (w2.alloc (.cells #[.int .u8 0] 5)).cell? ⟨w.heap.size, 3, none⟩ = some (.string s) := hA1.cell 3
  go_wp2
  go_ret2
  exact ⟨_, _, rfl, ho.less bb.size, b1⟩
set_option maxRecDepth 100000 in
set_option maxHeartbeats 4000000 in
theorem cval_1 (n u : Int) (s : ByteArray) (hn : n = 0 ∨ n = 1) (HCK : Hid (∀ w, Calls Try.prog 26 #[.agg #[.int .i64 1, .int .i64 n, .int .u64 u, .string s]] w fun e w' => e = .returned (.int .i64 0) ∧ Below w.heap.size w w')) (w : World) : Calls Try.prog 10 #[.agg #[.int .i64 1, .int .i64 n, .int .u64 u, .string s]] w (retB w [1, UInt8.ofNat n.toNat] 0) := by
  have hA := (Blk.new w 24 #[.int .i64 1, .int .i64 n, .int .u64 u, .string s])
  have bb := (bl_al (Below.refl w.heap.size w) (.cells #[.int .i64 1, .int .i64 n, .int .u64 u, .string s] 24))
  go_enter Try.func10, Try.ntmps10
  go_wp2_with fail
  generalize (w.alloc (.cells #[.int .i64 1, .int .i64 n, .int .u64 u, .string s] 24)) = w1 at *
  refine (HCK.out _).mono ?_
  rintro e w2 ⟨rfl, qw2⟩
  replace hA := hA.ca qw2
  replace bb := bl_ca bb qw2
  clear qw2
  have hA_0 : w2.cell? ⟨w.heap.size, 0, none⟩ = some (.int .i64 1) := hA.cell 0
  have hA_1 : w2.cell? ⟨w.heap.size, 1, none⟩ = some (.int .i64 n) := hA.cell 1
  have hA_2 : w2.cell? ⟨w.heap.size, 2, none⟩ = some (.int .u64 u) := hA.cell 2
  have hA_3 : w2.cell? ⟨w.heap.size, 3, none⟩ = some (.string s) := hA.cell 3
  have ho := OwnB.one_ w2 1 (.int .u8 1) rfl
  have b1 := bl_al bb (.cells #[.int .u8 1] 5)
  have hA1 := hA.alloc (.cells #[.int .u8 1] 5)
  have d0 : (w2.alloc (.cells #[.int .u8 1] 5)).cell? ⟨w.heap.size, 0, none⟩ = some (.int .i64 1) := hA1.cell 0
  have d1 : (w2.alloc (.cells #[.int .u8 1] 5)).cell? ⟨w.heap.size, 1, none⟩ = some (.int .i64 n) := hA1.cell 1
  have d2 : (w2.alloc (.cells #[.int .u8 1] 5)).cell? ⟨w.heap.size, 2, none⟩ = some (.int .u64 u) := hA1.cell 2
  have d3 : (w2.alloc (.cells #[.int .u8 1] 5)).cell? ⟨w.heap.size, 3, none⟩ = some (.string s) := hA1.cell 3
  have b2 := bl_al b1 (.cells #[.int .u8 n] 5)
  have hr : RdB ((w2.alloc (.cells #[.int .u8 1] 5)).alloc (.cells #[.int .u8 n] 5)) (some ⟨w2.heap.size + 1, 0, none⟩) 1 [UInt8.ofNat n.toNat] := by have := RdB.one (w2.alloc (.cells #[.int .u8 1] 5)) (UInt8.ofNat n.toNat) (.int .u8 n) (by rcases hn with rfl | rfl <;> rfl) 5; simpa only [World.size_alloc] using this
  have ho2 := ho.alloc (.cells #[.int .u8 n] 5)
  have hw : IntKind.u8.wrap n = n := by rcases hn with rfl | rfl <;> rfl
  clear hn
  go_wp2_with (at_builtin; refine wpList_appB rfl (.tmp 19) (.tmp 23) rfl w2.heap.size (some ⟨w2.heap.size, 0, none⟩) 1 1 [1] (some ⟨w2.heap.size + 1, 0, none⟩) 1 1 [UInt8.ofNat n.toNat] rfl rfl ho2 hr (by omega) (by simp only [World.size_alloc]; omega) ?_; intro A3 c3 w3 ho3 b3)
  go_ret2
  exact ⟨_, _, rfl, ho3.less bb.size, b2.trans (b3.mono bb.size)⟩
set_option maxRecDepth 100000 in
set_option maxHeartbeats 4000000 in
theorem cval_2 (n u : Int) (s : ByteArray) (HCK : Hid (∀ w, Calls Try.prog 26 #[.agg #[.int .i64 2, .int .i64 n, .int .u64 u, .string s]] w fun e w' => e = .returned (.int .i64 0) ∧ Below w.heap.size w w')) (w : World) : Calls Try.prog 10 #[.agg #[.int .i64 2, .int .i64 n, .int .u64 u, .string s]] w (retB w (2 :: beB 8 (U64 n)) 0) := by
  have hx := (u64_spec n).1
  have hl := (u64_spec n).2
  generalize U64 n = x at *
  have PL := Lib.hid (show (2 :: beB 8 x).length = 9 from by simp [beB])
  have hA := (Blk.new w 24 #[.int .i64 2, .int .i64 n, .int .u64 u, .string s])
  have bb := (bl_al (Below.refl w.heap.size w) (.cells #[.int .i64 2, .int .i64 n, .int .u64 u, .string s] 24))
  go_enter Try.func10, Try.ntmps10
  go_wp2_with fail
  generalize (w.alloc (.cells #[.int .i64 2, .int .i64 n, .int .u64 u, .string s] 24)) = w1 at *
  refine (HCK.out _).mono ?_
  rintro e w2 ⟨rfl, qw2⟩
  replace hA := hA.ca qw2
  replace bb := bl_ca bb qw2
  clear qw2
  have hA_0 : w2.cell? ⟨w.heap.size, 0, none⟩ = some (.int .i64 2) := hA.cell 0
  have hA_1 : w2.cell? ⟨w.heap.size, 1, none⟩ = some (.int .i64 n) := hA.cell 1
  have hA_2 : w2.cell? ⟨w.heap.size, 2, none⟩ = some (.int .u64 u) := hA.cell 2
  have hA_3 : w2.cell? ⟨w.heap.size, 3, none⟩ = some (.string s) := hA.cell 3
  have ho := OwnB.one_ w2 2 (.int .u8 2) rfl
  have b1 := bl_al bb (.cells #[.int .u8 2] 5)
  have hA1 := hA.alloc (.cells #[.int .u8 2] 5)
  have d0 : (w2.alloc (.cells #[.int .u8 2] 5)).cell? ⟨w.heap.size, 0, none⟩ = some (.int .i64 2) := hA1.cell 0
  have d1 : (w2.alloc (.cells #[.int .u8 2] 5)).cell? ⟨w.heap.size, 1, none⟩ = some (.int .i64 n) := hA1.cell 1
  have d2 : (w2.alloc (.cells #[.int .u8 2] 5)).cell? ⟨w.heap.size, 2, none⟩ = some (.int .u64 u) := hA1.cell 2
  have d3 : (w2.alloc (.cells #[.int .u8 2] 5)).cell? ⟨w.heap.size, 3, none⟩ = some (.string s) := hA1.cell 3
  go_wp2_with fail
  refine (Put64_any _ _ _ [2] x _ ho.rd (by omega) hl).mono ?_
  rintro e w3 ⟨A3, c3, rfl, ho3, q3⟩
  replace b1 := bl_ca b1 q3
  clear d0 d1 d2 d3 hA_0 hA_1 hA_2 hA_3
  go_wp2
  go_ret2
  exact ⟨_, _, by rw [PL.out]; rfl, by rw [PL.out]; exact ho3.less (by simp only [World.size_alloc]; have := bb.size; omega), b1⟩
set_option maxRecDepth 100000 in
set_option maxHeartbeats 4000000 in
theorem cval_3 (n u : Int) (s : ByteArray) (hs : s.size ≤ 40) (HCK : Hid (∀ w, Calls Try.prog 26 #[.agg #[.int .i64 3, .int .i64 n, .int .u64 u, .string s]] w fun e w' => e = .returned (.int .i64 0) ∧ Below w.heap.size w w')) (w : World) : Calls Try.prog 10 #[.agg #[.int .i64 3, .int .i64 n, .int .u64 u, .string s]] w (retB w (3 :: UInt8.ofNat s.size :: s.data.toList) 0) := by
  have HV := Lib.hid (show Value.int .u8 (s.size : Int) = vb (UInt8.ofNat s.size) from by simp [vb]; omega)
  have PL := Lib.hid (show (3 :: UInt8.ofNat s.size :: s.data.toList).length = 2 + s.size from by show s.data.toList.length + 1 + 1 = 2 + s.data.size; rw [Array.length_toList]; omega)
  have hA := (Blk.new w 24 #[.int .i64 3, .int .i64 n, .int .u64 u, .string s])
  have bb := (bl_al (Below.refl w.heap.size w) (.cells #[.int .i64 3, .int .i64 n, .int .u64 u, .string s] 24))
  go_enter Try.func10, Try.ntmps10
  go_wp2_with fail
  generalize (w.alloc (.cells #[.int .i64 3, .int .i64 n, .int .u64 u, .string s] 24)) = w1 at *
  refine (HCK.out _).mono ?_
  rintro e w2 ⟨rfl, qw2⟩
  replace hA := hA.ca qw2
  replace bb := bl_ca bb qw2
  clear qw2
  have hA_0 : w2.cell? ⟨w.heap.size, 0, none⟩ = some (.int .i64 3) := hA.cell 0
  have hA_1 : w2.cell? ⟨w.heap.size, 1, none⟩ = some (.int .i64 n) := hA.cell 1
  have hA_2 : w2.cell? ⟨w.heap.size, 2, none⟩ = some (.int .u64 u) := hA.cell 2
  have hA_3 : w2.cell? ⟨w.heap.size, 3, none⟩ = some (.string s) := hA.cell 3
  have ho := OwnB.one_ w2 3 (.int .u8 3) rfl
  have b1 := bl_al bb (.cells #[.int .u8 3] 5)
  have hA1 := hA.alloc (.cells #[.int .u8 3] 5)
  have d0 : (w2.alloc (.cells #[.int .u8 3] 5)).cell? ⟨w.heap.size, 0, none⟩ = some (.int .i64 3) := hA1.cell 0
  have d1 : (w2.alloc (.cells #[.int .u8 3] 5)).cell? ⟨w.heap.size, 1, none⟩ = some (.int .i64 n) := hA1.cell 1
  have d2 : (w2.alloc (.cells #[.int .u8 3] 5)).cell? ⟨w.heap.size, 2, none⟩ = some (.int .u64 u) := hA1.cell 2
  have d3 : (w2.alloc (.cells #[.int .u8 3] 5)).cell? ⟨w.heap.size, 3, none⟩ = some (.string s) := hA1.cell 3
  have hsl : IntKind.u8.wrap (s.size : Int) = (s.size : Int) := by rw [IntKind.wrap_u8]; omega
  go_wp2_with fail
  have hA1d := hA1.drew
  have hA2 := (hA1.alloc (.cells #[.int .u8 (s.size : Int)] 5)).drew
  have ho2 : OwnB (((w2.alloc (.cells #[.int .u8 3] 5)).alloc (.cells #[.int .u8 (s.size : Int)] 5)).drew) w2.heap.size (some ⟨w2.heap.size, 0, none⟩) 1 1 [3] := OwnB.below (ho.alloc (.cells #[.int .u8 (s.size : Int)] 5)) (Below.refl _ _).drew
  have hr : RdB (((w2.alloc (.cells #[.int .u8 3] 5)).alloc (.cells #[.int .u8 (s.size : Int)] 5)).drew) (some ⟨w2.heap.size + 1, 0, none⟩) 1 [UInt8.ofNat s.size] := by have := RdB.below (RdB.one (w2.alloc (.cells #[.int .u8 3] 5)) _ _ HV.out 5) (Below.refl _ _).drew; simpa only [World.size_alloc] using this
  have b2 := (bl_al b1 (.cells #[.int .u8 (s.size : Int)] 5)).drew
  have z2 : w2.heap.size ≤ (((w2.alloc (.cells #[.int .u8 3] 5)).alloc (.cells #[.int .u8 (s.size : Int)] 5)).drew).heap.size := by simp only [World.size_drew, World.size_alloc]; omega
  go_region_held3 (fun w' => w'.cell? ⟨w.heap.size, 0, none⟩ = some (.int .i64 3) ∧ w'.cell? ⟨w.heap.size, 1, none⟩ = some (.int .i64 n) ∧ w'.cell? ⟨w.heap.size, 2, none⟩ = some (.int .u64 u) ∧ w'.cell? ⟨w.heap.size, 3, none⟩ = some (.string s)) (first | with_reducible exact vS hA1d | with_reducible exact vS hA2 | with_reducible exact vS hA4 | with_reducible exact vS hA5)
    (first
      | (refine step_appB rfl (.tmp 34) (.tmp 39) rfl w2.heap.size (some ⟨w2.heap.size, 0, none⟩) 1 1 [3] (some ⟨w2.heap.size + 1, 0, none⟩) 1 1 [UInt8.ofNat s.size] rfl rfl ho2 hr (by omega) z2 ?_; intro A4 c4 w4 ho4 q4; have hA4 := Blk.below hA2 q4 hA.lt)
      | (refine step_appS rfl (.tmp 40) (.tmp 42) rfl w2.heap.size A4 2 c4 [3, UInt8.ofNat s.size] s rfl rfl ho4 (by omega) (Nat.le_trans z2 q4.size) ?_; intro A5 c5 w5 ho5 q5; have hA5 := Blk.below hA4 q5 hA.lt))
  go_wp2
  go_ret2
  exact ⟨A5, c5, by rw [PL.out]; rfl, by rw [PL.out]; exact ho5.less bb.size, (b2.trans (q4.mono bb.size)).trans (q5.mono bb.size)⟩
set_option maxRecDepth 100000 in
set_option maxHeartbeats 4000000 in
theorem cval_4 (n : Int) (y : Nat) (s : ByteArray) (hl2 : y < 2 ^ 64) (HCK : Hid (∀ w, Calls Try.prog 26 #[.agg #[.int .i64 4, .int .i64 n, .int .u64 (y : Int), .string s]] w fun e w' => e = .returned (.int .i64 0) ∧ Below w.heap.size w w')) (w : World) : Calls Try.prog 10 #[.agg #[.int .i64 4, .int .i64 n, .int .u64 (y : Int), .string s]] w (retB w (4 :: (beB 8 (U64 n) ++ beB 8 y)) 0) := by
  have hx := (u64_spec n).1
  have hl := (u64_spec n).2
  generalize U64 n = x at *
  have PL := Lib.hid (show (4 :: (beB 8 x ++ beB 8 y)).length = 17 from by simp [beB])
  have hA := (Blk.new w 24 #[.int .i64 4, .int .i64 n, .int .u64 (y : Int), .string s])
  have bb := (bl_al (Below.refl w.heap.size w) (.cells #[.int .i64 4, .int .i64 n, .int .u64 (y : Int), .string s] 24))
  go_enter Try.func10, Try.ntmps10
  go_wp2_with fail
  generalize (w.alloc (.cells #[.int .i64 4, .int .i64 n, .int .u64 (y : Int), .string s] 24)) = w1 at *
  refine (HCK.out _).mono ?_
  rintro e w2 ⟨rfl, qw2⟩
  replace hA := hA.ca qw2
  replace bb := bl_ca bb qw2
  clear qw2
  have hA_0 : w2.cell? ⟨w.heap.size, 0, none⟩ = some (.int .i64 4) := hA.cell 0
  have hA_1 : w2.cell? ⟨w.heap.size, 1, none⟩ = some (.int .i64 n) := hA.cell 1
  have hA_2 : w2.cell? ⟨w.heap.size, 2, none⟩ = some (.int .u64 (y : Int)) := hA.cell 2
  have hA_3 : w2.cell? ⟨w.heap.size, 3, none⟩ = some (.string s) := hA.cell 3
  have ho := OwnB.one_ w2 4 (.int .u8 4) rfl
  have b1 := bl_al bb (.cells #[.int .u8 4] 5)
  have hA1 := hA.alloc (.cells #[.int .u8 4] 5)
  have d0 : (w2.alloc (.cells #[.int .u8 4] 5)).cell? ⟨w.heap.size, 0, none⟩ = some (.int .i64 4) := hA1.cell 0
  have d1 : (w2.alloc (.cells #[.int .u8 4] 5)).cell? ⟨w.heap.size, 1, none⟩ = some (.int .i64 n) := hA1.cell 1
  have d2 : (w2.alloc (.cells #[.int .u8 4] 5)).cell? ⟨w.heap.size, 2, none⟩ = some (.int .u64 (y : Int)) := hA1.cell 2
  have d3 : (w2.alloc (.cells #[.int .u8 4] 5)).cell? ⟨w.heap.size, 3, none⟩ = some (.string s) := hA1.cell 3
  have hA1d := hA1.drew
  have ho2 : OwnB ((w2.alloc (.cells #[.int .u8 4] 5)).drew) w2.heap.size (some ⟨w2.heap.size, 0, none⟩) 1 1 [4] := OwnB.below ho (Below.refl _ _).drew
  have b2 := b1.drew
  have z2 : w2.heap.size ≤ ((w2.alloc (.cells #[.int .u8 4] 5)).drew).heap.size := by simp only [World.size_drew, World.size_alloc]; omega
  go_wp2_with fail
  clear d0 d1 d2 d3 hA_0 hA_1 hA_2 hA_3
  go_region_held3 (fun w' => w'.cell? ⟨w.heap.size, 0, none⟩ = some (.int .i64 4) ∧ w'.cell? ⟨w.heap.size, 1, none⟩ = some (.int .i64 n) ∧ w'.cell? ⟨w.heap.size, 2, none⟩ = some (.int .u64 (y : Int)) ∧ w'.cell? ⟨w.heap.size, 3, none⟩ = some (.string s)) (first | with_reducible exact vS hA1d | with_reducible exact vS hA4 | with_reducible exact vS hA5)
    (first
      | (go_at_call 27; (with_reducible refine (Put64_any (some ⟨w2.heap.size, 0, none⟩) 1 1 [4] x _ ho2.rd (by omega) hl).mono ?_); rintro e w4 ⟨A4, c4, rfl, ho4, q4⟩; have hA4 := hA1d.ca q4; have b4 := bl_ca b2 q4)
      | (go_at_call 27; (with_reducible refine (Put64_any A4 9 c4 ([4] ++ beB 8 x) y _ ho4.rd (by omega) hl2).mono ?_); rintro e w5 ⟨A5, c5, rfl, ho5, q5⟩; have hA5 := hA4.ca q5; have b5 := bl_ca b4 q5))
  go_wp2
  go_ret2
  exact ⟨A5, c5, by rw [PL.out]; rfl, by rw [PL.out]; exact (ho5.less b4.size), b5⟩
def VV.rng (v : VV) : Prop := (-9223372036854775808 ≤ v.n ∧ v.n ≤ 9223372036854775807) ∧ 0 ≤ v.u ∧ v.u < 18446744073709551616
theorem u64_id {z : Int} (h : 0 ≤ z ∧ z < 18446744073709551616) : ((U64 z : Nat) : Int) = z := by rw [← (u64_spec z).1, IntKind.wrap_u64]; omega
theorem retB_eq {P : Program} {f : FuncId} {args : Array Value} {w : World} {bs cs : List UInt8} {e d : Int} (h : Calls P f args w (retB w bs e)) (h1 : bs = cs) (h2 : e = d) : Calls P f args w (retB w cs d) := by subst h1 h2; exact h
def encB (v : VV) : List UInt8 := if v.ok then valB v else []
def okE (v : VV) : Int := if v.ok then 0 else 120
theorem cval_any (v : VV) (hu : 0 ≤ v.u ∧ v.u < 18446744073709551616) (w : World) : Calls Try.prog 10 #[.agg #[.int .i64 v.k, .int .i64 v.n, .int .u64 v.u, .string v.s]] w (retB w (encB v) (okE v)) := by
  cases hok : v.ok
  · have hc := Lib.hid (ck_n v hok)
    exact retB_eq (cval_e v.k v.n v.u v.s hc w) (by simp [encB, hok]) (by simp [okE, hok])
  · have hc := Lib.hid (ck_y v hok)
    have hr : rightB v.k v.n v.u v.s = true := hok
    rcases v with ⟨k, n, u, s⟩
    simp only at hr hu hc
    unfold rightB at hr
    by_cases h0 : k = 0
    · subst h0; exact retB_eq (cval_0 n u s hc w) (by simp [encB, hok, valB]) (by simp [okE, hok])
    · by_cases h1 : k = 1
      · subst h1; simp at hr; exact retB_eq (cval_1 n u s hr.1 hc w) (by simp [encB, hok, valB]) (by simp [okE, hok])
      · by_cases h2 : k = 2
        · subst h2; exact retB_eq (cval_2 n u s hc w) (by simp [encB, hok, valB]) (by simp [okE, hok])
        · by_cases h3 : k = 3
          · subst h3; simp at hr; exact retB_eq (cval_3 n u s hr.2.2 hc w) (by simp [encB, hok, valB]) (by simp [okE, hok])
          · have h4 : k = 4 := by simp [h0, h1, h2, h3] at hr; exact hr.1
            subst h4
            have e := u64_id hu
            have hl := (u64_spec u).2
            generalize U64 u = y at e hl
            subst e
            refine retB_eq (cval_4 n y s hl hc w) ?_ (by simp [okE, hok])
            have : U64 (y : Int) = y := by have := u64_id hu; omega
            simp [encB, hok, valB, this]
end Go.Proofs.Ytfpodalnnchnoaa
