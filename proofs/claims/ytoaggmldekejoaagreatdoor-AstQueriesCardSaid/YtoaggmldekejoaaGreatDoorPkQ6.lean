/- slices.Equal of nodes; the layer's SameTree and the reference's. Conditions: the slices read so. -/
import Derived.Test.YtoaggmldekejoaaGreatDoorPkQ5
import Derived.Laws.CopyOwn
import Derived.BigRegion
namespace Go.Proofs.YtoaggmldekejoaaGreatDoor
open Go.RowKit
def eqND (a b : Nd) : Bool := decide (a.p.tag = b.p.tag) && (decide (a.l = b.l) && (decide (a.r = b.r) && (decide (a.p.k = b.p.k) && (decide (a.p.n = b.p.n) && (decide (a.p.u = b.p.u) && (decide (a.p.s.toList = b.p.s.toList) && (decide (a.p.tb.toList = b.p.tb.toList) && decide (a.p.nm.toList = b.p.nm.toList))))))))
theorem ba_list {s t : ByteArray} : s.toList = t.toList ↔ s = t := by
 rw [toList_data, toList_data]
 constructor
 · intro h; exact (ba_of h).trans rfl
 · intro h; rw [h]
theorem eqND_dec (a b : Nd) : eqND a b = decide (a = b) := by
 obtain ⟨⟨t, k, n, u, s, tb, nm⟩, l, r⟩ := a
 obtain ⟨⟨t', k', n', u', s', tb', nm'⟩, l', r'⟩ := b
 unfold eqND
 rw [Bool.eq_iff_iff]
 simp only [Bool.and_eq_true, decide_eq_true_eq, ba_list, Nd.mk.injEq, Py.mk.injEq]
 constructor
 · rintro ⟨h1, h2, h3, h4, h5, h6, h7, h8, h9⟩; exact ⟨⟨h1, h4, h5, h6, h7, h8, h9⟩, h2, h3⟩
 · rintro ⟨⟨h1, h4, h5, h6, h7, h8, h9⟩, h2, h3⟩; exact ⟨h1, h2, h3, h4, h5, h6, h7, h8, h9⟩
theorem run_eqND (a b : Nd) : ∀ W, (Op.equalIn 10000 57 (.agg #[.int .i64 a.p.tag, .int .i64 a.l, .int .i64 a.r, .int .i64 a.p.k, .int .i64 a.p.n, .int .u64 a.p.u, .string a.p.s, .string a.p.tb, .string a.p.nm]) (.agg #[.int .i64 b.p.tag, .int .i64 b.l, .int .i64 b.r, .int .i64 b.p.k, .int .i64 b.p.n, .int .u64 b.p.u, .string b.p.s, .string b.p.tb, .string b.p.nm])).run Tryz.prog W = .ok (decide (a = b)) W := by
 intro W
 rw [← eqND_dec]
 unfold eqND
 rw [run_equalIn_agg W 9999 _ _ _ (by kernel_rfl) (by kernel_rfl)]
 go_simp
 by_cases h1 : a.p.tag = b.p.tag <;> by_cases h2 : a.l = b.l <;> by_cases h3 : a.r = b.r <;> simp [h1, h2, h3]
 by_cases h4 : a.p.k = b.p.k <;> by_cases h5 : a.p.n = b.p.n <;> by_cases h6 : a.p.u = b.p.u <;> simp [h4, h5, h6]
 by_cases h7 : a.p.s.toList = b.p.s.toList <;> by_cases h8 : a.p.tb.toList = b.p.tb.toList <;> by_cases h9 : a.p.nm.toList = b.p.nm.toList <;> simp [h7, h8, h9]
theorem list_ext_lt {α : Type} {a b : List α} {n : Nat} (ha : a.length = n) (hb : b.length = n) (h : ∀ (k : Nat) (x y : α), k < n → a[k]? = some x → b[k]? = some y → x = y) : a = b := by
 refine List.ext_getElem (by omega) fun k h1 h2 => h k _ _ (by omega) (List.getElem?_eq_getElem h1) (List.getElem?_eq_getElem h2)
theorem at_eq {α : Type} {l : List α} {k : Nat} {x y : α} (h : l[k]? = some x) (h2 : l[k]? = some y) : x = y := by rw [h] at h2; injection h2
set_option maxRecDepth 100000 in
set_option maxHeartbeats 4000000 in
theorem equalN (F G : Nat → Prop) (xs ys : List Nd) (A : Option Addr) (m c : Nat) (B : Option Addr) (n d : Nat) (w : World) (h : LN.rd w F A m xs) (k : LN.rd w G B n ys) (hm : m ≤ 9223372036854775807) :
 Calls Tryz.prog 27 #[.slice A m c, .slice B n d] w fun e w' => e = .returned (.bool (decide (xs = ys))) ∧ Below w.heap.size w w' := by
 have HL := Lib.hid (And.intro (Lay.rd_len h) (Lay.rd_len k))
 have HR := Lib.hid (show decide (xs = ys) = true ↔ xs = ys from decide_eq_true_iff)
 generalize decide (xs = ys) = r at *
 have HNO := Lib.hid (show ¬ xs = ys → r = false from fun h => by cases r; rfl; exact absurd (HR.out.1 rfl) h)
 go_enter Tryz.func27, Tryz.ntmps27
 by_cases c4 : m = n
 case neg =>
  have e2 : ((m : Int) == (n : Int)) = false := by simp; omega
  have e3 : (m == n) = false := by simpa using c4
  have HQ := Lib.hid (HNO.out (fun h => c4 (by rw [← HL.out.1, ← HL.out.2, h])))
  clear c4
  go_wp2
  go_ret
  exact ⟨ret_bool HQ.out.symm, Below.refl _ _⟩
 subst c4
 go_wp2_with fail
 go_loopg [13] m (fun g a wr => ∃ i : Nat, i + g = m ∧ a = .int .i64 i ∧ (∀ (k : Nat) (x y : Nd), k < i → xs[k]? = some x → ys[k]? = some y → x = y) ∧ Below w.heap.size w wr)
 case atStart => exact ⟨0, by omega, rfl, fun k x y hk => by omega, Below.refl _ _⟩
 case round =>
  obtain ⟨i, hig, rfl, heq, b1⟩ := hrel
  have HEQ := Lib.hid heq
  have HB1 := Lib.hid b1
  have h5 := Lay.rd_below h b1
  have h6 := Lay.rd_below k b1
  clear heq b1
  by_cases hlt : i < m
  · have hi1 : (i : Int) < (m : Int) := by omega
    obtain ⟨p, x, hAe, hx, s1⟩ := LN_at h5 hlt
    obtain ⟨p2, y, hAe2, hy, s2⟩ := LN_at h6 hlt
    obtain rfl : A = some p := hAe
    obtain rfl : B = some p2 := hAe2
    have e0 := s1.c0
    have e1 := s1.c1
    have e2 := s1.c2
    have e3 := s1.c3
    have e4 := s1.c4
    have e5 := s1.c5
    have e6 := s1.c6
    have e7 := s1.c7
    have e8 := s1.c8
    have f0 := s2.c0
    have f1 := s2.c1
    have f2 := s2.c2
    have f3 := s2.c3
    have f4 := s2.c4
    have f5 := s2.c5
    have f6 := s2.c6
    have f7 := s2.c7
    have f8 := s2.c8
    have HX := Lib.hid hx
    have HY := Lib.hid hy
    clear hx hy s1 s2
    go_wp2_with fail
    by_cases hq : x = y
    · have HQE : ∀ W, (Op.equalIn 10000 57 (.agg #[.int .i64 x.p.tag, .int .i64 x.l, .int .i64 x.r, .int .i64 x.p.k, .int .i64 x.p.n, .int .u64 x.p.u, .string x.p.s, .string x.p.tb, .string x.p.nm]) (.agg #[.int .i64 y.p.tag, .int .i64 y.l, .int .i64 y.r, .int .i64 y.p.k, .int .i64 y.p.n, .int .u64 y.p.u, .string y.p.s, .string y.p.tb, .string y.p.nm])).run Tryz.prog W = .ok true W := fun W => by rw [run_eqND, decide_eq_true hq]
      have HN := Lib.hid (show ∀ (k : Nat) (x y : Nd), k < i + 1 → xs[k]? = some x → ys[k]? = some y → x = y from fun k x' y' hk h8 h9 => by
       rcases Nat.lt_or_ge k i with h7 | h7
       · exact HEQ.out k x' y' h7 h8 h9
       · obtain rfl : k = i := by omega
         rw [← at_eq HX.out h8, ← at_eq HY.out h9]
         exact hq)
      clear hq
      go_quiet (fail)
      go_wp2
      go_roundg (gk - 1)
      · exact ⟨i + 1, by omega, by go_num, HN.out, bl_dr HB1.out _⟩
      · omega
    · have HQE : ∀ W, (Op.equalIn 10000 57 (.agg #[.int .i64 x.p.tag, .int .i64 x.l, .int .i64 x.r, .int .i64 x.p.k, .int .i64 x.p.n, .int .u64 x.p.u, .string x.p.s, .string x.p.tb, .string x.p.nm]) (.agg #[.int .i64 y.p.tag, .int .i64 y.l, .int .i64 y.r, .int .i64 y.p.k, .int .i64 y.p.n, .int .u64 y.p.u, .string y.p.s, .string y.p.tb, .string y.p.nm])).run Tryz.prog W = .ok false W := fun W => by rw [run_eqND, decide_eq_false hq]
      have HQ := Lib.hid (HNO.out (fun h => hq (by have h8 := HX.out; rw [h] at h8; exact at_eq h8 HY.out)))
      clear hq
      go_quiet (fail)
      go_wp2
      go_ret
      exact ⟨ret_bool HQ.out.symm, bl_dr HB1.out _⟩
  · obtain rfl : i = m := by omega
    have hi1 : (i : Int) ≤ (i : Int) := by omega
    have HQ := Lib.hid (HR.out.2 (list_ext_lt HL.out.1 HL.out.2 HEQ.out))
    go_wp2
    go_ret
    exact ⟨ret_bool HQ.out.symm, HB1.out⟩
set_option maxRecDepth 100000 in
theorem sametree_any (F G : Nat → Prop) (xs ys : List Nd) (A : Option Addr) (m c : Nat) (B : Option Addr) (n d : Nat) (w : World) (h : LN.rd w F A m xs) (k : LN.rd w G B n ys) (hm : m ≤ 9223372036854775807) :
 Calls Tryz.prog 10 #[.agg #[.slice A m c], .agg #[.slice B n d]] w fun e w' => e = .returned (.bool (decide (xs = ys))) ∧ Below w.heap.size w w' := by
 have HC := Lib.hid (fun w' (q : Below w.heap.size w w') => equalN F G xs ys A m c B n d w' (Lay.rd_below h q) (Lay.rd_below k q) hm)
 generalize decide (xs = ys) = r at *
 clear h k
 go_enter Tryz.func10, Tryz.ntmps10
 go_wp2_with fail
 refine (HC.out _ (by first | exact Below.refl _ _ | exact bl_al (bl_al (Below.refl _ _) _) _ | exact bl_al (Below.refl _ _) _)).mono ?_
 rintro e w2 ⟨rfl, q2⟩
 go_wp2
 go_ret
 exact ⟨rfl, by first | exact q2 | exact bl_ca (bl_al (bl_al (Below.refl _ _) _) _) q2⟩
end Go.Proofs.YtoaggmldekejoaaGreatDoor
/- grown: the parts of all places. Conditions: the nodes read so; what the tables hold. -/
namespace Go.Proofs.YtoaggmldekejoaaGreatDoor
open Go.RowKit
abbrev LB2 : Lay (Nat × Nat) where
 size := 2
 rep := fun _ _ x cs => cs = [.int .i64 (x.1 : Int), .int .i64 (x.2 : Int)]
 len := fun h => by subst h; rfl
 one := fun h u hu => by subst h; simp at hu; rcases hu with rfl | rfl <;> rfl
 keep := fun _ h => h
 weak := fun _ h => h
abbrev LI : Lay Nat := Lay.cell (fun n : Nat => .int .i64 (n : Int)) (fun _ => rfl)
theorem LB2_at {w : World} {F : Nat → Prop} {A : Option Addr} {n i : Nat} {xs : List (Nat × Nat)} (h : LB2.rd w F A n xs) (hi : i < n) : ∃ ad x, A = some ad ∧ xs[i]? = some x ∧ F ad.block ∧ w.cell? (ad.add (i * 2)) = some (.int .i64 (x.1 : Int)) ∧ w.cell? ⟨(ad.add (i * 2)).block, (ad.add (i * 2)).off + 1, none⟩ = some (.int .i64 (x.2 : Int)) := by
 obtain ⟨ad, x, cs, e, hx, _, hF, rfl, hc⟩ := Lay.rd_at h hi
 refine ⟨ad, x, e, hx, hF, hc 0 _ rfl, ?_⟩
 rw [← addr_more _ _ 1 (by omega)]; exact hc 1 _ rfl
theorem LI_at {w : World} {F : Nat → Prop} {A : Option Addr} {n i : Nat} {xs : List Nat} (h : LI.rd w F A n xs) (hi : i < n) : ∃ ad x, A = some ad ∧ xs[i]? = some x ∧ F ad.block ∧ w.cell? (ad.add i) = some (.int .i64 (x : Int)) := by
 obtain ⟨ad, x, cs, e, hx, _, hF, hr, hc⟩ := Lay.rd_at h hi
 obtain rfl : cs = [.int .i64 (x : Int)] := hr
 refine ⟨ad, x, e, hx, hF, ?_⟩
 have := hc 0 _ rfl
 rwa [show i * LI.size + 0 = i from by show i * 1 + 0 = i; omega] at this
/-- texts that are not too long -/
def SmP (p : Py) : Prop := p.s.size ≤ 9223372036854775807 ∧ p.tb.size ≤ 9223372036854775807 ∧ p.nm.size ≤ 9223372036854775807
theorem grows_snoc {c : Py → Bool} {xs : List Nd} {i : Nat} {x : Nd} {l : List Tr} (h : grows c [] (xs.take i) = some l) (hx : xs[i]? = some x) : grows c [] (xs.take (i + 1)) = grow c l x := by
 rw [List.take_add_one, hx, grows_app, h]
 show (grow c l x).bind (fun m => some m) = _
 cases grow c l x <;> rfl
theorem grows_no {c : Py → Bool} {xs : List Nd} {i : Nat} (h : grows c [] (xs.take i) = none) : grows c [] xs = none := by
 rw [← List.take_append_drop i xs, grows_app, h]
 rfl
theorem treeF_no {c : Py → Bool} {xs : List Nd} (h : grows c [] xs = none) : treeF c xs = none := by unfold treeF; rw [h]
theorem grows_len {c : Py → Bool} {xs : List Nd} {l : List Tr} (h : grows c [] xs = some l) : sizes l = xs.length := by
 have hf := (grows_flats h (fun _ h => by cases h)).1
 have := congrArg List.length hf
 rw [flats_len] at this
 have h0 : flats [] = [] := rfl
 rw [h0] at this
 simpa using this
theorem LI_reps {w : World} {F : Nat → Prop} : ∀ {xs : List Nat} {cs : List Value}, LI.reps w F xs cs → cs = xs.map fun x : Nat => Value.int .i64 (x : Int)
 | [], _, h => h
 | x :: l, _, h => by
  obtain ⟨a, b, rfl, ha, hb⟩ := h
  obtain rfl : a = [.int .i64 (x : Int)] := ha
  rw [LI_reps hb]
  rfl
theorem LI_src {w : World} {F : Nat → Prop} {A : Option Addr} {n : Nat} {xs : List Nat} (h : LI.rd w F A n xs) : 0 < n → ∃ ad, A = some ad ∧ ∀ j v, (xs.map fun x : Nat => Value.int .i64 (x : Int))[j]? = some v → w.cell? (ad.add j) = some v := by
 intro hn
 obtain ⟨hl, cs, hr, hc⟩ := h
 obtain ⟨ad, e, _, _, hh⟩ := hc hn
 rw [LI_reps hr] at hh
 exact ⟨ad, e, hh⟩
theorem LI_cut {w : World} {F : Nat → Prop} {A : Option Addr} {n c d : Nat} {xs : List Nat} (h : LI.rd w F A n xs) (hd : d ≤ n) (hc : n ≤ c) : LI.rd w F (if c = d then A else Option.map (fun x => x.add d) A) (n - d) (xs.drop d) := by
 have := Lay.rd_cut h hd hc
 rwa [show d * LI.size = d from Nat.mul_one d] at this
theorem at_splice {k : Nat} {l : List Tr} (hk : k ≤ 2) (hl : k ≤ l.length) {j : Nat} (hj : j < 2) :
 (Go.splice [Value.int .i64 (-1), .int .i64 (-1)] 0 ((lastR k l).map fun x : Nat => Value.int .i64 (x : Int)))[j]? = some (.int .i64 (atR k l j)) := by
 have h := lastR_len hl
 unfold atR Go.splice
 generalize lastR k l = ys at *
 match ys, h with
 | [], _ => match j, hj with
  | 0, _ => rfl
  | 1, _ => rfl
 | [a], _ => match j, hj with
  | 0, _ => rfl
  | 1, _ => rfl
 | [a, b], _ => match j, hj with
  | 0, _ => rfl
  | 1, _ => rfl
 | _ :: _ :: _ :: _, h => simp at h; omega
theorem own_take {α : Type} {L : Lay α} {e : TypeId} {w : World} {B n c d : Nat} {G : Nat → Prop} {A : Option Addr} {xs : List α} (h : L.own e w B G A n c xs) (hd : d ≤ n) : L.own e w B G A d c (xs.take d) := by
 obtain ⟨hl, cs, hr, ho⟩ := h
 have hlen := Lay.reps_len hr
 refine ⟨by rw [List.length_take]; omega, cs.take (d * L.size), Lay.reps_weak (fun b hb _ => by cases A <;> exact hb) (Lay.reps_take d hr), ?_⟩
 have hmul : d * L.size ≤ n * L.size := Nat.mul_le_mul_right _ hd
 refine ⟨by rw [List.length_take, hlen, hl]; omega, ?_⟩
 rcases ho.2 with ⟨e1, e2⟩ | ⟨g, cap, cur, e1, hg, hh, h1, h2, h3, h4⟩
 · injection e1 with e3 e4 e5
   left
   subst e3 e5
   have : d = 0 := by omega
   subst this
   exact ⟨rfl, rfl⟩
 · injection e1 with e3 e4 e5
   right
   subst e3 e5
   refine ⟨g, c, cur, rfl, hg, hh, by omega, h2, h3, ?_⟩
   rw [← h4, List.take_take, Nat.min_eq_left hmul]
theorem own_via {α : Type} {L : Lay α} {e : TypeId} {w w1 w2 : World} {B n c g : Nat} {A : Option Addr} {xs : List α} (h : L.own e w B (fun _ => False) A n c xs) (q : Below w.heap.size w w1) (k : w1.grownBy w2 (some g)) (hg : w.heap.size ≤ g) : L.own e w2 B (fun _ => False) A n c xs :=
 Lay.own_same (Lay.own_below h q) (fun b hb => k.block b (by have := (Lay.own_base h b hb).2; have := q.size; omega) (fun e => by injection e with e; have := (Lay.own_base h b hb).2; omega)) (fun _ h => h.elim)
theorem wpList_appG {α : Type} {L : Lay α} {e : TypeId} {P : Program} {ops : Array Oper} {rest : List Oper} {o : Oper} {a : Act} {w : World} {Q : Exit → Act → World → Prop} (hgd : o.guard = none) (s x : Operand) (t : TypeId)
 (ho : o.op = .call { callee := .builtin .append, args := #[s, x], argTypes := #[t, t] })
 (z : Value) (k bytes : Nat) (ht : P.underlying t = some (.slice e)) (hi : (P.info? e).map (fun i => (i.zero, i.size, i.bytes)) = some (some z, k, bytes)) (hk : L.size = k) (hzs : z.cells.size = k) (hk0 : 0 < k)
 (B : Nat) (G : Nat → Prop) (A : Option Addr) (n c : Nat) (xs : List α) (g c2 : Nat) (t' : TypeId) (vs : Array Value) (y : α) (hc2 : c2 = 1)
 (hs : a.eval s = .slice A n c) (hx : a.eval x = .slice (some ⟨g, 0, none⟩) 1 c2) (hown : L.own e w B G A n c xs) (hr : Blk w g t' vs)
 (hy : L.rep w (fun b => G b ∧ (Value.slice A n c).ownBlock ≠ some b) y vs.toList) (hG : ∀ b, G b → b < w.heap.size) (hb : (n + 1) * bytes ≤ 140737488355328) (hn : n + 1 ≤ maxLen) (hB : B ≤ w.heap.size)
 (h : ∀ A' c' w', L.own e w' B G A' (n + 1) c' (xs ++ [y]) → w.grownBy w' (Value.slice A n c).ownBlock → ((Value.slice A' (n + 1) c').ownBlock = (Value.slice A n c).ownBlock ∨ (Value.slice A' (n + 1) c').ownBlock = some w.heap.size) → wpList P ops Q rest (a.put o.dst (.slice A' (n + 1) c')) w') : wpList P ops Q (o :: rest) a w := by
 subst hc2
 obtain ⟨A', c', w', hrun, h1, h2, h3⟩ := run_appL (P := P) (w := w) t o.type z k bytes ht hi hk hzs hk0 B G A n c xs g 1 t' vs y hown hr hy hG hb hn hB
 refine wpList_plain hgd fun _ hK => ?_
 unfold Oper.wp execOp
 simp only [ho, resolve, invoke, builtin, Sem.run_bind, Sem.run_pure, Result.andThen_ok, List.map_toArray, List.map_cons, List.map_nil, hs, hx, hrun]
 exact hK _ _ (h A' c' w' h1 h2 h3)
theorem infoBel : (Tryz.prog.info? 68).map (fun i => (i.zero, i.size, i.bytes)) = some (some (.agg #[.int .i64 0, .int .i64 0]), 2, 16) := by kernel_rfl
theorem infoInt : (Tryz.prog.info? 3).map (fun i => (i.zero, i.size, i.bytes)) = some (some (.int .i64 0), 1, 8) := by kernel_rfl
theorem len_sizes : ∀ l : List Tr, l.length ≤ sizes l
 | [] => Nat.le_refl _
 | t :: r => by have := len_sizes r; have := t.size_pos; rw [List.length_cons]; show r.length + 1 ≤ sizes r + t.size; omega
/-- what grown gives back -/
def GrownO (w0 : World) (xs : List Nd) (e : Ending) (w' : World) : Prop :=
 ∃ (A : Option Addr) (c n : Nat) (ok : Bool) (bs : List (Nat × Nat)), e = .returned (.tuple #[.slice A n c, .bool ok]) ∧ ok = okF xs ∧ LB2.rd w' (fun b => w0.heap.size ≤ b) A n bs ∧ (∀ t, treeF cntB xs = some t → bs = t.bel 0 ∧ n = t.size) ∧ Below w0.heap.size w0 w'
theorem grown_no {w0 w' : World} {xs : List Nd} (h : grows cntB [] xs = none) (b : Below w0.heap.size w0 w') : GrownO w0 xs (.returned (.tuple #[.slice none 0 0, .bool false])) w' :=
 ⟨none, 0, 0, false, [], rfl, (okF_no (treeF_no h)).symm, Lay.rd_nil _, (fun t e => by rw [treeF_no h] at e; cases e), b⟩
set_option maxRecDepth 100000 in
set_option maxHeartbeats 16000000 in
theorem grown_any (F : Nat → Prop) (xs : List Nd) (A : Option Addr) (n c : Nat) (w : World) (h : LN.rd w F A n xs) (hn : n ≤ 100000) (hT : Tab w) (hS : ∀ x ∈ xs, SmP x.p) :
 Calls Tryz.prog 26 #[.agg #[.slice A n c]] w fun e w' => GrownO w xs e w' := by
 have HLEN := Lib.hid (Lay.rd_len h)
 have HSM := Lib.hid hS
 have HB0 := Lib.hid (Blk.new w 26 #[.slice A n c])
 have HQ0 := Lib.hid (bl_al (Below.refl w.heap.size w) (.cells #[.slice A n c] 26))
 have HRD := Lib.hid (Lay.rd_below h HQ0.out)
 have HTT := Lib.hid (hT.below HQ0.out)
 have x0 := HB0.out.cell 0
 simp at x0
 clear h hS hT
 go_enter Tryz.func26, Tryz.ntmps26
 go_wp2_with fail
 generalize w.alloc (.cells #[.slice A n c] 26) = w1 at *
 go_loopg [4, 5, 17] n (fun g a b d wr => ∃ (i : Nat) (l : List Tr) (A1 : Option Addr) (c1 : Nat) (A2 : Option Addr) (c2 : Nat), i + g = n ∧ a = .slice A1 i c1 ∧ b = .slice A2 l.length c2 ∧ d = .int .i64 (i : Int) ∧ Hid (grows cntB [] (xs.take i) = some l) ∧
  LB2.own 68 wr w1.heap.size (fun _ => False) A1 i c1 (bels l) ∧ LI.own 3 wr w1.heap.size (fun _ => False) A2 l.length c2 (roots l) ∧ (∀ k, (Value.slice A1 i c1).ownBlock = some k → (Value.slice A2 l.length c2).ownBlock ≠ some k) ∧ Below w1.heap.size w1 wr)
 case atStart => exact ⟨0, [], none, 0, none, 0, by omega, rfl, rfl, rfl, Lib.hid rfl, Lay.own_nil _ _, Lay.own_nil _ _, (fun k e => by simp [Value.ownBlock] at e), Below.refl _ _⟩
 case round =>
  obtain ⟨i, l, A1, c1, A2, c2, hig, rfl, rfl, rfl, HG, ho1, ho2, hap, hb⟩ := hrel
  have HO1 := Lib.hid ho1
  have HO2 := Lib.hid ho2
  have HAP := Lib.hid hap
  have HBB := Lib.hid hb
  clear ho1 ho2 hap hb
  by_cases hlt : i < n
  · have hi1 : (i : Int) < (n : Int) := by omega
    obtain ⟨p, x, hAe, hx, s1⟩ := LN_at (Lay.rd_below HRD.out HBB.out) hlt
    obtain rfl : A = some p := hAe
    have e0 := s1.c0
    have e1 := s1.c1
    have e2 := s1.c2
    have e3 := s1.c3
    have e4 := s1.c4
    have e5 := s1.c5
    have e6 := s1.c6
    have e7 := s1.c7
    have e8 := s1.c8
    have HX := Lib.hid hx
    clear hx s1
    have HBN := Lib.hid (Blk.new wr 57 (Nd.cells x))
    have HQ2 := Lib.hid (bl_al (Below.refl wr.heap.size wr) (.cells (Nd.cells x) 57))
    obtain ⟨kk, hkk⟩ : ∃ kk, partsI x.p.tag = kk := ⟨_, rfl⟩
    have HC := Lib.hid (fun W => parts_any x.p.tag W)
    rw [hkk] at HC
    have HKK := Lib.hid hkk
    clear hkk
    go_wp2_with fail
    refine (HC.out _).mono ?_
    rintro e w9 ⟨rfl, rfl⟩
    clear e0 e1 e2 e3 e4 e5 e6 e7 e8 HC
    generalize wr.alloc (.cells #[.int .i64 x.p.tag, .int .i64 x.l, .int .i64 x.r, .int .i64 x.p.k, .int .i64 x.p.n, .int .u64 x.p.u, .string x.p.s, .string x.p.tb, .string x.p.nm] 57) = w2 at *
    have HB2 := Lib.hid (bl_ca (bl_ca HQ0.out HBB.out) HQ2.out)
    have hz2 := HQ2.out.size
    by_cases hk0 : kk < 0
    · have HNO := Lib.hid (grows_no ((grows_snoc HG.out HX.out).trans (grow_no (.inl (by rw [HKK.out]; exact hk0)))))
      go_wp2
      go_ret2
      exact grown_no HNO.out HB2.out
    by_cases hk1 : (l.length : Int) < kk
    · have HNO := Lib.hid (grows_no ((grows_snoc HG.out HX.out).trans (grow_no (.inr (.inl (by rw [HKK.out]; exact hk1))))))
      have hk2 : 0 ≤ kk := by omega
      clear hk0
      go_wp2
      go_ret2
      exact grown_no HNO.out HB2.out
    obtain ⟨k, rfl⟩ : ∃ k : Nat, kk = (k : Int) := ⟨kk.toNat, by omega⟩
    have hkl : k ≤ l.length := by omega
    have hk2 : k ≤ 2 := by have := (parts_le x.p.tag).2; rw [HKK.out] at this; omega
    have f0 := HBN.out.cell 0
    have f1 := HBN.out.cell 1
    have f2 := HBN.out.cell 2
    have f3 := HBN.out.cell 3
    have f4 := HBN.out.cell 4
    have f5 := HBN.out.cell 5
    have f6 := HBN.out.cell 6
    have f7 := HBN.out.cell 7
    have f8 := HBN.out.cell 8
    simp at f0 f1 f2 f3 f4 f5 f6 f7 f8
    have HSX := Lib.hid (HSM.out x (List.mem_of_getElem? HX.out))
    have HCO := Lib.hid (counts_any x.p x.l x.r w2 ((HTT.out.below HBB.out).below HQ2.out) HSX.out.1 HSX.out.2.1 HSX.out.2.2)
    obtain ⟨cb, hcb⟩ : ∃ cb, cntB x.p = cb := ⟨_, rfl⟩
    rw [hcb] at HCO
    have HCB := Lib.hid hcb
    clear hcb hk0 hk1
    have hk1 : (k : Int) ≤ (l.length : Int) := by omega
    have hk0 : 0 ≤ (k : Int) := by omega
    go_wp2_with fail
    refine HCO.out.mono ?_
    rintro e w3 ⟨rfl, q3⟩
    have HQ3 := Lib.hid q3
    clear q3 f0 f1 f2 f3 f4 f5 f6 f7 f8 HCO
    cases cb
    · have HNO := Lib.hid (grows_no ((grows_snoc HG.out HX.out).trans (grow_no (.inr (.inr HCB.out)))))
      go_wp2
      go_ret2
      exact grown_no HNO.out (bl_ca HB2.out HQ3.out)
    obtain ⟨d, hd⟩ : ∃ d, d = l.length - k := ⟨_, rfl⟩
    have hd1 : (l.length : Int) - (k : Int) = (d : Int) := by omega
    have hd2 : d ≤ l.length := by omega
    have hcap := Lay.own_caps HO2.out
    have HD := Lib.hid hd
    clear hd
    go_upto_region 11 with fail
    have HBA := Lib.hid (Blk.new w3 3 #[.int .i64 (-1), .int .i64 (-1)])
    have HQ4 := Lib.hid (bl_al (Below.refl w3.heap.size w3) (.cells #[.int .i64 (-1), .int .i64 (-1)] 3))
    generalize w3.alloc (.cells #[.int .i64 (-1), .int .i64 (-1)] 3) = w4 at *
    have HB4 := Lib.hid (bl_ca (bl_ca HQ2.out HQ3.out) HQ4.out)
    have HR3 := Lib.hid (LI_cut (F := fun b => w1.heap.size ≤ b ∧ b < wr.heap.size) (Lay.rd_below (Lay.own_rd (F := fun b => w1.heap.size ≤ b ∧ b < wr.heap.size) HO2.out (fun b h1 h2 => ⟨h1, h2⟩) (fun b h _ => h.elim)) HB4.out) hd2 hcap.1)
    have hlk : l.length - d = k := by have := HD.out; omega
    have hlr : (roots l).drop d = lastR k l := by unfold lastR; rw [HD.out]
    rw [hlk, hlr] at HR3
    rw [hlk]
    clear hlk hlr
    generalize (if c2 = d then A2 else Option.map (fun x => x.add d) A2) = A3 at *
    obtain ⟨c3, hc3⟩ : ∃ c3, c3 = c2 - d := ⟨_, rfl⟩
    rw [← hc3]
    clear hc3
    have hz4 := HB4.out.size
    have hz3 := HQ4.out.size
    go_wp2_with (refine wpList_copy_splice rfl (.tmp 45) (.tmp 46) 117 117 rfl 3 Tryz.underlying117 (by kernel_rfl) (some ⟨w3.heap.size, 0, none⟩) A3 2 2 k c3 rfl rfl w3.heap.size 0 [.int .i64 (-1), .int .i64 (-1)] 3 HBA.out ((lastR k l).map fun x : Nat => Value.int .i64 (x : Int)) (by rw [List.length_map, lastR_len hkl]; show k = min k 2; omega) (fun hp => ⟨rfl, LI_src HR3.out (by rw [List.length_map, lastR_len hkl] at hp; exact hp)⟩) (by rw [List.length_map, lastR_len hkl]; show 0 + k ≤ 2; omega) (by intro v hv; obtain ⟨y, _, rfl⟩ := List.mem_map.1 hv; rfl) w3.heap.size w3 HQ4.out (Nat.le_refl _) ?_; intro w5 HBS b5; have HQ5 := Lib.hid b5; clear b5)
    have HB5 := Lib.hid (bl_ca HQ3.out HQ5.out)
    have HR5 := Lib.hid (Lay.rd_keep (fun b hb hl => by have := hb.2; have := HQ3.out.size; rw [HQ5.out.block b (by omega), HQ4.out.block b (by omega)]) HR3.out)
    have HBS5 := Lib.hid (show Blk w5 w3.heap.size 3 (Go.splice [Value.int .i64 (-1), .int .i64 (-1)] 0 ((lastR k l).map fun x : Nat => Value.int .i64 (x : Int))).toArray from HBS)
    obtain ⟨a0, ha0⟩ : ∃ a, atR k l 0 = a := ⟨_, rfl⟩
    obtain ⟨a1, ha1⟩ : ∃ a, atR k l 1 = a := ⟨_, rfl⟩
    have y0 : w5.cell? ⟨w3.heap.size, 0, none⟩ = some (.int .i64 a0) := by rw [HBS5.out.cell 0, ← ha0]; simpa using at_splice hk2 hkl (j := 0) (by omega)
    have y1 : w5.cell? ⟨w3.heap.size, 1, none⟩ = some (.int .i64 a1) := by rw [HBS5.out.cell 1, ← ha1]; simpa using at_splice hk2 hkl (j := 1) (by omega)
    have HA := Lib.hid (And.intro ha0 ha1)
    have HGG := Lib.hid (grow_gen HKK.out hkl HCB.out)
    clear ha0 ha1 HBS HR3 HBA HQ4 HB4 hz4 hz3
    have z1 := (HBN.out.ca HB5.out).cell 1
    have z2 := (HBN.out.ca HB5.out).cell 2
    simp at z1 z2
    by_cases hl0 : x.l = a0
    case neg =>
     have HNO := Lib.hid (grows_no ((grows_snoc HG.out HX.out).trans (HGG.out.1 (fun h => hl0 (h.1.trans HA.out.1)))))
     have g1 : (x.l == a0) = false := by simpa using hl0
     have g2 : (x.l != a0) = true := by simpa using hl0
     have g3 : decide (x.l = a0) = false := decide_eq_false hl0
     clear hl0
     go_wp2_with fail
     go_quiet (fail)
     go_wp2
     go_ret2
     exact grown_no HNO.out (bl_dr (bl_ca HB2.out HB5.out) _)
    by_cases hr0 : x.r = a1
    case neg =>
     have HNO := Lib.hid (grows_no ((grows_snoc HG.out HX.out).trans (HGG.out.1 (fun h => hr0 (h.2.trans HA.out.2)))))
     have g1 : (x.l == a0) = true := by simpa using hl0
     have g2 : (x.l != a0) = false := by simpa using hl0
     have g3 : decide (x.l = a0) = true := decide_eq_true hl0
     have g4 : (x.r == a1) = false := by simpa using hr0
     have g5 : (x.r != a1) = true := by simpa using hr0
     have g6 : decide (x.r = a1) = false := decide_eq_false hr0
     clear hl0 hr0
     go_wp2_with fail
     go_quiet (fail)
     go_wp2
     go_ret2
     exact grown_no HNO.out (bl_dr (bl_ca HB2.out HB5.out) _)
    obtain ⟨m, hm, hmb, hmr, hms, hml⟩ := HGG.out.2 (hl0.trans HA.out.1.symm) (hr0.trans HA.out.2.symm)
    have HM := Lib.hid hm
    have HMB := Lib.hid hmb
    have HMR := Lib.hid hmr
    have HMS := Lib.hid hms
    have HML := Lib.hid hml
    have g1 : (x.l == a0) = true := by simpa using hl0
    have g2 : (x.l != a0) = false := by simpa using hl0
    have g3 : decide (x.l = a0) = true := decide_eq_true hl0
    have g4 : (x.r == a1) = true := by simpa using hr0
    have g5 : (x.r != a1) = false := by simpa using hr0
    have g6 : decide (x.r = a1) = true := decide_eq_true hr0
    clear hl0 hr0 hm hmb hmr hms hml HGG HA
    go_wp2_with fail
    go_quiet (fail)
    clear g1 g2 g3 g4 g5 g6 y0 y1 z1 z2
    have HQ6 := Lib.hid (bl_dr (Below.refl w5.heap.size w5) nq)
    generalize w5.drewN nq = w6 at *
    have HB6 := Lib.hid (bl_ca HB5.out HQ6.out)
    have HR6 := Lib.hid (Lay.rd_below HR5.out HQ6.out)
    have HBN6 := Lib.hid (HBN.out.ca HB6.out)
    have HBW := Lib.hid (Blk.new w6 68 #[.int .i64 (i : Int), .int .i64 1])
    clear HB5 HR5 HBS5 HQ5
    have hsz : sizes l = i := by
     have := grows_len HG.out
     rw [List.length_take, HLEN.out] at this
     omega
    have hlr := lastR_len hkl
    have HLR := Lib.hid hlr
    go_wp2_with fail
    rw [hlr]
    clear hlr
    have HQ7 := Lib.hid (bl_al (Below.refl w6.heap.size w6) (.cells #[.int .i64 (i : Int), .int .i64 1] 68))
    generalize w6.alloc (.cells #[.int .i64 (i : Int), .int .i64 1] 68) = w7 at *
    have HB7 := Lib.hid (bl_ca HB6.out HQ7.out)
    have HR7 := Lib.hid (Lay.rd_below HR6.out HQ7.out)
    have HBN7 := Lib.hid (HBN6.out.ca HQ7.out)
    have hz6 := HB6.out.size
    have HRO := Lib.hid (Lay.rd_below (Lay.own_rd (F := fun b => w1.heap.size ≤ b ∧ b < wr.heap.size) HO1.out (fun b h1 h2 => ⟨h1, h2⟩) (fun b h _ => h.elim)) (bl_ca HQ2.out HB7.out))
    clear HR6 HBN6 HB6
    obtain ⟨gk0, rfl⟩ : ∃ g1, g1 = gk := ⟨_, rfl⟩
    obtain ⟨wo, rfl⟩ : ∃ x, x = wr := ⟨_, rfl⟩
    go_loopg [66] k (fun g a wx => ∃ j f dd : Nat, j + g = k ∧ a = .int .i64 (j : Int) ∧ Hid ((f, dd) = ((lastR k l).take j).foldl (bstep (bels l)) (i, 1)) ∧ Hid (Blk wx w6.heap.size 68 #[.int .i64 (f : Int), .int .i64 (dd : Int)]) ∧ Hid (w7.grownBy wx (some w6.heap.size)))
    case atStart => exact ⟨0, i, 1, by omega, rfl, Lib.hid rfl, HBW, Lib.hid (World.grownBy.refl _ _)⟩
    case round =>
     obtain ⟨j, f, dd, hjg, rfl, HF, HBX, HGX⟩ := hrel
     by_cases hlt2 : j < k
     · have hj1 : (j : Int) < (k : Int) := by omega
       obtain ⟨p3, q, hAe3, hq, hF3, r0⟩ := LI_at (rd_grownH HR7.out HGX.out (fun b hb => by have := hb.2; omega)) hlt2
       obtain rfl : A3 = some p3 := hAe3
       have hqi : q < i := by rw [← hsz]; exact lastR_lt q (List.mem_of_getElem? hq)
       obtain ⟨p1, bb, hAe1, hbb, hF1, s0, s1⟩ := LB2_at (rd_grownH HRO.out HGX.out (fun b hb => by have := hb.2; omega)) hqi
       obtain rfl : A1 = some p1 := hAe1
       have hsm := bels_small l bb (List.mem_of_getElem? hbb)
       obtain ⟨f2, hf2⟩ : ∃ f2, f2 = min f bb.1 := ⟨_, rfl⟩
       obtain ⟨d2, hd2⟩ : ∃ d2, d2 = max dd (bb.2 + 1) := ⟨_, rfl⟩
       have HF2 := Lib.hid (show (f2, d2) = ((lastR k l).take (j + 1)).foldl (bstep (bels l)) (i, 1) from by
        rw [List.take_add_one, hq, List.foldl_append, ← HF.out, hf2, hd2]
        show _ = bstep (bels l) (f, dd) q
        rw [bstep, getD_of hbb])
       have m1 : min (f : Int) (bb.1 : Int) = (f2 : Int) := by omega
       have m2 : max (dd : Int) ((bb.2 : Int) + 1) = (d2 : Int) := by omega
       have hb1 : 0 ≤ (bb.2 : Int) := by omega
       have hb2 : (bb.2 : Int) ≤ 100000 := by omega
       have b0 := HBX.out.cell 0
       have b1 := HBX.out.cell 1
       simp at b0 b1
       have fz0 := HBX.out.frozen 0
       have fz1 := HBX.out.frozen 1
       have hq1 : (q : Int) < (i : Int) := by omega
       have hq0 : 0 ≤ (q : Int) := by omega
       clear hf2 hd2 hsm hq hbb
       go_wp2_with fail
       go_region
       have HX8 := Lib.hid (show Blk ((wr.setCell ⟨w6.heap.size, 0, none⟩ (.int .i64 (f2 : Int))).setCell ⟨w6.heap.size, 1, none⟩ (.int .i64 (d2 : Int))).drew w6.heap.size 68 #[.int .i64 (f2 : Int), .int .i64 (d2 : Int)] from by
        have h9 : Blk ((wr.setCell ⟨w6.heap.size, 0, none⟩ (.int .i64 (f2 : Int))).setCell ⟨w6.heap.size, 1, none⟩ (.int .i64 (d2 : Int))) w6.heap.size 68 #[.int .i64 (f2 : Int), .int .i64 (d2 : Int)] := by
         have := (HBX.out.set_ 0 (.int .i64 (f2 : Int))).set_ 1 (.int .i64 (d2 : Int))
         simpa using this
        exact h9)
       have hg8 : w7.grownBy ((wr.setCell ⟨w6.heap.size, 0, none⟩ (.int .i64 (f2 : Int))).setCell ⟨w6.heap.size, 1, none⟩ (.int .i64 (d2 : Int))) (some w6.heap.size) := only_setCell (p := ⟨w6.heap.size, 1, none⟩) (only_setCell (p := ⟨w6.heap.size, 0, none⟩) HGX.out (.inl rfl) _) (.inl rfl) _
       have HG8 := Lib.hid (show w7.grownBy ((wr.setCell ⟨w6.heap.size, 0, none⟩ (.int .i64 (f2 : Int))).setCell ⟨w6.heap.size, 1, none⟩ (.int .i64 (d2 : Int))).drew (some w6.heap.size) from ⟨hg8.os, hg8.tape, hg8.output, hg8.size, hg8.block⟩)
       clear hg8 b0 b1 fz0 fz1 r0 s0 s1
       generalize ((wr.setCell ⟨w6.heap.size, 0, none⟩ (.int .i64 (f2 : Int))).setCell ⟨w6.heap.size, 1, none⟩ (.int .i64 (d2 : Int))).drew = w8 at *
       go_wp2
       go_roundg (gk - 1)
       · exact ⟨j + 1, f2, d2, by omega, by go_num, HF2, HX8, HG8⟩
       · omega
     · obtain rfl : j = k := by omega
       have hj1 : (j : Int) ≤ (j : Int) := by omega
       have HF2 := Lib.hid (show (f, dd) = (lastR j l).foldl (bstep (bels l)) (i, 1) from by
        have := HF.out
        rwa [List.take_of_length_le (by rw [HLR.out]; exact Nat.le_refl _)] at this)
       have HO1x := Lib.hid (own_via HO1.out (bl_ca HQ2.out HB7.out) HGX.out (by omega))
       have HO2x := Lib.hid (own_via HO2.out (bl_ca HQ2.out HB7.out) HGX.out (by omega))
       have b0 := HBX.out.cell 0
       have b1 := HBX.out.cell 1
       simp at b0 b1
       have hzr := HGX.out.size
       have hz7 := HB7.out.size
       have hwz := HBB.out.size
       have HBY := Lib.hid (Blk.new wr 68 #[.int .i64 (f : Int), .int .i64 (dd : Int)])
       have HO1y := Lib.hid (Lay.own_alloc HO1x.out (.cells #[.int .i64 (f : Int), .int .i64 (dd : Int)] 68))
       have HO2y := Lib.hid (Lay.own_alloc HO2x.out (.cells #[.int .i64 (f : Int), .int .i64 (dd : Int)] 68))
       have hal : wr.heap.size ≤ (wr.alloc (.cells #[.int .i64 (f : Int), .int .i64 (dd : Int)] 68)).heap.size := by simp [World.size_alloc]
       have HALW := Lib.hid (bl_al (Below.refl wr.heap.size wr) (.cells #[.int .i64 (f : Int), .int .i64 (dd : Int)] 68))
       have hwr : w1.heap.size ≤ wr.heap.size := by omega
       go_upto_region 21 with (at_builtin; refine wpList_appG (L := LB2) (e := 68) rfl (.tmp 90) (.tmp 92) 60 rfl (.agg #[.int .i64 0, .int .i64 0]) 2 16 Tryz.underlying60 infoBel rfl rfl (by decide) w1.heap.size (fun _ => False) A1 i c1 (bels l) wr.heap.size 1 68 #[.int .i64 (f : Int), .int .i64 (dd : Int)] (f, dd) rfl rfl rfl HO1y.out HBY.out rfl (fun b h => h.elim) (by omega) (by unfold maxLen; omega) (by omega) ?_; intro A4 c4 w9 o9 g9 k9; have HO9 := Lib.hid o9; have HG9 := Lib.hid g9; have HK9 := Lib.hid k9; clear o9 g9 k9)
       generalize wr.alloc (.cells #[.int .i64 (f : Int), .int .i64 (dd : Int)] 68) = wa at *
       have hz9 := HG9.out.size
       have HO2z := Lib.hid (own_take (Lay.own_same HO2y.out (fun k hk => HG9.out.block k (Lay.own_base HO2y.out k hk).2 (fun e => HAP.out k e.symm hk)) (fun _ h => h.elim)) hd2)
       have HBZ := Lib.hid (Blk.new w9 3 #[.int .i64 (i : Int)])
       have HO1z := Lib.hid (Lay.own_alloc HO9.out (.cells #[.int .i64 (i : Int)] 3))
       have HO2v := Lib.hid (Lay.own_alloc HO2z.out (.cells #[.int .i64 (i : Int)] 3))
       have hal9 : w9.heap.size ≤ (w9.alloc (.cells #[.int .i64 (i : Int)] 3)).heap.size := by simp [World.size_alloc]
       have HALB := Lib.hid (bl_al (Below.refl w9.heap.size w9) (.cells #[.int .i64 (i : Int)] 3))
       have hll := len_sizes l
       have hmd : d + 1 = m.length := by have := HD.out; have := HML.out; omega
       have HMD := Lib.hid hmd
       clear hmd
       go_wp2_with (at_builtin; refine wpList_appG (L := LI) (e := 3) rfl (.tmp 99) (.tmp 101) 117 rfl (.int .i64 0) 1 8 Tryz.underlying117 infoInt rfl rfl (by decide) w1.heap.size (fun _ => False) A2 d c2 ((roots l).take d) w9.heap.size 1 3 #[.int .i64 (i : Int)] i rfl rfl rfl HO2v.out HBZ.out rfl (fun b h => h.elim) (by omega) (by unfold maxLen; omega) (by omega) ?_; intro A5 c5 w10 o10 g10 k10; have HO10 := Lib.hid o10; have HG10 := Lib.hid g10; have HK10 := Lib.hid k10; clear o10 g10 k10)
       generalize w9.alloc (.cells #[.int .i64 (i : Int)] 3) = wb at *
       have hz10 := HG10.out.size
       have hbk : ∀ k, (Value.slice A2 d c2).ownBlock = some k → (Value.slice A2 l.length c2).ownBlock = some k := fun k hk => by cases A2 <;> exact hk
       have HO1f := Lib.hid (Lay.own_same HO1z.out (fun k hk => HG10.out.block k (Lay.own_base HO1z.out k hk).2 (fun e => by
        have e2 := hbk k e.symm
        rcases HK9.out with h9 | h9
        · exact HAP.out k (h9 ▸ hk) e2
        · rw [h9] at hk
          injection hk with hk
          have := (Lay.own_base HO2x.out k e2).2
          omega)) (fun _ h => h.elim))
       have HAP2 := Lib.hid (show ∀ k, (Value.slice A4 (i + 1) c4).ownBlock = some k → (Value.slice A5 (d + 1) c5).ownBlock ≠ some k from fun k hk h5 => by
        have hk9 := (Lay.own_base HO9.out k hk).2
        rcases HK10.out with h10 | h10
        · rw [h10] at h5
          have e2 := hbk k h5
          rcases HK9.out with h9 | h9
          · exact HAP.out k (h9 ▸ hk) e2
          · rw [h9] at hk
            injection hk with hk
            have := (Lay.own_base HO2x.out k e2).2
            omega
        · rw [h10] at h5
          injection h5 with h5
          omega)
       have HBF := Lib.hid (show Below w1.heap.size w1 w10 from by
        have b1 : Below w1.heap.size w1 wr := ((HBB.out.trans ((bl_ca HQ2.out HB7.out).mono hwz))).grown HGX.out (by omega) (fun k e => by injection e with e; omega)
        have b2 : Below w1.heap.size w1 wa := ⟨(HALW.out).os.trans b1.os, HALW.out.tape.trans b1.tape, HALW.out.output.trans b1.output, Nat.le_trans b1.size HALW.out.size, fun k hk => (HALW.out.block k (by omega)).trans (b1.block k hk)⟩
        have b3 := b2.grown HG9.out (by omega) (fun k e => (Lay.own_base HO1x.out k e).1)
        have b4 : Below w1.heap.size w1 wb := ⟨(HALB.out).os.trans b3.os, HALB.out.tape.trans b3.tape, HALB.out.output.trans b3.output, Nat.le_trans b3.size HALB.out.size, fun k hk => (HALB.out.block k (by omega)).trans (b3.block k hk)⟩
        exact b4.grown HG10.out (by omega) (fun k e => (Lay.own_base HO2x.out k (hbk k e)).1))
       have HGS := Lib.hid (show grows cntB [] (xs.take (i + 1)) = some m from (grows_snoc HG.out HX.out).trans HM.out)
       have HBE := Lib.hid (show bels m = bels l ++ [(f, dd)] from by rw [HMB.out, hsz, HF2.out])
       have HRE := Lib.hid (show roots m = (roots l).take d ++ [i] from by rw [HMR.out, hsz, ← HD.out])
       clear hll hbk
       go_roundg (gk0 - 1)
       · exact ⟨i + 1, m, A4, c4, A5, c5, by omega, rfl, by rw [HMD.out], by go_num, HGS, by rw [HBE.out]; exact HO1f.out, by rw [HRE.out, ← HMD.out]; exact HO10.out, by rw [← HMD.out]; exact HAP2.out, HBF.out⟩
       · omega
  · obtain rfl : i = n := by omega
    have hi1 : (i : Int) ≤ (i : Int) := by omega
    have hgl : grows cntB [] xs = some l := by have := HG.out; rwa [List.take_of_length_le (by rw [HLEN.out]; exact Nat.le_refl _)] at this
    have hsz : sizes l = i := by have := grows_len hgl; rw [this, HLEN.out]
    have HOK := Lib.hid (grownOk_tree hgl)
    have HGO := Lib.hid (show grownOk l = (decide (l.length = 1) && (decide (i ≤ 300) && decide (((bels l).getD (i - 1) (0, 0)).2 ≤ 20))) from by unfold grownOk; rw [hsz])
    have HRF := Lib.hid (Lay.own_rd (F := fun b => w.heap.size ≤ b) HO1.out (fun b h1 _ => Nat.le_trans HQ0.out.size h1) (fun b h _ => h.elim))
    have HBF := Lib.hid (bl_ca HQ0.out HBB.out)
    have HFIN := Lib.hid (show ∀ (ok : Bool) (w' : World), Below wr.heap.size wr w' → ok = grownOk l → GrownO w xs (.returned (.tuple #[.slice A1 i c1, .bool ok])) w' from fun ok w' q h =>
     ⟨A1, c1, i, ok, bels l, rfl, h.trans HOK.out.1, Lay.rd_below HRF.out q, (fun t ht => ⟨(HOK.out.2 t ht).1, hsz.symm.trans (HOK.out.2 t ht).2.1⟩), bl_ca HBF.out q⟩)
    have hll := len_sizes l
    clear hgl
    by_cases h1 : l.length = 1
    case neg =>
     have g1 : ((l.length : Int) == 1) = false := by simp; omega
     have g2 : decide ((l.length : Int) = 1) = false := decide_eq_false (by omega)
     have g3 : decide (l.length = 1) = false := decide_eq_false h1
     have HF := Lib.hid (show false = grownOk l from by rw [HGO.out, g3]; rfl)
     clear h1
     go_wp2_with fail
     go_quiet (fail)
     go_wp2
     go_ret2
     exact HFIN.out _ _ (bl_dr (Below.refl _ _) _) HF.out
    have g1 : ((l.length : Int) == 1) = true := by simp; omega
    have g2 : decide ((l.length : Int) = 1) = true := decide_eq_true (by omega)
    have g3 : decide (l.length = 1) = true := decide_eq_true h1
    by_cases h2 : i ≤ 300
    case neg =>
     have g4 : decide ((i : Int) ≤ 300) = false := decide_eq_false (by omega)
     have g5 : decide (i ≤ 300) = false := decide_eq_false h2
     have HF := Lib.hid (show false = grownOk l from by rw [HGO.out, g3, g5]; rfl)
     clear h1 h2
     go_wp2_with fail
     go_quiet (fail)
     go_wp2
     go_ret2
     exact HFIN.out _ _ (bl_dr (Below.refl _ _) _) HF.out
    have g4 : decide ((i : Int) ≤ 300) = true := decide_eq_true (by omega)
    have g5 : decide (i ≤ 300) = true := decide_eq_true h2
    obtain ⟨i1, hi9⟩ : ∃ i1, i = i1 + 1 := ⟨i - 1, by omega⟩
    obtain ⟨p1, bb, hAe1, hbb, _, s0, s1⟩ := LB2_at HRF.out (show i1 < i by omega)
    have hgd : (bels l).getD (i - 1) (0, 0) = bb := by rw [show i - 1 = i1 from by omega]; exact getD_of hbb
    rw [hgd] at HGO
    obtain rfl : A1 = some p1 := hAe1
    have hix : (i : Int) - 1 = (i1 : Int) := by omega
    have hix0 : 0 ≤ (i1 : Int) := by omega
    have hix1 : (i1 : Int) < (i : Int) := by omega
    clear h1 h2 hi9 hgd hbb
    by_cases h3 : bb.2 ≤ 20
    · have g6 : decide ((bb.2 : Int) ≤ 20) = true := decide_eq_true (by omega)
      have g7 : decide (bb.2 ≤ 20) = true := decide_eq_true h3
      have HF := Lib.hid (show true = grownOk l from by rw [HGO.out, g3, g5, g7]; rfl)
      clear h3
      go_wp2_with fail
      go_quiet (fail)
      go_wp2
      go_ret2
      exact HFIN.out _ _ (bl_dr (Below.refl _ _) _) HF.out
    · have g6 : decide ((bb.2 : Int) ≤ 20) = false := decide_eq_false (by omega)
      have g7 : decide (bb.2 ≤ 20) = false := decide_eq_false h3
      have HF := Lib.hid (show false = grownOk l from by rw [HGO.out, g3, g5, g7]; rfl)
      clear h3
      go_wp2_with fail
      go_quiet (fail)
      go_wp2
      go_ret2
      exact HFIN.out _ _ (bl_dr (Below.refl _ _) _) HF.out
end Go.Proofs.YtoaggmldekejoaaGreatDoor
/- CheckTree, Depth; nodes moved. Conditions: the nodes read so; what the tables hold. -/
namespace Go.Proofs.YtoaggmldekejoaaGreatDoor
open Go.RowKit
def chkE (xs : List Nd) : Int := if okF xs then 0 else 180
theorem ret_i' {a b : Int} (h : a = b) : Ending.returned (.int .i64 a) = Ending.returned (.int .i64 b) := by rw [h]
set_option maxRecDepth 100000 in
theorem checktree_any (F : Nat → Prop) (xs : List Nd) (A : Option Addr) (n c : Nat) (w : World) (h : LN.rd w F A n xs) (hn : n ≤ 100000) (hT : Tab w) (hS : ∀ x ∈ xs, SmP x.p) :
 Calls Tryz.prog 9 #[.agg #[.slice A n c]] w fun e w' => e = .returned (.int .i64 (chkE xs)) ∧ Below w.heap.size w w' := by
 have HQ := Lib.hid (bl_al (Below.refl w.heap.size w) (.cells #[.slice A n c] 26))
 have HC := Lib.hid (grown_any F xs A n c _ (Lay.rd_below h HQ.out) hn (hT.below HQ.out) hS)
 have HE := Lib.hid (show chkE xs = if okF xs then 0 else 180 from rfl)
 generalize chkE xs = r at *
 clear h hT hS
 go_enter Tryz.func9, Tryz.ntmps9
 go_wp2_with fail
 refine HC.out.mono ?_
 rintro e w2 ⟨A2, c2, n2, ok, bs, rfl, hok, _, _, q2⟩
 have HQ2 := Lib.hid (bl_ca HQ.out q2)
 rw [← hok] at HE
 clear hok q2
 cases ok
 · go_wp2
   go_ret
   exact ⟨ret_i' (by rw [HE.out]; rfl), HQ2.out⟩
 · go_wp2
   go_ret
   exact ⟨ret_i' (by rw [HE.out]; rfl), HQ2.out⟩
set_option maxRecDepth 100000 in
theorem depth_any (F : Nat → Prop) (xs : List Nd) (A : Option Addr) (n c : Nat) (w : World) (h : LN.rd w F A n xs) (hn : n ≤ 100000) (hT : Tab w) (hS : ∀ x ∈ xs, SmP x.p) :
 Calls Tryz.prog 15 #[.agg #[.slice A n c]] w fun e w' => e = .returned (.int .i64 (depF xs : Int)) ∧ Below w.heap.size w w' := by
 have HQ := Lib.hid (bl_al (Below.refl w.heap.size w) (.cells #[.slice A n c] 26))
 have HC := Lib.hid (grown_any F xs A n c _ (Lay.rd_below h HQ.out) hn (hT.below HQ.out) hS)
 clear h hT hS
 go_enter Tryz.func15, Tryz.ntmps15
 go_wp2_with fail
 refine HC.out.mono ?_
 rintro e w2 ⟨A2, c2, n2, ok, bs, rfl, hok, hrd, hbs, q2⟩
 have HQ2 := Lib.hid (bl_ca HQ.out q2)
 have HRD := Lib.hid hrd
 have HBS := Lib.hid hbs
 clear q2 hrd hbs
 cases ok
 · have HD := Lib.hid (show depF xs = 0 from by
    cases ht : treeF cntB xs with
    | none => unfold depF; rw [ht]
    | some t => rw [okF_of ht] at hok; cases hok)
   clear hok
   go_wp2
   go_ret
   exact ⟨ret_i' (by rw [HD.out]; rfl), HQ2.out⟩
 · obtain ⟨t, ht⟩ := okF_ex hok.symm
   obtain ⟨hb, hn2⟩ := HBS.out t ht
   have hp := t.size_pos
   obtain ⟨p, x, hAe, hx, _, _, s1⟩ := LB2_at HRD.out (show n2 - 1 < n2 by omega)
   obtain rfl : A2 = some p := hAe
   have HD := Lib.hid (show depF xs = x.2 from by
    rw [depF_of ht]
    have := bel_last t 0
    rw [hb, hn2] at hx
    rw [this] at hx
    injection hx with hx
    rw [← hx])
   obtain ⟨m, hm⟩ : ∃ m, m = n2 - 1 := ⟨_, rfl⟩
   rw [← hm] at s1
   have i1 : (n2 : Int) - 1 = (m : Int) := by omega
   have i2 : 0 ≤ (m : Int) := by omega
   have i3 : (m : Int) < (n2 : Int) := by omega
   have i4 : (m : Int) ≤ 300 := by have := (treeF_some.1 ht).2.2.1; omega
   clear hok hb hn2 hp hx hm
   go_wp2
   go_ret
   exact ⟨ret_i' (by rw [HD.out]), HQ2.out⟩
/-! ### nodes of one's own -/
theorem own_swap {α : Type} {L : Lay α} {e : TypeId} {w : World} {B n c : Nat} {G G' : Nat → Prop} {A : Option Addr} {xs : List α} (hfree : ∀ (w w' : World) (F G : Nat → Prop) (ys : List α) (cs : List Value), L.reps w F ys cs → L.reps w' G ys cs) (h : L.own e w B G A n c xs) : L.own e w B G' A n c xs := by
 obtain ⟨hl, cs, hr, ho⟩ := h
 exact ⟨hl, cs, hfree _ _ _ _ _ _ hr, ho⟩
abbrev nd9 (x : Nd) : List Value := [.int .i64 x.p.tag, .int .i64 x.l, .int .i64 x.r, .int .i64 x.p.k, .int .i64 x.p.n, .int .u64 x.p.u, .string x.p.s, .string x.p.tb, .string x.p.nm]
theorem LN_reps {w : World} {F : Nat → Prop} : ∀ {xs : List Nd} {cs : List Value}, LN.reps w F xs cs ↔ cs = xs.flatMap nd9
 | [], _ => Iff.rfl
 | x :: l, cs => by
  constructor
  · rintro ⟨a, b, rfl, ha, hb⟩
    obtain rfl : a = nd9 x := ha
    rw [LN_reps.1 hb]
    rfl
  · rintro rfl
    exact ⟨nd9 x, l.flatMap nd9, rfl, rfl, LN_reps.2 rfl⟩
theorem LN_free : ∀ (w w' : World) (F G : Nat → Prop) (ys : List Nd) (cs : List Value), LN.reps w F ys cs → LN.reps w' G ys cs := fun _ _ _ _ _ _ h => LN_reps.2 (LN_reps.1 h)
theorem flat9_len : ∀ xs : List Nd, (xs.flatMap nd9).length = xs.length * 9
 | [] => rfl
 | x :: l => by rw [List.flatMap_cons, List.length_append, flat9_len l]; show 9 + l.length * 9 = (l.length + 1) * 9; omega
theorem flat9_set : ∀ {xs : List Nd} {i j : Nat} {x x' : Nd} {v : Value}, xs[i]? = some x → nd9 x' = (nd9 x).set j v → j < 9 → (xs.set i x').flatMap nd9 = (xs.flatMap nd9).set (i * 9 + j) v
 | [], i, j, x, x', v, h, _, _ => by simp at h
 | y :: l, 0, j, x, x', v, h, e, hj => by
  rw [List.getElem?_cons_zero] at h
  injection h with h
  subst h
  rw [List.set_cons_zero, List.flatMap_cons, List.flatMap_cons, e, List.set_append_left _ _ (by show _ < 9; omega), Nat.zero_mul, Nat.zero_add]
 | y :: l, i + 1, j, x, x', v, h, e, hj => by
  rw [List.getElem?_cons_succ] at h
  rw [List.set_cons_succ, List.flatMap_cons, List.flatMap_cons, flat9_set h e hj, List.set_append_right _ _ (by show 9 ≤ _; omega)]
  congr 2
  show _ = (i + 1) * 9 + j - 9
  omega
theorem own_setN {w : World} {B n c g i j : Nat} {G : Nat → Prop} {xs : List Nd} {x x' : Nd} {v : Value} (h : LN.own 57 w B G (some ⟨g, 0, none⟩) n c xs) (hx : xs[i]? = some x) (e : nd9 x' = (nd9 x).set j v) (hj : j < 9) : LN.own 57 (w.setCell ⟨g, i * 9 + j, none⟩ v) B G (some ⟨g, 0, none⟩) n c (xs.set i x') := by
 obtain ⟨hl, cs, hr, ho⟩ := h
 obtain rfl := LN_reps.1 hr
 refine ⟨by rw [List.length_set]; exact hl, (xs.set i x').flatMap nd9, LN_reps.2 rfl, by rw [flat9_len, List.length_set, hl]; rfl, ?_⟩
 rcases ho.2 with ⟨e1, _⟩ | ⟨g', cap, cur, e1, hg, hh, h1, h2, h3, h4⟩
 · cases e1
 · injection e1 with e2 _ e4
   injection e2 with e2
   injection e2 with e2 _ _
   subst e2 e4
   have hi : i < xs.length := (List.getElem?_eq_some_iff.1 hx).1
   have hsz : i * 9 + j < cur.size := by
    have h3' : cur.size = c * 9 := h3
    have : i * 9 + 9 ≤ n * 9 := by omega
    have : n * 9 ≤ c * 9 := Nat.mul_le_mul_right _ h1
    omega
   refine .inr ⟨g, c, cur.setIfInBounds (i * 9 + j) v, rfl, hg, ?_, h1, h2, by rw [Array.size_setIfInBounds]; exact h3, ?_⟩
   · have hb : Blk w g 57 cur := hh
     exact hb.set_ (i * 9 + j) v
   · rw [flat9_set hx e hj, ← h4, Array.toList_setIfInBounds]
     rw [List.take_set]
theorem infoN : (Tryz.prog.info? 57).map (fun i => (i.zero, i.size, i.bytes)) = some (some (.agg #[.int .i64 0, .int .i64 0, .int .i64 0, .int .i64 0, .int .i64 0, .int .u64 0, .string ⟨#[]⟩, .string ⟨#[]⟩, .string ⟨#[]⟩]), 9, 96) := by kernel_rfl
set_option maxRecDepth 100000 in
set_option maxHeartbeats 4000000 in
theorem cloneN (F : Nat → Prop) (A : Option Addr) (m c : Nat) (xs : List Nd) (w : World) (h : LN.rd w F A m xs) (hm : m ≤ 100000) :
 Calls Tryz.prog 108 #[.slice A m c] w fun e w' => ∃ A' c', e = .returned (.slice A' m c') ∧ LN.own 57 w' w.heap.size (fun _ => False) A' m c' xs ∧ Below w.heap.size w w' := by
 cases A with
 | none =>
  have hm0 : m = 0 := by
   rcases Nat.eq_zero_or_pos m with h0 | h0
   · exact h0
   · obtain ⟨ad, x, cs, e, _⟩ := Lay.rd_at h h0; cases e
  subst hm0
  obtain rfl : xs = [] := List.eq_nil_of_length_eq_zero (Lay.rd_len h)
  clear h
  have HQ : ∀ W, (binOp .eql 24 (.slice none 0 c) (.slice none 0 0)).run Tryz.prog W = .ok (.bool true) W := fun W => Lib.run_eql_slice_nil W _ _ _ _ _ _ _ Tryz.underlying24
  go_enter Tryz.func108, Tryz.ntmps108
  go_wp2
  go_ret
  exact ⟨none, 0, rfl, Lay.own_nil _ _, Below.refl _ _⟩
 | some a =>
  have oe := Lay.own_empty LN w 57 (fun b => F b ∧ b < w.heap.size) (by decide)
  have b1 := bl_al (Below.refl w.heap.size w) (.cells #[] 57)
  have h2 : LN.rd (w.alloc (.cells #[] 57)) (fun b => F b ∧ b < w.heap.size) (some a) m xs := Lay.rd_below (Lay.rd_weak (fun b hb hl => ⟨hb, hl⟩) h) b1
  have hz := b1.size
  have HOE := Lib.hid oe
  have HH2 := Lib.hid h2
  have HB := Lib.hid b1
  have HQ : ∀ W, (binOp .eql 24 (.slice (some a) m c) (.slice none 0 0)).run Tryz.prog W = .ok (.bool false) W := fun W => Lib.run_eql_slice_nil W _ _ _ _ _ _ _ Tryz.underlying24
  clear h h2 oe b1
  go_enter Tryz.func108, Tryz.ntmps108
  go_wp2_with (at_builtin; refine wpList_appLs (L := LN) (e := 57) rfl (.tmp 5) (.tmp 6) 24 rfl (.agg #[.int .i64 0, .int .i64 0, .int .i64 0, .int .i64 0, .int .i64 0, .int .u64 0, .string ⟨#[]⟩, .string ⟨#[]⟩, .string ⟨#[]⟩]) 9 96 Tryz.underlying24 infoN rfl rfl (by decide) w.heap.size (fun b => F b ∧ b < w.heap.size) (fun b => F b ∧ b < w.heap.size) (some ⟨w.heap.size, 0, none⟩) 0 0 [] (some a) m c xs m (by omega) rfl rfl HOE.out HH2.out (fun b hb _ => ⟨hb, fun e => by simp [Value.ownBlock] at e; have := hb.2; omega⟩) (fun b hb => Nat.lt_of_lt_of_le hb.2 hz) (by omega) (by unfold maxLen; omega) hz ?_; intro A4 c4 w4 o4 g4 _; rw [List.nil_append] at o4; have HO4 := Lib.hid o4; have HG4 := Lib.hid g4; clear o4 g4)
  go_ret
  exact ⟨A4, c4, rfl, own_swap LN_free HO4.out, HB.out.grown HG4.out hz (fun k e => by simp [Value.ownBlock] at e; omega)⟩
end Go.Proofs.YtoaggmldekejoaaGreatDoor
/- Nodes moved. Conditions: the nodes read so; their places are no great numbers. -/
namespace Go.Proofs.YtoaggmldekejoaaGreatDoor
open Go.RowKit
theorem own_some {w : World} {B n c : Nat} {G : Nat → Prop} {A : Option Addr} {xs : List Nd} (h : LN.own 57 w B G A n c xs) (hn : 0 < n) : ∃ g, A = some ⟨g, 0, none⟩ ∧ B ≤ g ∧ g < w.heap.size := by
 obtain ⟨hl, cs, hr, ho⟩ := h
 obtain ⟨g, cap, hv, hB, hlt⟩ := World.ownsRow.form ho hn
 injection hv with h1 _ _
 exact ⟨g, h1, hB, hlt⟩
theorem flat9_at : ∀ {xs : List Nd} {i j : Nat} {x : Nd} {v : Value}, xs[i]? = some x → (nd9 x)[j]? = some v → (xs.flatMap nd9)[i * 9 + j]? = some v
 | [], i, j, x, v, h, _ => by simp at h
 | y :: l, 0, j, x, v, h, e => by
  rw [List.getElem?_cons_zero] at h
  injection h with h
  subst h
  rw [List.flatMap_cons, Nat.zero_mul, Nat.zero_add, List.getElem?_append_left (List.getElem?_eq_some_iff.1 e).1]
  exact e
 | y :: l, i + 1, j, x, v, h, e => by
  rw [List.getElem?_cons_succ] at h
  rw [List.flatMap_cons, List.getElem?_append_right (by show 9 ≤ _; omega), show (i + 1) * 9 + j - (nd9 y).length = i * 9 + j from by show (i + 1) * 9 + j - 9 = _; omega]
  exact flat9_at h e
theorem own_cellN {w : World} {B n c g i j : Nat} {G : Nat → Prop} {xs : List Nd} {x : Nd} {v : Value} (h : LN.own 57 w B G (some ⟨g, 0, none⟩) n c xs) (hx : xs[i]? = some x) (e : (nd9 x)[j]? = some v) : w.cell? ⟨g, i * 9 + j, none⟩ = some v ∧ w.frozen? ⟨g, i * 9 + j, none⟩ = false := by
 obtain ⟨hl, cs, hr, ho⟩ := h
 obtain rfl := LN_reps.1 hr
 rcases ho.2 with ⟨e1, _⟩ | ⟨g', cap, cur, e1, hg, hh, h1, h2, h3, h4⟩
 · cases e1
 · injection e1 with e2 _ e4
   injection e2 with e2
   injection e2 with e2 _ _
   subst e2 e4
   have hb : Blk w g 57 cur := hh
   refine ⟨?_, hb.frozen _⟩
   rw [hb.cell]
   have := flat9_at hx e
   rw [← h4, List.getElem?_take] at this
   split at this
   · rw [← Array.getElem?_toList]; exact this
   · cases this
theorem mv_step {xs : List Nd} {i : Nat} {x : Nd} (k : Int) (h : xs[i]? = some x) : ((xs.take i).map (mv k) ++ xs.drop i).set i (mv k x) = (xs.take (i + 1)).map (mv k) ++ xs.drop (i + 1) := by
 have hi : i < xs.length := (List.getElem?_eq_some_iff.1 h).1
 have hl : ((xs.take i).map (mv k)).length = i := by rw [List.length_map, List.length_take]; omega
 rw [List.set_append_right _ _ (by omega), hl, Nat.sub_self, List.drop_eq_getElem_cons hi, List.set_cons_zero, List.take_add_one, h, List.map_append, List.append_assoc]
 rfl
theorem mv_here {xs : List Nd} {i : Nat} {x : Nd} (k : Int) (h : xs[i]? = some x) : ((xs.take i).map (mv k) ++ xs.drop i)[i]? = some x := by
 have hi : i < xs.length := (List.getElem?_eq_some_iff.1 h).1
 have hl : ((xs.take i).map (mv k)).length = i := by rw [List.length_map, List.length_take]; omega
 rw [List.getElem?_append_right (by omega), hl, Nat.sub_self, List.getElem?_drop, Nat.add_zero]
 exact h
theorem set_here {α : Type} : ∀ {l : List α} {i : Nat} {x : α}, l[i]? = some x → l.set i x = l
 | [], _, _, h => by simp at h
 | y :: l, 0, x, h => by rw [List.getElem?_cons_zero] at h; injection h with h; subst h; rfl
 | y :: l, i + 1, x, h => by rw [List.getElem?_cons_succ] at h; rw [List.set_cons_succ, set_here h]
def mvl (k : Int) (x : Nd) : Nd := { x with l := if 0 ≤ x.l then x.l + k else x.l }
set_option maxRecDepth 100000 in
set_option maxHeartbeats 8000000 in
theorem moved_any (F : Nat → Prop) (xs : List Nd) (A : Option Addr) (n c : Nat) (k : Int) (w : World) (h : LN.rd w F A n xs) (hn : n ≤ 100000) (hk : -100000 ≤ k) (hk2 : k ≤ 100000) (hx : ∀ x ∈ xs, x.l ≤ 100000 ∧ x.r ≤ 100000) :
 Calls Tryz.prog 91 #[.slice A n c, .int .i64 k] w fun e w' => ∃ A' c', e = .returned (.slice A' n c') ∧ LN.own 57 w' w.heap.size (fun _ => False) A' n c' (xs.map (mv k)) ∧ Below w.heap.size w w' := by
 have HC := Lib.hid (cloneN F A n c xs w h hn)
 have HLEN := Lib.hid (Lay.rd_len h)
 have HX := Lib.hid hx
 clear h hx
 go_enter Tryz.func91, Tryz.ntmps91
 go_wp2_with fail
 refine HC.out.mono ?_
 rintro e w2 ⟨A2, c2, rfl, ho, q2⟩
 have HO := Lib.hid ho
 have HQ2 := Lib.hid q2
 clear ho q2 HC
 go_wp2_with fail
 go_loopg [13] n (fun g a wr => ∃ i : Nat, i + g = n ∧ a = .int .i64 (i : Int) ∧ Hid (LN.own 57 wr w.heap.size (fun _ => False) A2 n c2 ((xs.take i).map (mv k) ++ xs.drop i)) ∧ Hid (Below w.heap.size w wr))
 case atStart => exact ⟨0, by omega, rfl, HO, HQ2⟩
 case round =>
  obtain ⟨i, hig, rfl, HOI, HB⟩ := hrel
  by_cases hlt : i < n
  · have hi1 : (i : Int) < (n : Int) := by omega
    have hi0 : 0 ≤ (i : Int) := by omega
    obtain ⟨g, hA, hg, hgl⟩ := own_some HOI.out (by omega)
    subst hA
    obtain ⟨x, hx⟩ : ∃ x, xs[i]? = some x := ⟨_, List.getElem?_eq_getElem (by rw [HLEN.out]; exact hlt)⟩
    have HXI := Lib.hid hx
    have HXS := Lib.hid (HX.out x (List.mem_of_getElem? hx))
    have hix0 : ∀ W, (Instr.index 141 (.agg #[.pointer (some ⟨g, i * 9 + 1, none⟩), .pointer (some ⟨g, i * 9 + 2, none⟩)]) (.int .i64 0)).run Tryz.prog W = .ok (.pointer (some ⟨g, i * 9 + 1, none⟩)) W := fun W => by kernel_rfl
    have hix1 : ∀ W, (Instr.index 141 (.agg #[.pointer (some ⟨g, i * 9 + 1, none⟩), .pointer (some ⟨g, i * 9 + 2, none⟩)]) (.int .i64 1)).run Tryz.prog W = .ok (.pointer (some ⟨g, i * 9 + 2, none⟩)) W := fun W => by kernel_rfl
    clear hx
    go_wp2_with fail
    go_quiet (fail)
    obtain ⟨gk0, rfl⟩ : ∃ g1, g1 = gk := ⟨_, rfl⟩
    obtain ⟨wo, rfl⟩ : ∃ x, x = wr := ⟨_, rfl⟩
    have HO5 := Lib.hid (Lay.own_below HOI.out (bl_dr (Below.refl wo.heap.size wo) nq))
    have HB5 := Lib.hid (bl_ca HB.out (bl_dr (Below.refl wo.heap.size wo) nq))
    generalize wo.drewN nq = w5 at *
    have HYH := Lib.hid (mv_here k HXI.out)
    have HYS := Lib.hid (mv_step k HXI.out)
    generalize (xs.take i).map (mv k) ++ xs.drop i = ys at *
    go_wp2_with fail
    go_loopg [25] 2 (fun g' a wx => ∃ (j : Nat) (x' : Nd), j + g' = 2 ∧ a = .int .i64 (j : Int) ∧ Hid ((j = 0 ∧ x' = x) ∨ (j = 1 ∧ x' = mvl k x) ∨ (j = 2 ∧ x' = mv k x)) ∧ Hid (LN.own 57 wx w.heap.size (fun _ => False) (some ⟨g, 0, none⟩) n c2 (ys.set i x')) ∧ Hid (Below w.heap.size w wx))
    case atStart => exact ⟨0, x, by omega, rfl, Lib.hid (.inl ⟨rfl, rfl⟩), Lib.hid (by rw [set_here HYH.out]; exact HO5.out), HB5⟩
    case round =>
     obtain ⟨j, x', hjg, rfl, HJ, HOX, HBX⟩ := hrel
     have hil : i < ys.length := (List.getElem?_eq_some_iff.1 HYH.out).1
     have HXX := Lib.hid (show (ys.set i x')[i]? = some x' from by rw [List.getElem?_set_self hil])
     have HSET := Lib.hid (fun (z : Nd) => show (ys.set i x').set i z = ys.set i z from List.set_set ..)
     have hxs := HXS.out
     clear hil
     rcases HJ.out with ⟨rfl, rfl⟩ | ⟨rfl, rfl⟩ | ⟨rfl, rfl⟩
     · obtain ⟨r0, r1⟩ := own_cellN (j := 1) HOX.out HXX.out rfl
       by_cases h0 : 0 ≤ x'.l
       · have HV := Lib.hid (own_setN (j := 1) (x' := mvl k x') (v := .int .i64 (x'.l + k)) HOX.out HXX.out (by unfold mvl nd9; rw [if_pos h0]; rfl) (by omega))
         have HBV := Lib.hid (bl_set HBX.out (p := ⟨g, i * 9 + 1, none⟩) hg (.int .i64 (x'.l + k)))
         rw [HSET.out] at HV
         have hxl : x'.l ≤ 100000 := hxs.1
         clear hxs
         go_wp2
         go_roundg (gk - 1)
         · exact ⟨1, mvl k x', by omega, rfl, Lib.hid (.inr (.inl ⟨rfl, rfl⟩)), HV, HBV⟩
         · omega
       · have HV := Lib.hid (show mvl k x' = x' from by unfold mvl; rw [if_neg h0])
         have h1 : x'.l < 0 := by omega
         clear h0 hxs
         go_wp2
         go_roundg (gk - 1)
         · exact ⟨1, x', by omega, rfl, Lib.hid (.inr (.inl ⟨rfl, HV.out.symm⟩)), HOX, HBX⟩
         · omega
     · obtain ⟨r0, r1⟩ := own_cellN (j := 2) (v := .int .i64 x.r) HOX.out HXX.out rfl
       by_cases h0 : 0 ≤ x.r
       · have HV := Lib.hid (own_setN (j := 2) (x' := mv k x) (v := .int .i64 (x.r + k)) HOX.out HXX.out (by unfold mv mvl nd9; rw [if_pos h0]; rfl) (by omega))
         have HBV := Lib.hid (bl_set HBX.out (p := ⟨g, i * 9 + 2, none⟩) hg (.int .i64 (x.r + k)))
         rw [HSET.out] at HV
         have hxl : x.r ≤ 100000 := hxs.2
         clear hxs
         go_wp2
         go_roundg (gk - 1)
         · exact ⟨2, mv k x, by omega, rfl, Lib.hid (.inr (.inr ⟨rfl, rfl⟩)), HV, HBV⟩
         · omega
       · have HV := Lib.hid (show mvl k x = mv k x from by unfold mvl mv; rw [if_neg h0])
         have h1 : x.r < 0 := by omega
         rw [HV.out] at HOX
         clear h0 hxs
         go_wp2
         go_roundg (gk - 1)
         · exact ⟨2, mv k x, by omega, rfl, Lib.hid (.inr (.inr ⟨rfl, rfl⟩)), HOX, HBX⟩
         · omega
     · rw [HYS.out] at HOX
       clear hxs
       go_wp2
       go_roundg (gk0 - 1)
       · exact ⟨i + 1, by omega, by go_num, HOX, HBX⟩
       · omega
  · obtain rfl : i = n := by omega
    have hi1 : (i : Int) ≤ (i : Int) := by omega
    have HF := Lib.hid (show (xs.take i).map (mv k) ++ xs.drop i = xs.map (mv k) from by rw [List.take_of_length_le (by rw [HLEN.out]; exact Nat.le_refl _), List.drop_of_length_le (by rw [HLEN.out]; exact Nat.le_refl _), List.append_nil])
    rw [HF.out] at HOI
    go_wp2
    go_ret
    exact ⟨A2, c2, rfl, HOI.out, HB.out⟩
end Go.Proofs.YtoaggmldekejoaaGreatDoor
