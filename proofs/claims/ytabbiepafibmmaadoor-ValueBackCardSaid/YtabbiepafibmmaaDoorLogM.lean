/- Truths as numbers; rows of numbers that the call owns; value.truth. Conditions: none. -/
import Derived.Test.YtabbiepafibmmaaDoorRightL
import Derived.Test.YtabbiepafibmmaaDoorOwnV
namespace Go.Proofs.YtabbiepafibmmaaDoor
open Go.RowKit
def V0 : VV := ⟨0, 0, 0, ⟨#[]⟩⟩
def VB0 : VV := ⟨1, 0, 0, ⟨#[]⟩⟩
def VB1 : VV := ⟨1, 1, 0, ⟨#[]⟩⟩
def TV (r : Int) : VV := if r = 0 then VB0 else if r = 1 then V0 else VB1
def resT (r : VV × Int) : Value := .tuple #[.agg #[.int .i64 r.1.k, .int .i64 r.1.n, .int .u64 r.1.u, .string r.1.s], .int .i64 r.2]
def truthI (v : VV) : Int := if v.k = 0 then 1 else 2 * v.n
def kindE (vs : List VV) : Int := if vs.all VV.ok then (if vs.any (fun v => decide (1 < v.k)) then 2 else 0) else 120
theorem valI : (Tryd.prog.info? 28).map (·.size) = some 4 := by kernel_rfl
theorem one4 (k n u : Int) (s : ByteArray) : (#[.int .i64 k, .int .i64 n, .int .u64 u, .string s] : Array Value).all (·.oneCell') = true := by simp [Value.oneCell']
theorem rdv_one {w : World} {g : Nat} {t : TypeId} {a : VV} (h : Blk w g t #[.int .i64 a.k, .int .i64 a.n, .int .u64 a.u, .string a.s]) : RdV w (some ⟨g, 0, none⟩) 1 [a] := by
  refine ⟨rfl, fun i hi => ?_⟩
  obtain rfl : i = 0 := by omega
  exact ⟨_, a, rfl, rfl, h.lt, h.cell 0, h.cell 1, h.cell 2, h.cell 3⟩
theorem rdv_two {w : World} {g : Nat} {t : TypeId} {a b : VV} (h : Blk w g t #[.int .i64 a.k, .int .i64 a.n, .int .u64 a.u, .string a.s, .int .i64 b.k, .int .i64 b.n, .int .u64 b.u, .string b.s]) : RdV w (some ⟨g, 0, none⟩) 2 [a, b] := by
  refine ⟨rfl, fun i hi => ?_⟩
  have hc : i = 0 ∨ i = 1 := by omega
  rcases hc with rfl | rfl
  · exact ⟨_, a, rfl, rfl, h.lt, h.cell 0, h.cell 1, h.cell 2, h.cell 3⟩
  · exact ⟨_, b, rfl, rfl, h.lt, h.cell 4, h.cell 5, h.cell 6, h.cell 7⟩
theorem ok_kind {v : VV} (h : v.ok = true) (hk : v.k ≤ 1) : v.k = 0 ∧ v.n = 0 ∨ v.k = 1 ∧ (v.n = 0 ∨ v.n = 1) := by
  unfold VV.ok rightB at h
  simp at h
  rcases v with ⟨k, n, u, s⟩
  simp only at *
  by_cases h0 : k = 0
  · subst h0; simp at h; omega
  · by_cases h1 : k = 1
    · subst h1; simp at h; omega
    · have h2 : k ≠ 2 := by omega
      have h3 : k ≠ 3 := by omega
      have h4 : k ≠ 4 := by omega
      simp [h0, h1, h2, h3, h4] at h
def ints (zs : List Int) : List Value := zs.map (Value.int .i64)
def OwnI (w : World) (B : Nat) (A : Option Addr) (n c : Nat) (zs : List Int) : Prop := w.ownsRow B 3 1 (.slice A n c) n (ints zs)
theorem OwnI.nil (w : World) (B : Nat) : OwnI w B none 0 0 [] := World.ownsRow_nil _ _ _ _
theorem OwnI.rd {w : World} {B : Nat} {A : Option Addr} {n c : Nat} {zs : List Int} (h : OwnI w B A n c zs) : Reads w w.heap.size 1 A n (ints zs) := Reads.of_own h
theorem OwnI.below {w w' : World} {B : Nat} {A : Option Addr} {n c : Nat} {zs : List Int} (h : OwnI w B A n c zs) (hb : Below w.heap.size w w') : OwnI w' B A n c zs := by
  refine ⟨h.1, ?_⟩
  rcases h.2 with h2 | ⟨g, cap, cur, e, hg, hh, r⟩
  · exact .inl h2
  · have hlt : g < w.heap.size := by
      rcases Nat.lt_or_ge g w.heap.size with h | h
      · exact h
      · rw [Array.getElem?_eq_none h] at hh; cases hh
    exact .inr ⟨g, cap, cur, e, hg, (hb.block g hlt).trans hh, r⟩
theorem OwnI.alloc {w : World} {B : Nat} {A : Option Addr} {n c : Nat} {zs : List Int} (h : OwnI w B A n c zs) (o : Obj) : OwnI (w.alloc o) B A n c zs := h.below ((Below.refl _ _).alloc (Nat.le_refl _) o)
theorem OwnI.base {w : World} {B : Nat} {A : Option Addr} {n c : Nat} {zs : List Int} (h : OwnI w B A n c zs) : ∀ k, (Value.slice A n c).ownBlock = some k → B ≤ k := by
  intro k hk
  rcases h.2 with ⟨e, _⟩ | ⟨g, cap, _, e, hg, _⟩
  · injection e with e; subst e; simp [Value.ownBlock] at hk
  · injection e with e; subst e
    have : g = k := by simpa [Value.ownBlock] using hk
    omega
theorem OwnI.form {w : World} {B : Nat} {n : Nat} {v : Value} {xs : List Value} (h : w.ownsRow B 3 1 v n xs) : ∃ A c, v = .slice A n c := by
  rcases h.2 with ⟨rfl, rfl⟩ | ⟨g, cap, _, rfl, _⟩
  · exact ⟨_, _, rfl⟩
  · exact ⟨_, _, rfl⟩
theorem Tryd.intInfo : (Tryd.prog.info? 3).map (fun i => (i.zero, i.size, i.bytes)) = some (some (.int .i64 0), 1, 8) := by kernel_rfl
theorem reads_int {w : World} {g : Nat} {t : TypeId} {z : Int} (h : Blk w g t #[.int .i64 z]) : Reads w w.heap.size 1 (some ⟨g, 0, none⟩) 1 (ints [z]) := by
  refine ⟨rfl, fun _ => ⟨_, rfl, h.lt, fun j u hu => ?_⟩⟩
  have hadd : (⟨g, 0, none⟩ : Addr).add j = ⟨g, j, none⟩ := by unfold Addr.add; split <;> simp_all
  rw [hadd, h.cell j, ← hu]
  match j, hu with
  | 0, _ => rfl
/-- append(out, z): out the call's own. -/
theorem wpList_appI {ops : Array Oper} {rest : List Oper} {o : Oper} {a : Act} {w : World} {Q : Exit → Act → World → Prop} (hgd : o.guard = none) (s x : Operand)
    (ho : o.op = .call { callee := .builtin .append, args := #[s, x], argTypes := #[68, 68] })
    (B : Nat) (A : Option Addr) (n c : Nat) (xs : List Int) (g c2 : Nat) (t : TypeId) (z : Int)
    (hs : a.eval s = .slice A n c) (hx : a.eval x = .slice (some ⟨g, 0, none⟩) 1 c2) (hown : OwnI w B A n c xs) (hr : Blk w g t #[.int .i64 z]) (hb : n + 1 ≤ 1000000) (hB : B ≤ w.heap.size)
    (h : ∀ A' c' w', OwnI w' B A' (n + 1) c' (xs ++ [z]) → Below B w w' → wpList Tryd.prog ops Q rest (a.put o.dst (.slice A' (n + 1) c')) w') : wpList Tryd.prog ops Q (o :: rest) a w := by
  obtain ⟨i0, hi0, hz0, hz1, hz2⟩ := info_parts Tryd.intInfo
  refine wpList_append_any w hgd s x 68 ho B 3 i0 _ 1 8 Tryd.underlying68 hi0 hz0 hz1 hz2 rfl (by omega) (.slice A n c) n (ints xs) hs hown w.heap.size (some ⟨g, 0, none⟩) 1 c2 (ints [z]) hx (reads_int hr) (by intro u hu; simp [ints] at hu; subst hu; rfl) (by simp only [maxLen]; omega) (by omega) hB ?_
  intro v' w' hown' hg hat
  obtain ⟨A', c', rfl⟩ := OwnI.form hown'
  refine h A' c' w' (by unfold OwnI ints; rw [List.map_append]; exact hown') ?_
  exact (Below.refl _ _).grown hg hB (OwnI.base hown)
set_option maxHeartbeats 1000000 in
theorem truth_0 (v : VV) (h : v.k = 0) (w : World) : Calls Tryd.prog 43 #[.agg #[.int .i64 v.k, .int .i64 v.n, .int .u64 v.u, .string v.s]] w fun e w' => e = .returned (.int .i64 (truthI v)) ∧ Below w.heap.size w w' := by
  rw [show truthI v = 1 from by unfold truthI; rw [if_pos h], h]
  go_enter Tryd.func43, Tryd.ntmps43
  go_wp2
  go_ret
  exact ⟨rfl, bl_al (Below.refl _ _) _⟩
set_option maxHeartbeats 1000000 in
theorem truth_1 (v : VV) (h : v.k = 1) (hn : v.n = 0 ∨ v.n = 1) (w : World) : Calls Tryd.prog 43 #[.agg #[.int .i64 v.k, .int .i64 v.n, .int .u64 v.u, .string v.s]] w fun e w' => e = .returned (.int .i64 (truthI v)) ∧ Below w.heap.size w w' := by
  rw [show truthI v = 2 * v.n from by unfold truthI; rw [if_neg (by omega)], h]
  rcases hn with hn | hn
  all_goals
    rw [hn]
    go_enter Tryd.func43, Tryd.ntmps43
    go_wp2
    go_ret
    exact ⟨rfl, bl_al (Below.refl _ _) _⟩
end Go.Proofs.YtabbiepafibmmaaDoor
