/- codec's many, at values. Conditions: the taker holds a reader of these bytes. -/
import Derived.Test.YtfpodalnnchnoaaCValue
import Derived.Deep.LoopGhost
namespace Go.Proofs.Ytfpodalnnchnoaa
open Go.RowKit
/-- so many are taken, while all is well -/
def manyS {α : Type} (f : St → α × St) : Nat → St → List α × St
  | 0, s => ([], s)
  | n + 1, s => if okS s then ((f s).1 :: (manyS f n (f s).2).1, (manyS f n (f s).2).2) else ([], s)
theorem manyS_stop {α : Type} {f : St → α × St} {s : St} (h : okS s = false) (n : Nat) : manyS f n s = ([], s) := by
  cases n
  · rfl
  · simp [manyS, h]
theorem manyS_go {α : Type} {f : St → α × St} {s : St} (h : okS s = true) (n : Nat) : manyS f (n + 1) s = ((f s).1 :: (manyS f n (f s).2).1, (manyS f n (f s).2).2) := by simp [manyS, h]
section
variable {α : Type} {L : Lay α} {w w' : World} {G : Nat → Prop} {e : TypeId} {B T R n c : Nat} {A : Option Addr} {xs : List α}
theorem ownsRow_two {v : Value} {s : Nat} {ys : List Value} (h : w.ownsRow B e s v n ys) (q : Two w w' T R) (hT : T < B) (hR : R < B) : w'.ownsRow B e s v n ys := by
  refine ⟨h.1, ?_⟩
  rcases h.2 with h2 | ⟨g, cap, cur, e, hg, hh, r⟩
  · exact .inl h2
  · have hlt : g < w.heap.size := by
      rcases Nat.lt_or_ge g w.heap.size with h | h
      · exact h
      · rw [Array.getElem?_eq_none h] at hh; cases hh
    exact .inr ⟨g, cap, cur, e, hg, (q.block g hlt (by omega) (by omega)).trans hh, r⟩
theorem Lay.own_two (h : L.own e w B G A n c xs) (q : Two w w' T R) (hG : ∀ b, G b → B ≤ b) (hT : T < B) (hR : R < B) : L.own e w' B G A n c xs := by
  obtain ⟨hl, cs, hr, ho⟩ := h
  exact ⟨hl, cs, Lay.reps_keep (fun b hb hlt => q.block b hlt (by have := hG b hb.1; omega) (by have := hG b hb.1; omega)) hr, ownsRow_two ho q hT hR⟩
end
theorem Tk.belowB {w w' : World} {T R n c B : Nat} {O : Option Addr} {bs : List UInt8} {s : St} (h : Tk w T R O n c bs s) (q : Below B w w') (hT : T < B) (hR : R < B) (hO : ∀ g, (Value.slice O n c).ownBlock = some g → g < B) : Tk w' T R O n c bs s :=
  ⟨h.blk.below q hT, h.rdr.belowB q hR hO⟩
theorem Tk.ownLt {w : World} {T R n c : Nat} {O : Option Addr} {bs : List UInt8} {s : St} (h : Tk w T R O n c bs s) : ∀ g, (Value.slice O n c).ownBlock = some g → g < w.heap.size := fun g hg => (own_base' h.rdr.own g hg).2
theorem Two.ofB {w w' : World} {B T R : Nat} (h : Below B w w') (hB : w.heap.size ≤ B) : Two w w' T R := ⟨h.os, h.tape, h.output, h.size, fun b hb _ _ => h.block b (by omega)⟩
theorem Two.thenB {w w' w'' : World} {T R : Nat} (h : Two w w' T R) (k : Below w.heap.size w' w'') : Two w w'' T R := ⟨k.os.trans h.os, k.tape.trans h.tape, k.output.trans h.output, Nat.le_trans h.size k.size, fun b hb h1 h2 => (k.block b hb).trans (h.block b hb h1 h2)⟩
def NoB : Nat → Prop := fun _ => False
theorem LV_own_info : (Try.prog.info? 24).map (fun i => (i.zero, i.size, i.bytes)) = some (some (.agg #[.int .i64 0, .int .i64 0, .int .u64 0, .string ⟨#[]⟩]), 4, 40) := by kernel_rfl
theorem Lay.own_caps {α : Type} {L : Lay α} {w : World} {G : Nat → Prop} {e : TypeId} {B n c : Nat} {A : Option Addr} {xs : List α} (h : L.own e w B G A n c xs) : n ≤ c ∧ c ≤ 9223372036854775807 := by
  obtain ⟨_, cs, _, ho⟩ := h
  rcases ho.2 with ⟨h2, h3⟩ | ⟨g, cap, _, h2, _, _, h3, h4, _⟩
  · injection h2 with _ h5 h6; omega
  · injection h2 with _ _ h6; simp only [maxLen] at h4; omega
set_option maxRecDepth 100000 in
set_option maxHeartbeats 4000000 in
theorem manyV_any (T R : Nat) (O : Option Addr) (n c : Nat) (bs : List UInt8) (s : St) (m : Nat) (hm : m ≤ 1000000) (w : World) (h : Tk w T R O n c bs s) :
    Calls Try.prog 49 #[.pointer (some ⟨T, 0, none⟩), .int .i64 (m : Int), .func (.func 38) #[.pointer (some ⟨T, 0, none⟩)] #[]] w
      fun e w' => ∃ A k c', e = .returned (.slice A k c') ∧ LV.own 24 w' w.heap.size NoB A k c' (manyS (valS bs) m s).1 ∧ Tk w' T R O n c bs (manyS (valS bs) m s).2 ∧ Two w w' T R := by
  have hT := h.blk.lt
  have hR := h.rdr.lt
  have HO := Lib.hid h.ownLt
  have HM := Lib.hid (show manyS (valS bs) m s = ([] ++ (manyS (valS bs) m s).1, (manyS (valS bs) m s).2) from rfl)
  obtain ⟨Rs, hRs⟩ : ∃ Rs, Rs = manyS (valS bs) m s := ⟨_, rfl⟩
  have HR := Lib.hid hRs
  rw [← hRs]
  clear hRs
  go_enter Try.func49, Try.ntmps49
  go_wp2
  go_loopg [7, 8] m (fun g o i_ wr => ∃ (i k c' : Nat) (A' : Option Addr) (l : List VV) (s' : St), i + g ≤ m ∧ m ≤ i + g ∧ i_ = .int .i64 i ∧ o = .slice A' k c' ∧ k ≤ i ∧ Hid (Rs = (l ++ (manyS (valS bs) g s').1, (manyS (valS bs) g s').2)) ∧ LV.own 24 wr w.heap.size NoB A' k c' l ∧ Tk wr T R O n c bs s' ∧ Two w wr T R)
  case atStart => exact ⟨0, 0, 0, none, [], s, by omega, by omega, rfl, rfl, by omega, Lib.hid (by rw [HR.out]; rfl), Lay.own_nil _ _, h, Two.refl _ _ _⟩
  case round =>
    clear h HM
    obtain ⟨i, k, c', A', l, s', hi1, hi2, rfl, rfl, hk, HX, ho, hk1, tw⟩ := hrel
    by_cases hi : i < m
    · obtain ⟨g', rfl⟩ : ∃ g', gk = g' + 1 := ⟨gk - 1, by omega⟩
      cases hok : okS s'
      · have HE := Lib.hid (show Rs = (l, s') from by rw [HX.out, manyS_stop hok]; simp)
        have HK := Lib.hid (show ∀ w, Tk w T R O n c bs s' → Calls Try.prog 50 #[.pointer (some ⟨T, 0, none⟩)] w fun e w' => e = .returned (.bool false) ∧ w = w' from fun w h => by have := ok_any T R O n c bs s' w h; rwa [hok] at this)
        clear hok HX
        go_wp2_with fail
        refine (HK.out _ hk1).mono ?_
        rintro e w2 ⟨rfl, rfl⟩
        go_wp2
        go_ret
        exact ⟨A', k, c', rfl, by rw [HE.out]; exact ho, by rw [HE.out]; exact hk1, tw⟩
      · have HE := Lib.hid (show Rs = ((l ++ [(valS bs s').1]) ++ (manyS (valS bs) g' (valS bs s').2).1, (manyS (valS bs) g' (valS bs s').2).2) from by rw [HX.out, manyS_go hok]; simp)
        have HK := Lib.hid (show ∀ w, Tk w T R O n c bs s' → Calls Try.prog 50 #[.pointer (some ⟨T, 0, none⟩)] w fun e w' => e = .returned (.bool true) ∧ w = w' from fun w h => by have := ok_any T R O n c bs s' w h; rwa [hok] at this)
        have HV := Lib.hid (fun w h => value_any T R O n c bs s' w h)
        clear hok HX
        generalize valS bs s' = r at *
        go_wp2_with fail
        refine (HK.out _ hk1).mono ?_
        rintro e w2 ⟨rfl, rfl⟩
        go_wp2_with fail
        refine (HV.out _ hk1).mono ?_
        rintro e w2 ⟨rfl, hk2, t2⟩
        have ho2 := Lay.own_alloc (Lay.own_two ho t2 (fun b hb => hb.elim) hT hR) (.cells #[.int .i64 r.1.k, .int .i64 r.1.n, .int .u64 r.1.u, .string r.1.s] 24)
        have hb2 := Blk.new w2 24 #[.int .i64 r.1.k, .int .i64 r.1.n, .int .u64 r.1.u, .string r.1.s]
        have hk3 := hk2.below (bl_al (Below.refl w2.heap.size w2) (.cells #[.int .i64 r.1.k, .int .i64 r.1.n, .int .u64 r.1.u, .string r.1.s] 24))
        have tw3 := (tw.trans t2).trans (Two.refl_al w2 T R (.cells #[.int .i64 r.1.k, .int .i64 r.1.n, .int .u64 r.1.u, .string r.1.s] 24))
        have hsz := tw3.size
        go_wp2_with (at_builtin; refine wpList_appL (L := LV) rfl (.tmp 18) (.tmp 21) 26 rfl _ 4 40 Try.underlying26 LV_own_info rfl rfl (by omega) w.heap.size NoB A' k c' l w2.heap.size 1 24 _ r.1 rfl rfl ho2 hb2 rfl (fun b hb => hb.elim) (by omega) (by simp only [maxLen]; omega) hsz ?_; intro A4 c4 w4 ho4 b4)
        have hk4 := hk3.belowB b4 hT hR HO.out
        have tw4 := tw3.thenB b4
        go_roundg g'
        · exact ⟨i + 1, k + 1, c4, A4, l ++ [r.1], r.2, by omega, by omega, by go_num, rfl, by omega, HE, ho4, hk4, tw4⟩
        · omega
    · obtain rfl : gk = 0 := by omega
      have HE := Lib.hid (show Rs = (l, s') from by rw [HX.out]; simp [manyS])
      go_wp2
      go_ret
      exact ⟨A', k, c', rfl, by rw [HE.out]; exact ho, by rw [HE.out]; exact hk1, tw⟩
end Go.Proofs.Ytfpodalnnchnoaa
