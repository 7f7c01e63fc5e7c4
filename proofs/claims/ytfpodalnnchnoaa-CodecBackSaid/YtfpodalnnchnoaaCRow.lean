/- codec's taker: a row, rows, a list. Conditions: the taker holds a reader of these bytes. -/
import Derived.Test.YtfpodalnnchnoaaCMany
namespace Go.Proofs.Ytfpodalnnchnoaa
open Go.RowKit
def r1S (bs : List UInt8) (s : St) : St := nd (rdS bs s 1) (decide ((kS bs s : Int) ≤ 16))
def rowS (bs : List UInt8) (s : St) : List VV × St := manyS (valS bs) (kS bs s) (r1S bs s)
def hS (bs : List UInt8) (s : St) : Nat := wv (rdO bs s.p s.why 2)
def l1S (bs : List UInt8) (s : St) : St := nd (rdS bs s 2) (decide ((hS bs s : Int) ≤ 400))
def listS (bs : List UInt8) (s : St) : List (List VV) × St := manyS (rowS bs) (hS bs s) (l1S bs s)
theorem hS_lt (bs : List UInt8) (s : St) : hS bs s < 65536 := wv_bound bs s.p s.why 2 (by decide)
theorem tu16 (T R : Nat) (O : Option Addr) (n c : Nat) (bs : List UInt8) (s : St) (w : World) (h : Tk w T R O n c bs s) : Calls Try.prog 45 #[.pointer (some ⟨R, 0, none⟩)] w fun e w' => e = .returned (.int .u16 (hS bs s : Nat)) ∧ Tk w' T R O n c bs (rdS bs s 2) ∧ w.grownBy w' (some R) :=
  (u16_any R O n c bs s.p s.why w h.rdr).mono fun _ _ ⟨he, hr, hg⟩ => ⟨he, h.reader hr hg, hg⟩
theorem ownsRow_less {w : World} {B B' : Nat} {e : TypeId} {s n : Nat} {v : Value} {ys : List Value} (h : w.ownsRow B e s v n ys) (hB : B' ≤ B) : w.ownsRow B' e s v n ys := by
  refine ⟨h.1, ?_⟩
  rcases h.2 with h2 | ⟨g, cap, cur, e, hg, r⟩
  · exact .inl h2
  · exact .inr ⟨g, cap, cur, e, by omega, r⟩
theorem Lay.own_less {α : Type} {L : Lay α} {e : TypeId} {w : World} {B B' : Nat} {G : Nat → Prop} {A : Option Addr} {n c : Nat} {xs : List α} (h : L.own e w B G A n c xs) (hB : B' ≤ B) : L.own e w B' G A n c xs :=
  ⟨h.1, h.2.imp fun _ hc => ⟨hc.1, ownsRow_less hc.2 hB⟩⟩
set_option maxRecDepth 100000 in
set_option maxHeartbeats 4000000 in
theorem trow_any (T R : Nat) (O : Option Addr) (n c : Nat) (bs : List UInt8) (s : St) (w : World) (h : Tk w T R O n c bs s) :
    Calls Try.prog 36 #[.pointer (some ⟨T, 0, none⟩)] w
      fun e w' => ∃ A k c', e = .returned (.slice A k c') ∧ LV.own 24 w' w.heap.size NoB A k c' (rowS bs s).1 ∧ Tk w' T R O n c bs (rowS bs s).2 ∧ Two w w' T R := by
  have hx := kS_lt bs s
  have HU := Lib.hid (fun w h => tu8 T R O n c bs s w h)
  have HN := Lib.hid (show ∀ w, Tk w T R O n c bs (rdS bs s 1) → Calls Try.prog 46 #[.pointer (some ⟨T, 0, none⟩), .bool (decide ((kS bs s : Int) ≤ 16))] w fun e w' => e = .returned (.tuple #[]) ∧ Tk w' T R O n c bs (r1S bs s) ∧ Two w w' T R from fun w h => need_any T R O n c bs (rdS bs s 1) _ w h)
  have HM := Lib.hid (fun w h => manyV_any T R O n c bs (r1S bs s) (kS bs s) (by omega) w h)
  obtain ⟨Rs, hRs⟩ : ∃ Rs, Rs = rowS bs s := ⟨_, rfl⟩
  rw [← hRs]
  unfold rowS at hRs
  rw [← hRs] at HM
  clear hRs
  generalize r1S bs s = s1 at *
  generalize kS bs s = x at *
  have t0 : w.cell? ⟨T, 0, none⟩ = some (.pointer (some ⟨R, 0, none⟩)) := h.blk.cell 0
  have hwr : IntKind.i64.wrap (x : Int) = (x : Int) := by rw [IntKind.wrap_i64]; omega
  go_enter Try.func36, Try.ntmps36
  go_wp2_with fail
  refine (HU.out _ h).mono ?_
  rintro e w1 ⟨rfl, h1, g1⟩
  clear t0
  go_wp2_with fail
  refine (HN.out _ h1).mono ?_
  rintro e w2 ⟨rfl, h2, t2⟩
  go_wp2_with fail
  refine (HM.out _ h2).mono ?_
  rintro e w3 ⟨A, k, c', rfl, ho, h3, t3⟩
  have tw := (Two.of_R g1 (T := T)).trans t2
  have hsz := tw.size
  go_wp2
  go_ret
  exact ⟨A, k, c', rfl, Lay.own_less ho hsz, h3, tw.trans t3⟩
/-- the blocks that were made since w0 -/
def Since (w0 w : World) : Nat → Prop := fun b => w0.heap.size ≤ b ∧ b < w.heap.size
theorem LR_own_info : (Try.prog.info? 27).map (fun i => (i.zero, i.size, i.bytes)) = some (some (.slice none 0 0), 1, 24) := by kernel_rfl
/-- a row that a call has made is an element -/
theorem row_rep {w0 w1 w : World} {A : Option Addr} {k c : Nat} {r : List VV} {A' : Option Addr} {n' c' : Nat} {xs : List (List VV)} (h : LV.own 24 w w1.heap.size NoB A k c r) (ho : LR.own 27 w1 w0.heap.size (Since w0 w1) A' n' c' xs) (h01 : w0.heap.size ≤ w1.heap.size) :
    LR.rep w (fun b => Since w0 w b ∧ (Value.slice A' n' c').ownBlock ≠ some b) r [.slice A k c] := by
  have hc := Lay.own_caps h
  refine ⟨A, k, c, rfl, hc.1, hc.2, Lay.own_rd h (fun b hb hlt => ⟨⟨by omega, hlt⟩, fun e => ?_⟩) (fun b hb => hb.elim)⟩
  obtain ⟨_, _, _, hrow⟩ := ho
  have := (own_base' hrow b e).2
  omega
set_option maxRecDepth 100000 in
set_option maxHeartbeats 4000000 in
theorem manyR_any (T R : Nat) (O : Option Addr) (n c : Nat) (bs : List UInt8) (s : St) (m : Nat) (hm : m ≤ 1000000) (w : World) (h : Tk w T R O n c bs s) :
    Calls Try.prog 47 #[.pointer (some ⟨T, 0, none⟩), .int .i64 (m : Int), .func (.func 36) #[.pointer (some ⟨T, 0, none⟩)] #[]] w
      fun e w' => ∃ A k c', e = .returned (.slice A k c') ∧ LR.own 27 w' w.heap.size (Since w w') A k c' (manyS (rowS bs) m s).1 ∧ Tk w' T R O n c bs (manyS (rowS bs) m s).2 ∧ Two w w' T R := by
  have hT := h.blk.lt
  have hR := h.rdr.lt
  have HO := Lib.hid h.ownLt
  obtain ⟨Rs, hRs⟩ : ∃ Rs, Rs = manyS (rowS bs) m s := ⟨_, rfl⟩
  have HR := Lib.hid hRs
  rw [← hRs]
  clear hRs
  go_enter Try.func47, Try.ntmps47
  go_wp2
  go_loopg [7, 8] m (fun g o i_ wr => ∃ (i k c' : Nat) (A' : Option Addr) (l : List (List VV)) (s' : St), i + g ≤ m ∧ m ≤ i + g ∧ i_ = .int .i64 i ∧ o = .slice A' k c' ∧ k ≤ i ∧ Hid (Rs = (l ++ (manyS (rowS bs) g s').1, (manyS (rowS bs) g s').2)) ∧ LR.own 27 wr w.heap.size (Since w wr) A' k c' l ∧ Tk wr T R O n c bs s' ∧ Two w wr T R)
  case atStart => exact ⟨0, 0, 0, none, [], s, by omega, by omega, rfl, rfl, by omega, Lib.hid (by rw [HR.out]; rfl), Lay.own_nil _ _, h, Two.refl _ _ _⟩
  case round =>
    clear h
    obtain ⟨i, k, c', A', l, s', hi1, hi2, rfl, rfl, hk, HX, ho, hk1, tw⟩ := hrel
    by_cases hi : i < m
    · obtain ⟨g', rfl⟩ : ∃ g', gk = g' + 1 := ⟨gk - 1, by omega⟩
      cases hok : okS s'
      · have HE := Lib.hid (show Rs = (l, s') from by rw [HX.out, manyS_stop hok]; simp)
        have HK := Lib.hid (show ∀ w, Tk w T R O n c bs s' → Calls Try.prog 50 #[.pointer (some ⟨T, 0, none⟩)] w fun e w' => e = .returned (.bool false) ∧ w = w' from fun w h => by have := ok_any T R O n c bs s' w h; rwa [hok] at this)
        clear hok HX
        go_wp2_with fail
        refine (HK.out _ hk1).mono ?_
        rintro e w2 ⟨rfl, rfl⟩
        go_wp2
        go_ret
        exact ⟨A', k, c', rfl, by rw [HE.out]; exact ho, by rw [HE.out]; exact hk1, tw⟩
      · have HE := Lib.hid (show Rs = ((l ++ [(rowS bs s').1]) ++ (manyS (rowS bs) g' (rowS bs s').2).1, (manyS (rowS bs) g' (rowS bs s').2).2) from by rw [HX.out, manyS_go hok]; simp)
        have HK := Lib.hid (show ∀ w, Tk w T R O n c bs s' → Calls Try.prog 50 #[.pointer (some ⟨T, 0, none⟩)] w fun e w' => e = .returned (.bool true) ∧ w = w' from fun w h => by have := ok_any T R O n c bs s' w h; rwa [hok] at this)
        have HV := Lib.hid (fun w h => trow_any T R O n c bs s' w h)
        clear hok HX
        generalize rowS bs s' = r at *
        go_wp2_with fail
        refine (HK.out _ hk1).mono ?_
        rintro e w2 ⟨rfl, rfl⟩
        have hsr := tw.size
        go_wp2_with fail
        refine (HV.out _ hk1).mono ?_
        rintro e w2 ⟨Ar, kr, cr, rfl, hrow, hk2, t2⟩
        have hrep := row_rep hrow ho hsr
        have ho2 := Lay.own_weak (G' := Since w w2) (fun b hb _ => ⟨hb.1, Nat.lt_of_lt_of_le hb.2 t2.size⟩) (Lay.own_two ho t2 (fun b hb => hb.1) hT hR)
        have ho3 := Lay.own_alloc ho2 (.cells #[.slice Ar kr cr] 27)
        have hb2 := Blk.new w2 27 #[.slice Ar kr cr]
        have hrep3 := LR.keep (fun b hb hlt => Below.heap_alloc w2 (.cells #[.slice Ar kr cr] 27) b hlt) hrep
        have hk3 := hk2.below (bl_al (Below.refl w2.heap.size w2) (.cells #[.slice Ar kr cr] 27))
        have tw3 := (tw.trans t2).trans (Two.refl_al w2 T R (.cells #[.slice Ar kr cr] 27))
        have hsz := tw3.size
        have hGG : ∀ b, Since w w2 b → b < (w2.alloc (.cells #[.slice Ar kr cr] 27)).heap.size := fun b hb => by have := hb.2; simp only [World.size_alloc]; omega
        go_wp2_with (at_builtin; refine wpList_appL (L := LR) rfl (.tmp 18) (.tmp 21) 35 rfl _ 1 24 Try.underlying35 LR_own_info rfl rfl (by omega) w.heap.size (Since w w2) A' k c' l w2.heap.size 1 27 _ r.1 rfl rfl ho3 hb2 hrep3 hGG (by omega) (by simp only [maxLen]; omega) hsz ?_; intro A4 c4 w4 ho4 b4)
        have ho5 := Lay.own_weak (G' := Since w w4) (fun b hb hlt => ⟨hb.1, hlt⟩) ho4
        have hk4 := hk3.belowB b4 hT hR HO.out
        have tw4 := tw3.thenB b4
        go_roundg g'
        · exact ⟨i + 1, k + 1, c4, A4, l ++ [r.1], r.2, by omega, by omega, by go_num, rfl, by omega, HE, ho5, hk4, tw4⟩
        · omega
    · obtain rfl : gk = 0 := by omega
      have HE := Lib.hid (show Rs = (l, s') from by rw [HX.out]; simp [manyS])
      go_wp2
      go_ret
      exact ⟨A', k, c', rfl, by rw [HE.out]; exact ho, by rw [HE.out]; exact hk1, tw⟩
set_option maxRecDepth 100000 in
set_option maxHeartbeats 4000000 in
theorem tlist_any (T R : Nat) (O : Option Addr) (n c : Nat) (bs : List UInt8) (s : St) (w : World) (h : Tk w T R O n c bs s) :
    Calls Try.prog 34 #[.pointer (some ⟨T, 0, none⟩)] w
      fun e w' => ∃ A k c', e = .returned (.slice A k c') ∧ LR.own 27 w' w.heap.size (Since w w') A k c' (listS bs s).1 ∧ Tk w' T R O n c bs (listS bs s).2 ∧ Two w w' T R := by
  have hx := hS_lt bs s
  have HU := Lib.hid (fun w h => tu16 T R O n c bs s w h)
  have HN := Lib.hid (show ∀ w, Tk w T R O n c bs (rdS bs s 2) → Calls Try.prog 46 #[.pointer (some ⟨T, 0, none⟩), .bool (decide ((hS bs s : Int) ≤ 400))] w fun e w' => e = .returned (.tuple #[]) ∧ Tk w' T R O n c bs (l1S bs s) ∧ Two w w' T R from fun w h => need_any T R O n c bs (rdS bs s 2) _ w h)
  have HM := Lib.hid (fun w h => manyR_any T R O n c bs (l1S bs s) (hS bs s) (by omega) w h)
  obtain ⟨Rs, hRs⟩ : ∃ Rs, Rs = listS bs s := ⟨_, rfl⟩
  rw [← hRs]
  unfold listS at hRs
  rw [← hRs] at HM
  clear hRs
  generalize l1S bs s = s1 at *
  generalize hS bs s = x at *
  have t0 : w.cell? ⟨T, 0, none⟩ = some (.pointer (some ⟨R, 0, none⟩)) := h.blk.cell 0
  have hwr : IntKind.i64.wrap (x : Int) = (x : Int) := by rw [IntKind.wrap_i64]; omega
  go_enter Try.func34, Try.ntmps34
  go_wp2_with fail
  refine (HU.out _ h).mono ?_
  rintro e w1 ⟨rfl, h1, g1⟩
  clear t0
  go_wp2_with fail
  refine (HN.out _ h1).mono ?_
  rintro e w2 ⟨rfl, h2, t2⟩
  go_wp2_with fail
  refine (HM.out _ h2).mono ?_
  rintro e w3 ⟨A, k, c', rfl, ho, h3, t3⟩
  have tw := (Two.of_R g1 (T := T)).trans t2
  have hsz := tw.size
  go_wp2
  go_ret
  exact ⟨A, k, c', rfl, Lay.own_less (Lay.own_weak (fun b hb hlt => ⟨Nat.le_trans hsz hb.1, hlt⟩) ho) hsz, h3, tw.trans t3⟩
end Go.Proofs.Ytfpodalnnchnoaa
