/- A reader of bytes: Left, Err, next (told by whatever function value). Conditions: the reader lies at a block of its own; what the function value does is given by its contract. -/
import Derived.Test.YtfpodalnnchnoaaPut
import Derived.Deep.RegionHeld3
import Derived.Laws.Pointers
namespace Go.Proofs.Ytfpodalnnchnoaa
open Go.RowKit
/-- A reader at block R: where its bytes lie, its bytes, its place, why it is done for. -/
structure Rdr (w : World) (R : Nat) (O : Option Addr) (n c : Nat) (bs : List UInt8) (p : Nat) (why : Int) : Prop where
  blk : Blk w R 89 #[.int .i64 (p : Int), .int .i64 why, .slice O n c]
  own : OwnB w 0 O n c bs
  le : p ≤ n
  lim : n ≤ 140737488351232
theorem own_ne {w : World} {B : Nat} {A : Option Addr} {n c g : Nat} {bs : List UInt8} {t : TypeId} {cs : Array Value} (h : OwnB w B A n c bs) (hg : Blk w g t cs) (hne : 5 ≠ t) : (Value.slice A n c).ownBlock ≠ some g := own_blk_ne h hg hne
theorem OwnB.grown {w w' : World} {A : Option Addr} {B n c : Nat} {bs : List UInt8} (h : OwnB w B A n c bs) {row : Option Nat} (hg : w.grownBy w' row) (hr : (Value.slice A n c).ownBlock = none ∨ (Value.slice A n c).ownBlock ≠ row) : OwnB w' B A n c bs := by
  refine ⟨h.1, ?_⟩
  rcases h.2 with h2 | ⟨g, cap, cur, e, hB, hh, r⟩
  · exact .inl h2
  · have hlt : g < w.heap.size := by
      rcases Nat.lt_or_ge g w.heap.size with h | h
      · exact h
      · rw [Array.getElem?_eq_none h] at hh; cases hh
    refine .inr ⟨g, cap, cur, e, hB, (hg.block g hlt ?_).trans hh, r⟩
    injection e with e1
    subst e1
    intro e
    rcases hr with hr | hr
    · simp [Value.ownBlock] at hr
    · exact hr (by simp [Value.ownBlock, e])
section
variable {w w' : World} {R : Nat} {O : Option Addr} {n c : Nat} {bs : List UInt8} {p : Nat} {why : Int}
theorem Rdr.below (h : Rdr w R O n c bs p why) (hb : Below w.heap.size w w') : Rdr w' R O n c bs p why := ⟨h.blk.below hb h.blk.lt, h.own.below hb, h.le, h.lim⟩
theorem Rdr.drew (h : Rdr w R O n c bs p why) : Rdr w.drew R O n c bs p why := h.below (Below.refl _ _).drew
theorem Rdr.drewN (h : Rdr w R O n c bs p why) (q : Nat) : Rdr (w.drewN q) R O n c bs p why := h.below (below_drewN (Below.refl _ _) q)
theorem Rdr.lt (h : Rdr w R O n c bs p why) : R < w.heap.size := h.blk.lt
theorem Rdr.len (h : Rdr w R O n c bs p why) : bs.length = n := h.own.len
theorem Rdr.set0 (h : Rdr w R O n c bs p why) (p' : Nat) (v : Value) (hv : v = .int .i64 (p' : Int)) (hp : p' ≤ n) : Rdr (w.setCell ⟨R, 0, none⟩ v) R O n c bs p' why := by
  subst hv
  have h1 := h.blk.set_ 0 (.int .i64 (p' : Int))
  refine ⟨h1, ?_, hp, h.lim⟩
  exact h.own.grown (row := some R) (only_setCell (World.grownBy.refl w (some R)) (p := ⟨R, 0, none⟩) (.inl rfl) _) (.inr (own_ne h.own h.blk (by decide)))
theorem Rdr.set1 (h : Rdr w R O n c bs p why) (e : Int) : Rdr (w.setCell ⟨R, 1, none⟩ (.int .i64 e)) R O n c bs p e := by
  have h1 := h.blk.set_ 1 (.int .i64 e)
  refine ⟨h1, ?_, h.le, h.lim⟩
  exact h.own.grown (row := some R) (only_setCell (World.grownBy.refl w (some R)) (p := ⟨R, 1, none⟩) (.inl rfl) _) (.inr (own_ne h.own h.blk (by decide)))
/-- what a write to another block leaves of a reader. -/
theorem Rdr.grown (h : Rdr w R O n c bs p why) {row : Option Nat} (hg : w.grownBy w' row) (hR : row ≠ some R) (hO : (Value.slice O n c).ownBlock = none ∨ (Value.slice O n c).ownBlock ≠ row) : Rdr w' R O n c bs p why :=
  ⟨h.blk.grown hg (fun e => hR e.symm), h.own.grown hg hO, h.le, h.lim⟩
end
set_option maxHeartbeats 1000000 in
theorem left_any (R : Nat) (O : Option Addr) (n c : Nat) (bs : List UInt8) (p : Nat) (why : Int) (w : World) (h : Rdr w R O n c bs p why) :
    Calls Try.prog 44 #[.pointer (some ⟨R, 0, none⟩)] w fun e w' => e = .returned (.int .i64 ((n : Int) - p)) ∧ ∃ q, w' = w.drewN q := by
  obtain ⟨hb, ho, hp, hn⟩ := h
  have h0 : ∀ j, (w.drewN j).cell? ⟨R, 0, none⟩ = some (.int .i64 (p : Int)) := fun j => hb.cell 0
  have h2 : ∀ j, (w.drewN j).cell? ⟨R, 2, none⟩ = some (.slice O n c) := fun j => hb.cell 2
  have hw : IntKind.i64.wrap ((n : Int) - (p : Int)) = (n : Int) - (p : Int) := IntWalk.i64_in _ (by omega)
  clear hb ho
  go_enter Try.func44, Try.ntmps44
  go_wp2
  go_quiet (fail)
  go_wp2
  go_ret
  exact ⟨rfl, _, rfl⟩
set_option maxHeartbeats 1000000 in
theorem left_nil (w : World) : Calls Try.prog 44 #[.pointer none] w fun e w' => e = .returned (.int .i64 0) ∧ w = w' := by
  go_enter Try.func44, Try.ntmps44
  go_wp2
  go_ret
  exact ⟨rfl, rfl⟩
set_option maxHeartbeats 1000000 in
theorem err_any (R : Nat) (O : Option Addr) (n c : Nat) (bs : List UInt8) (p : Nat) (why : Int) (w : World) (h : Rdr w R O n c bs p why) :
    Calls Try.prog 43 #[.pointer (some ⟨R, 0, none⟩)] w fun e w' => e = .returned (.int .i64 why) ∧ w = w' := by
  obtain ⟨hb, ho, hp, hn⟩ := h
  have h1 : w.cell? ⟨R, 1, none⟩ = some (.int .i64 why) := hb.cell 1
  clear hb ho
  go_enter Try.func43, Try.ntmps43
  go_wp2
  go_ret
  exact ⟨rfl, rfl⟩
set_option maxHeartbeats 1000000 in
theorem err_nil (w : World) : Calls Try.prog 43 #[.pointer none] w fun e w' => e = .returned (.int .i64 1) ∧ w = w' := by
  go_enter Try.func43, Try.ntmps43
  go_wp2
  go_ret
  exact ⟨rfl, rfl⟩
/-- What becomes of a reader that is asked for n bytes: its place, why it is done for, the bytes. -/
def rdP (bs : List UInt8) (p : Nat) (why n : Int) : Nat := if why = 0 ∧ 0 ≤ n ∧ n ≤ (bs.length : Int) - p then p + n.toNat else p
def rdW (bs : List UInt8) (p : Nat) (why n : Int) : Int := if why = 0 then (if n < 0 then 2 else if (bs.length : Int) - p < n then 7 else 0) else why
def rdO (bs : List UInt8) (p : Nat) (why n : Int) : List UInt8 := if why = 0 ∧ 0 ≤ n ∧ n ≤ (bs.length : Int) - p then (bs.drop p).take n.toNat else []
/-- A function value that is told the next bytes: what it holds of the bytes that it has been told, in a world. -/
structure Tells (fn : FuncId) (cap : Array Value) (R : Nat) (O : Option Addr) (n c : Nat) (bs : List UInt8) (I : List UInt8 → World → Prop) : Prop where
  tell : ∀ (l : List UInt8) (b : UInt8) (w : World) (p : Nat), I l w → Rdr w R O n c bs p 0 → l.length ≤ p → p < n → Calls Try.prog fn (#[vb b] ++ cap) w fun e w' => e = .returned (.tuple #[]) ∧ I (l ++ [b]) w' ∧ Rdr w' R O n c bs p 0
  enters : ∀ (args : Array Value) (w : World), (callFunc fn args).run Try.prog w = .ok (.enter fn args) w
  set : ∀ (l : List UInt8) (w : World) (i : Nat) (v : Value), I l w → I l (w.setCell ⟨R, i, none⟩ v)
  drew : ∀ (l : List UInt8) (w : World), I l w → I l w.drew
theorem tells_drewN {fn : FuncId} {cap : Array Value} {R : Nat} {O : Option Addr} {n c : Nat} {bs : List UInt8} {I : List UInt8 → World → Prop} (h : Tells fn cap R O n c bs I) (l : List UInt8) (w : World) (q : Nat) (hi : I l w) : I l (w.drewN q) := by
  induction q with
  | zero => exact hi
  | succ q ih => exact h.drew _ _ ih
set_option maxRecDepth 100000 in
set_option maxHeartbeats 2000000 in
theorem next_nil (n : Int) (f : Value) (w : World) : Calls Try.prog 54 #[.pointer none, .int .i64 n, f] w fun e w' => e = .returned (.tuple #[]) ∧ w = w' := by
  go_enter Try.func54, Try.ntmps54
  go_wp2
  refine bodyPost_ret (results_none rfl _ _ _) rfl ?_
  exact ⟨rfl, rfl⟩
set_option maxRecDepth 100000 in
set_option maxHeartbeats 2000000 in
theorem next_any (R : Nat) (O : Option Addr) (n c : Nat) (bs : List UInt8) (p : Nat) (why : Int) (m : Int) (fn : FuncId) (cap : Array Value) (I : List UInt8 → World → Prop) (w : World)
    (h : Rdr w R O n c bs p why) (hT : Tells fn cap R O n c bs I) (hI : I [] w) (hm : m ≤ 9223372036854775807) :
    Calls Try.prog 54 #[.pointer (some ⟨R, 0, none⟩), .int .i64 m, .func (.func fn) #[] cap] w fun e w' => e = .returned (.tuple #[]) ∧ Rdr w' R O n c bs (rdP bs p why m) (rdW bs p why m) ∧ I (rdO bs p why m) w' := by
  have hlen := h.len
  have h1 : w.cell? ⟨R, 1, none⟩ = some (.int .i64 why) := h.blk.cell 1
  by_cases hw : why = 0
  · subst hw
    by_cases hm0 : m < 0
    · have e1 : rdP bs p 0 m = p := by unfold rdP; rw [if_neg (by omega)]
      have e2 : rdW bs p 0 m = 2 := by unfold rdW; rw [if_pos rfl, if_pos hm0]
      have e3 : rdO bs p 0 m = [] := by unfold rdO; rw [if_neg (by omega)]
      rw [e1, e2, e3]
      have hf : w.frozen? ⟨R, 1, none⟩ = false := h.blk.frozen 1
      have hR := h.set1 2
      have hIs := hT.set _ _ 1 (.int .i64 2) hI
      clear e1 e2 e3 hlen h hI hT
      go_enter Try.func54, Try.ntmps54
      go_wp2
      refine bodyPost_ret (results_none rfl _ _ _) rfl ?_
      exact ⟨rfl, hR, hIs⟩
    · obtain ⟨m, rfl⟩ := Int.eq_ofNat_of_zero_le (show 0 ≤ m by omega)
      by_cases hl : (n : Int) - p < m
      · have e1 : rdP bs p 0 m = p := by unfold rdP; rw [if_neg (by omega)]
        have e2 : rdW bs p 0 m = 7 := by unfold rdW; rw [if_pos rfl, if_neg hm0, if_pos (by omega)]
        have e3 : rdO bs p 0 m = [] := by unfold rdO; rw [if_neg (by omega)]
        rw [e1, e2, e3]
        clear e1 e2 e3 hlen
        go_enter Try.func54, Try.ntmps54
        go_wp2_with fail
        refine (left_any R O n c bs p 0 w h).mono ?_
        rintro e w1 ⟨rfl, q, rfl⟩
        have hq := h.drewN q
        have hIq := tells_drewN hT _ _ q hI
        have hR := hq.set1 7
        have hIs := hT.set _ _ 1 (.int .i64 7) hIq
        have h1q : (w.drewN q).cell? ⟨R, 1, none⟩ = some (.int .i64 0) := h1
        have hfq : (w.drewN q).frozen? ⟨R, 1, none⟩ = false := h.blk.frozen 1
        clear h hI hT h1 hq hIq
        go_wp2
        refine bodyPost_ret (results_none rfl _ _ _) rfl ?_
        exact ⟨rfl, hR, hIs⟩
      · have e1 : rdP bs p 0 m = p + m := by unfold rdP; rw [if_pos (by omega)]; simp
        have e2 : rdW bs p 0 m = 0 := by unfold rdW; rw [if_pos rfl, if_neg hm0, if_neg (by omega)]
        have e3 : rdO bs p 0 m = (bs.drop p).take m := by unfold rdO; rw [if_pos (by omega)]; simp
        rw [e1, e2, e3]
        have HL := Lib.hid hlen
        clear e1 e2 e3 hlen
        have hge : (m : Int) ≤ (n : Int) - p := by omega
        have hlim := h.lim
        have hle := h.le
        go_enter Try.func54, Try.ntmps54
        go_wp2_with fail
        refine (left_any R O n c bs p 0 w h).mono ?_
        rintro e w1 ⟨rfl, q, rfl⟩
        have hq := h.drewN q
        have hIq := tells_drewN hT _ _ q hI
        clear h hI h1
        go_wp2
        go_loopg [31] m (fun g s wr => ∃ k : Nat, k + g ≤ m ∧ m ≤ k + g ∧ s = .int .i64 k ∧ Rdr wr R O n c bs (p + k) 0 ∧ I ((bs.drop p).take k) wr)
        case atStart => exact ⟨0, by omega, by omega, rfl, hq, hIq⟩
        case round =>
          clear hq hIq
          obtain ⟨k, hk1, hk2, rfl, hr, hi⟩ := hrel
          by_cases hk : k < m
          · obtain ⟨g, rfl, _, hgl, hcg, _⟩ := hr.own.at_ (p + k) (by omega)
            have HTK := Lib.hid (show (bs.drop p).take (k + 1) = (bs.drop p).take k ++ [bs.getD (p + k) 0] from by
              have hkl : k < (bs.drop p).length := by rw [List.length_drop, HL.out]; omega
              rw [List.take_succ_eq_append_getElem hkl, List.getElem_drop]
              simp [List.getD, List.getElem?_eq_getElem (show p + k < bs.length by rw [HL.out]; omega)])
            generalize hxx : bs.getD (p + k) 0 = x at *
            have hcell : ∀ {W : World}, Rdr W R (some ⟨g, 0, none⟩) n c bs (p + k) 0 → W.cell? ⟨g, p + k, none⟩ = some (vb x) := by
              intro W hW
              obtain ⟨g', e, _, _, hc, _⟩ := hW.own.at_ (p + k) (by omega)
              injection e with e; injection e with e; subst e
              rw [hxx] at hc; exact hc
            clear hxx
            have d0 : wr.drew.cell? ⟨R, 0, none⟩ = some (.int .i64 ((p : Int) + (k : Int))) := by have := hr.blk.cell 0; simpa using this
            have d2 : wr.drew.cell? ⟨R, 2, none⟩ = some (.slice (some ⟨g, 0, none⟩) n c) := hr.blk.cell 2
            have dg : wr.drew.cell? ⟨g, p + k, none⟩ = some (vb x) := hcg
            have hrd := hr.drew
            have hid := hT.drew _ _ hi
            have i0 : (0 : Int) ≤ (p : Int) + (k : Int) := by omega
            have i1 : (p : Int) + (k : Int) < (n : Int) := by omega
            have i2 : ((p : Int) + (k : Int)).toNat = p + k := by omega
            have hen := hT.enters
            have hlt1 : ((bs.drop p).take k).length ≤ p + k := Nat.le_trans (List.length_take_le _ _) (by omega)
            have hlt2 : p + k < n := by omega
            go_wp2
            go_region_held3 (fun w' => w'.cell? ⟨R, 0, none⟩ = some (.int .i64 ((p : Int) + (k : Int))) ∧ w'.cell? ⟨R, 2, none⟩ = some (.slice (some ⟨g, 0, none⟩) n c) ∧ w'.cell? ⟨g, p + k, none⟩ = some (vb x)) (first | go_keep | exact ⟨f0, f2, fg⟩)
              (first | (refine (hT.tell _ x _ _ hid hrd hlt1 hlt2).mono ?_; rintro e w4 ⟨rfl, hi4, hr4⟩; have f0 : w4.cell? ⟨R, 0, none⟩ = some (.int .i64 ((p : Int) + (k : Int))) := (by have := hr4.blk.cell 0; simpa using this); have f2 : w4.cell? ⟨R, 2, none⟩ = some (.slice (some ⟨g, 0, none⟩) n c) := hr4.blk.cell 2; have fg : w4.cell? ⟨g, p + k, none⟩ = some (vb x) := hcell hr4))
            have fz : w4.frozen? ⟨R, 0, none⟩ = false := hr4.blk.frozen 0
            have hr5 := hr4.set0 (p + k + 1) (.int .i64 ((p : Int) + (k : Int) + 1)) (by go_num) (by omega)
            have hi5 := hT.set _ _ 0 (.int .i64 ((p : Int) + (k : Int) + 1)) hi4
            clear hlt1 hlt2 hr hrd hid hr4 hi4 hcell d0 d2 dg f2 fg hen hT hi
            go_wp2
            go_roundg (gk - 1)
            case measure => omega
            case rel => exact ⟨k + 1, by omega, by omega, by go_num, hr5, by rw [HTK.out]; exact hi5⟩
          · obtain rfl : k = m := by omega
            go_wp2
            go_end0
            exact ⟨rfl, hr, hi⟩
  · have e1 : rdP bs p why m = p := by unfold rdP; rw [if_neg (by omega)]
    have e2 : rdW bs p why m = why := by unfold rdW; rw [if_neg hw]
    have e3 : rdO bs p why m = [] := by unfold rdO; rw [if_neg (by omega)]
    rw [e1, e2, e3]
    have hwn : (why != 0) = true := by rw [bne_iff_ne]; exact hw
    clear e1 e2 e3 hw hlen
    go_enter Try.func54, Try.ntmps54
    go_wp2
    refine bodyPost_ret (results_none rfl _ _ _) rfl ?_
    exact ⟨rfl, h, hI⟩
end Go.Proofs.Ytfpodalnnchnoaa
