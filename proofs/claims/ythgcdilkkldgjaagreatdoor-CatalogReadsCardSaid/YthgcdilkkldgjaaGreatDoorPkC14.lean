/- catalog.lines$1: the lines of a text with their places, one by one. Conditions: a text of at most 1000 bytes. -/
import Derived.Test.YthgcdilkkldgjaaGreatDoorPkC13
namespace Go.Proofs.YthgcdilkkldgjaaGreatDoor
open Go.RowKit Go.Shelf
attribute [local go_sem] Oper.semAt_some
/-! ### lines, by pieces -/
def sumL (l : List (List UInt8)) : Nat := (l.map List.length).sum
theorem sumL_snoc (l : List (List UInt8)) (x : List UInt8) : sumL (l ++ [x]) = sumL l + x.length := by unfold sumL; simp
theorem linesAt_app : ∀ (pre rest : List (List UInt8)) (a : Nat), (∀ p ∈ pre, p ≠ []) → linesAt a (pre ++ rest) = linesAt a pre ++ linesAt (a + sumL pre) rest
  | [], rest, a, _ => by simp [linesAt, sumL]
  | x :: pre, rest, a, h => by
    have hx := h x (by simp)
    rw [List.cons_append]
    have : sumL (x :: pre) = x.length + sumL pre := by unfold sumL; simp
    rw [this, linesAt, if_neg hx, linesAt_app pre rest _ (fun p hp => h p (by simp [hp])), Nat.add_assoc]
    conv => rhs; rw [linesAt, if_neg hx]
    rfl
theorem linesAt_snoc {pre : List (List UInt8)} {x : List UInt8} (h : ∀ p ∈ pre, p ≠ []) (hx : x ≠ []) : linesAt 0 (pre ++ [x]) = linesAt 0 pre ++ [(sumL pre, x)] := by
  rw [linesAt_app _ _ _ h, Nat.zero_add]
  congr 1
  unfold linesAt
  rw [if_neg hx]
  unfold linesAt
  rfl
theorem linesAt_pre {pre P : List (List UInt8)} (h : ∀ p ∈ pre, p ≠ []) (hp : pre <+: P) : linesAt 0 pre <+: linesAt 0 P := by
  obtain ⟨r, rfl⟩ := hp
  rw [linesAt_app _ _ _ h]
  exact List.prefix_append _ _
theorem linesAt_end {q P : List (List UInt8)} (h : ∀ p ∈ q, p ≠ []) (hp : q ++ [[]] <+: P) : linesAt 0 P = linesAt 0 q := by
  obtain ⟨r, rfl⟩ := hp
  rw [List.append_assoc, linesAt_app _ _ _ h]
  show _ ++ linesAt _ ([] :: r) = _
  unfold linesAt
  rw [if_pos rfl, List.append_nil]
theorem sumL_pre {pre P : List (List UInt8)} (h : pre <+: P) : sumL pre ≤ P.flatten.length := by
  obtain ⟨r, rfl⟩ := h
  unfold sumL
  rw [List.length_flatten, List.map_append, List.sum_append]
  omega
def encL (x : Nat × List UInt8) : Array Value := #[.int .i64 (x.1 : Int), .string ⟨x.2.toArray⟩]
theorem roundIn_round {P : Program} {l l' m m' : Nat} {f : FuncId} {tmps : Array Value} {assign body : Code} {w : World} {R : Ending → World → Prop} (h : RoundIn Fence.wide m P l f tmps assign body w R) : RoundIn (Fence.wide.inRound l') m' P l f tmps assign body w R :=
  ⟨trivial, fun c cs _ => h.2 c cs (room_wide _)⟩
/-- what the loop over the pieces knows -/
structure LnI (J : List (Nat × List UInt8) → World → Prop) (b l : Nat) (pre : List (List UInt8)) (W : World) : Prop where
  ne : ∀ p ∈ pre, p ≠ []
  j : J (linesAt 0 pre) W
  y : Blk W b 81 #[.func (.yield l) #[] #[]]
  a : Blk W (b + 1) 3 #[.int .i64 (sumL pre : Int)]
def LnX (J Jx : List (Nat × List UInt8) → World → Prop) (P : List (List UInt8)) (c : Code) (pre : List (List UInt8)) (W : World) : Prop := c = .ret ∧ ((∃ q, pre = q ++ [[]] ∧ (∀ p ∈ q, p ≠ []) ∧ J (linesAt 0 q) W) ∨ (∃ xs, xs <+: linesAt 0 P ∧ Jx xs W))
set_option maxRecDepth 100000 in
set_option maxHeartbeats 8000000 in
theorem lines1_in (n : Nat) (hn : 3 ≤ n) (gt : Nat) (s : ByteArray) (W : World) (hs : s.size ≤ 1000) (hb : Blk W gt 9 #[.string s]) :
    SeqM Fence.wide n Tryz.prog 44 #[.pointer (some ⟨gt, 0, none⟩)] encL (fun xs => xs = linesAt 0 (pcs s.data.toList)) (fun pre => pre <+: linesAt 0 (pcs s.data.toList)) (linesAt 0 (pcs s.data.toList)).length
      (fun r => W.heap.size ≤ r ∧ r < W.heap.size + 7) (fun r => W.heap.size ≤ r ∧ r < W.heap.size + 7) (W.heap.size + 7) W := by
  intro l J Jx hJ hJx hY h0
  have HJ := Lib.hid hJ
  have HJX := Lib.hid hJx
  have HY := Lib.hid hY
  clear hJ hJx hY
  refine callsIn_of_wp_marks Tryz.func44 rfl trivial ?_ rfl
  simp only [Tryz.ntmps44, List.size_toArray, List.length_cons, List.length_nil, Nat.reduceAdd, Nat.reduceSub, Array.replicate_succ, Array.replicate_zero, List.push_toArray, List.append_toArray, List.nil_append, List.cons_append]
  have q0 := bl_al (bl_al (Below.refl W.heap.size W) (.cells #[.func (.yield l) #[] #[]] 81)) (.cells #[.int .i64 0] 3)
  have HB0 := Lib.hid ((Blk.new W 81 #[.func (.yield l) #[] #[]]).alloc (.cells #[.int .i64 0] 3))
  have HB1 := Lib.hid (Blk.new (W.alloc (.cells #[.func (.yield l) #[] #[]] 81)) 3 #[.int .i64 0])
  rw [World.size_alloc] at HB1
  have x1 : ((W.alloc (.cells #[.func (.yield l) #[] #[]] 81)).alloc (.cells #[.int .i64 0] 3)).cell? ⟨gt, 0, none⟩ = some (.string s) := (hb.ca q0).cell 0
  gi_wp2
  refine ⟨trivial, fun _ => by omega, (callsIn_wide.2 (splitAfterSeq_any s ⟨#[10]⟩ _)).mono ?_⟩
  rintro e w4 ⟨g, rfl, hg, b0, b1, b2, q4, hz4⟩
  simp only [World.size_alloc] at hg hz4
  have HY0 := Lib.hid (HB0.out.ca q4)
  have HA0 := Lib.hid (HB1.out.ca q4)
  have HQ4 := Lib.hid (bl_ca q0 q4)
  have HSP := Lib.hid (show SpB w4 (W.heap.size + 2) (W.heap.size + 3) (W.heap.size + 4) s from by
    subst hg
    exact ⟨b0, b1, b2⟩)
  obtain rfl : g = W.heap.size + 2 := hg
  clear b0 b1 b2 q0 q4 x1 HB0 HB1
  gi_wp2
  have hz5 : w4.heap.size = W.heap.size + 5 := hz4
  refine wpIn_rangeFunc_M rfl (by omega) (gf := 78) (lb := #[.pointer (some ⟨W.heap.size + 3, 0, none⟩), .pointer (some ⟨W.heap.size + 2, 0, none⟩), .pointer (some ⟨W.heap.size + 4, 0, none⟩)]) rfl trivial (Go.Proofs.enters_of Tryz.func78 (by kernel_rfl) rfl)
    (encs := encP) (S := fun xs => xs = pcs s.data.toList) (Sp := fun pre => pre <+: pcs s.data.toList) (N := (pcs s.data.toList).length) (Bf := W.heap.size + 7) (fun r => r = W.heap.size + 2) (fun r => r = W.heap.size + 2 ∨ r = W.heap.size + 3 ∨ r = W.heap.size + 4)
    (fun W1 hb1 hs1 => by
      have hbf : W1.heap.size = W.heap.size + 7 := by omega
      have := split1_in (n - 1) (by omega) (W.heap.size + 2) (W.heap.size + 3) (W.heap.size + 4) s W1 hs (by omega) (by omega) ⟨HSP.out.1.ca hb1, HSP.out.2.1.ca hb1, HSP.out.2.2.ca hb1⟩
      rw [hbf] at this
      exact this)
    (fun r hr => by omega) (fun r hr => by omega) (fun _ => rfl)
    (LnI J W.heap.size l) (LnX J Jx (pcs s.data.toList))
    (fun pre A B row hi hg hr => ⟨hi.ne, HJ.out _ _ _ row hi.j hg (fun r e => by have := hr r e; omega), blk_same hi.y (hg.block _ hi.y.lt (fun e => by have := hr _ e.symm; omega)), blk_same hi.a (hg.block _ hi.a.lt (fun e => by have := hr _ e.symm; omega))⟩)
    (fun c pre A B row hi hg hr => by
      obtain ⟨hc, hi⟩ := hi
      rcases hi with ⟨q, e, hq, hj⟩ | ⟨xs, hx, hj⟩
      · exact ⟨hc, .inl ⟨q, e, hq, HJ.out _ _ _ row hj hg (fun r e => by have := hr r e; omega)⟩⟩
      · exact ⟨hc, .inr ⟨xs, hx, HJX.out _ _ _ row hj hg (fun r e => by have := hr r e; omega)⟩⟩)
    ⟨by simp, HJ.out _ _ _ none h0 (grown_of_below HQ4.out) (fun r e => by cases e), HY0.out, HA0.out⟩
    (fun x => { tmps := #[.func (.yield l) #[] #[], .pointer (some ⟨gt, 0, none⟩), .pointer (some ⟨W.heap.size, 0, none⟩), .pointer (some ⟨W.heap.size + 1, 0, none⟩), .string ⟨x.toArray⟩, .string s, .func (.func 78) #[] #[.pointer (some ⟨W.heap.size + 2 + 1, 0, none⟩), .pointer (some ⟨W.heap.size + 2, 0, none⟩), .pointer (some ⟨W.heap.size + 2 + 2, 0, none⟩)], .string ⟨x.toArray⟩, undef, undef, undef, undef, undef, undef, undef, undef, undef, undef, undef, undef, undef], defers := [] }) ?assign ?body ?done ?stop
  case assign =>
    intro l5 x W5 K hK
    unfold encP
    gi_wp2
    exact hK
  case body =>
    intro l5 pre x W5 hi hbf hsp hlen
    have HI := Lib.hid hi
    have y0 : W5.cell? ⟨W.heap.size, 0, none⟩ = some (.func (.yield l) #[] #[]) := hi.y.cell 0
    have a0 : W5.cell? ⟨W.heap.size + 1, 0, none⟩ = some (.int .i64 (sumL pre : Int)) := hi.a.cell 0
    have HD8 := Lib.hid (show x.length = (⟨x.toArray⟩ : ByteArray).size from by simp [ByteArray.size])
    generalize hD : (⟨x.toArray⟩ : ByteArray) = D at *
    have HD := Lib.hid hD
    by_cases hx : x = []
    · have hxe : D.toList.isEmpty = true := by rw [← hD, hx, ByteArray.toList_eq]; rfl
      have HX := Lib.hid hx
      clear hD hx
      gi_wp2
      refine ⟨fun _ h => (by cases h), ?_⟩
      gi_wp2
      exact ⟨KpM.refl _ _, rfl, .inl ⟨pre, by rw [HX.out], HI.out.ne, HI.out.j⟩⟩
    · have hxe : D.toList.isEmpty = false := by
        rw [← hD, ByteArray.toList_eq]
        cases x with
        | nil => exact absurd rfl hx
        | cons c r => rfl
      have HLN := Lib.hid (linesAt_snoc HI.out.ne hx)
      have HNE := Lib.hid (show ∀ p ∈ pre ++ [x], p ≠ [] from fun p hp => by
        rcases List.mem_append.1 hp with hp | hp
        · exact HI.out.ne p hp
        · rw [List.mem_singleton.1 hp]; exact hx)
      have HPR := Lib.hid (linesAt_pre HNE.out hsp)
      rw [HLN.out] at HPR
      have hpl := HPR.out.length_le
      rw [List.length_append] at hpl
      obtain ⟨fn, tmps, assign, body, hy, hR⟩ := HY.out (linesAt 0 pre) (sumL pre, x) W5 HI.out.j hbf HPR.out (by simp at hpl; omega)
      unfold encL at hy
      simp only [hD] at hy
      have HRR := Lib.hid (roundIn_round (l' := l5) (m' := n - 1 - 1 - 1) hR)
      have HSM := Lib.hid (show sumL pre + x.length ≤ 1000 from by
        have := sumL_pre hsp
        rw [sumL_snoc, pcs_flat] at this
        have h9 : s.data.toList.length = s.size := by simp
        omega)
      have HXE := Lib.hid hx
      clear hR hpl hx hD
      gi_wp2
      refine ⟨fun h => (by cases h), HRR.out.mono ?_⟩
      rintro e W6 (⟨rfl, hJ6, hk6⟩ | ⟨rfl, hJx6, hk6⟩)
      · have HJ6 := Lib.hid hJ6
        have HK6 := Lib.hid hk6
        have HY6 := Lib.hid (blk_same HI.out.y (hk6.2 _ ⟨Nat.le_refl _, by omega⟩ HI.out.y.lt))
        have HA6 := Lib.hid (blk_same HI.out.a (hk6.2 _ ⟨by omega, by omega⟩ HI.out.a.lt))
        have hk61 := hk6.1
        clear hJ6 hk6 hy y0 a0
        have a0 : W6.cell? ⟨W.heap.size + 1, 0, none⟩ = some (.int .i64 (sumL pre : Int)) := HA6.out.cell 0
        have f0 : W6.frozen? ⟨W.heap.size + 1, 0, none⟩ = false := HA6.out.frozen 0
        have hD1 : (D.size : Int) ≤ 1000 := by have := HSM.out; have := HD8.out; omega
        have hS1 : (sumL pre : Int) ≤ 1000 := by have := HSM.out; omega
        gi_wp2
        refine ⟨(HK6.out.mono (fun r hr => by omega)).trans (KpM.of_grown (grownBy_setCell' W6 (W.heap.size + 1) _) (fun r e hr => by injection e with e; omega)), HNE.out, ?_, HY6.out.far (p := ⟨W.heap.size + 1, 0, none⟩) (by show W.heap.size ≠ W.heap.size + 1; omega) _, ?_⟩
        · rw [HLN.out]
          exact HJ.out _ _ _ (some (W.heap.size + 1)) HJ6.out (grownBy_setCell' W6 (W.heap.size + 1) _) (fun r e => by injection e with e; omega)
        · have := HA6.out.set_ 0 (.int .i64 ((sumL pre : Int) + (D.size : Int)))
          rw [sumL_snoc, HD8.out, Int.natCast_add]
          simpa using this
      · have HJ6 := Lib.hid hJx6
        have HK6 := Lib.hid hk6
        clear hJx6 hk6 hy y0 a0
        gi_wp2
        exact ⟨HK6.out.mono (fun r hr => by omega), rfl, .inr ⟨_, HPR.out, HJ6.out⟩⟩
  case done =>
    rintro D5 xs W5 hD rfl hi hK
    gi_wp2
    refine ⟨by simp, .inl ⟨_, _, rfl, run_takeDeferred hK, ?_⟩⟩
    exact ⟨_, results_none rfl _ _ _, ⟨_, rfl⟩, .inl ⟨_, rfl, HJ.out _ _ _ (some D5) hi.j (grownBy_putObj' W5 D5 _) (fun r e => by injection e with e; omega)⟩⟩
  case stop =>
    rintro D5 c pre W5 hD hsp ⟨rfl, hi⟩ hK
    gi_wp2
    refine ⟨by simp, .inl ⟨_, _, rfl, run_takeDeferred hK, ?_⟩⟩
    refine ⟨_, results_none rfl _ _ _, ⟨_, rfl⟩, ?_⟩
    rcases hi with ⟨q, e, hq, hj⟩ | ⟨xs, hx, hj⟩
    · exact .inl ⟨_, linesAt_end hq (by rw [← e]; exact hsp) ▸ rfl, HJ.out _ _ _ (some D5) hj (grownBy_putObj' W5 D5 _) (fun r e => by injection e with e; omega)⟩
    · exact .inr ⟨xs, hx, HJX.out _ _ _ (some D5) hj (grownBy_putObj' W5 D5 _) (fun r e => by injection e with e; omega)⟩
end Go.Proofs.YthgcdilkkldgjaaGreatDoor
/- What catalog.read keeps in memory while it reads. Conditions: none. -/
namespace Go.Proofs.YthgcdilkkldgjaaGreatDoor
open Go.RowKit
theorem LCO_reps_any {w w' : World} {F F' : Nat → Prop} : ∀ {xs : List CO} {cs : List Value}, LCO.reps w F xs cs → LCO.reps w' F' xs cs
  | [], _, h => h
  | _ :: _, _, ⟨c, d, e, hx, hr⟩ => ⟨c, d, e, hx, LCO_reps_any hr⟩
theorem LK_reps_any {w w' : World} {F F' : Nat → Prop} : ∀ {xs : List Int} {cs : List Value}, LK.reps w F xs cs → LK.reps w' F' xs cs
  | [], _, h => h
  | _ :: _, _, ⟨c, d, e, hx, hr⟩ => ⟨c, d, e, hx, LK_reps_any hr⟩
theorem row_same {w w' : World} {B s n : Nat} {e : TypeId} {v : Value} {xs : List Value} (h : w.ownsRow B e s v n xs) (hk : ∀ k, v.ownBlock = some k → w'.heap[k]? = w.heap[k]?) : w'.ownsRow B e s v n xs := by
  refine ⟨h.1, ?_⟩
  rcases h.2 with h2 | ⟨g, cap, cur, rfl, hg, hh, r⟩
  · exact .inl h2
  · exact .inr ⟨g, cap, cur, rfl, hg, (hk g (by simp [Value.ownBlock])).trans hh, r⟩
theorem LCO_own_to {e : TypeId} {w w' : World} {B n c : Nat} {G G' : Nat → Prop} {A : Option Addr} {xs : List CO} (h : LCO.own e w B G A n c xs) (hk : ∀ k, (Value.slice A n c).ownBlock = some k → w'.heap[k]? = w.heap[k]?) : LCO.own e w' B G' A n c xs := by
  obtain ⟨hl, cs, hr, ho⟩ := h
  exact ⟨hl, cs, LCO_reps_any hr, row_same ho hk⟩
theorem LK_own_to {e : TypeId} {w w' : World} {B n c : Nat} {G G' : Nat → Prop} {A : Option Addr} {xs : List Int} (h : LK.own e w B G A n c xs) (hk : ∀ k, (Value.slice A n c).ownBlock = some k → w'.heap[k]? = w.heap[k]?) : LK.own e w' B G' A n c xs := by
  obtain ⟨hl, cs, hr, ho⟩ := h
  exact ⟨hl, cs, LK_reps_any hr, row_same ho hk⟩
theorem own_lt {α : Type} {L : Lay α} {e : TypeId} {w : World} {B n c : Nat} {G : Nat → Prop} {A : Option Addr} {xs : List α} (h : L.own e w B G A n c xs) : ∀ k, (Value.slice A n c).ownBlock = some k → B ≤ k ∧ k < w.heap.size := by
  obtain ⟨hl, cs, hr, ho⟩ := h
  exact own_base' ho
theorem set_grown (w : World) (g o : Nat) (v : Value) : w.grownBy (w.setCell ⟨g, o, none⟩ v) (some g) := only_setCell (p := ⟨g, o, none⟩) (World.grownBy.refl w _) (.inl rfl) v
/-- what read keeps -/
structure RdS (w0 wr : World) (ad : Addr) (ws : List ByteArray) (nm : ByteArray) (A : Option Addr) (n c : Nat) (K : Option Addr) (m d : Nat) (cs : List CO) (ks : List Int) : Prop where
  ws : LS.rd wr (fun b => b = w0.heap.size + 1) (some ad) ws.length ws
  t : Blk wr (w0.heap.size + 2) 41 #[.string nm, .slice A n c, .slice K m d]
  co : LCO.own 71 wr (w0.heap.size + 3) (fun _ => True) A n c cs
  ko : LK.own 3 wr (w0.heap.size + 3) (fun _ => True) K m d ks
  ap : ∀ k, (Value.slice A n c).ownBlock = some k → (Value.slice K m d).ownBlock ≠ some k
  r : Blk wr w0.heap.size 41 #[.string ⟨#[]⟩, .slice none 0 0, .slice none 0 0]
  q : Below w0.heap.size w0 wr
  sz : w0.heap.size + 3 ≤ wr.heap.size
section
variable {w0 wr w' : World} {ad : Addr} {ws : List ByteArray} {nm : ByteArray} {A : Option Addr} {n c : Nat} {K : Option Addr} {m d : Nat} {cs : List CO} {ks : List Int}
theorem RdS.below (h : RdS w0 wr ad ws nm A n c K m d cs ks) (q : Below wr.heap.size wr w') : RdS w0 w' ad ws nm A n c K m d cs ks :=
  ⟨Lay.rd_below h.ws q, h.t.ca q, Lay.own_below h.co q, Lay.own_below h.ko q, h.ap, h.r.ca q, bl_ca h.q q, Nat.le_trans h.sz q.size⟩
theorem RdS.keyed (h : RdS w0 wr ad ws nm A n c K m d cs ks) {K2 : Option Addr} {m2 d2 : Nat} {ks2 : List Int} {w2 : World} (ho : LK.own 3 w2 (w0.heap.size + 3) (fun _ => True) K2 m2 d2 ks2)
    (hg : wr.grownBy w2 (Value.slice K m d).ownBlock) (hat : (Value.slice K2 m2 d2).ownBlock = (Value.slice K m d).ownBlock ∨ (Value.slice K2 m2 d2).ownBlock = some wr.heap.size) : RdS w0 (w2.setCell ⟨w0.heap.size + 2, 2, none⟩ (.slice K2 m2 d2)) ad ws nm A n c K2 m2 d2 cs ks2 := by
  have hs := set_grown w2 (w0.heap.size + 2) 2 (.slice K2 m2 d2)
  have hK := own_lt h.ko
  have hC := own_lt h.co
  have hB := h.sz
  have hz := hg.size
  have low : ∀ g, g < w0.heap.size + 3 → (Value.slice K m d).ownBlock ≠ some g := fun g hl e => by have := (hK g e).1; omega
  have k1 : ∀ g, g < w0.heap.size + 3 → g ≠ w0.heap.size + 2 → (w2.setCell ⟨w0.heap.size + 2, 2, none⟩ (.slice K2 m2 d2)).heap[g]? = wr.heap[g]? := fun g hl hne =>
    (hs.block g (by omega) (fun e => hne (by injection e))).trans (hg.block g (by omega) (fun e => low g hl e.symm))
  have ht2 : Blk w2 (w0.heap.size + 2) 41 #[.string nm, .slice A n c, .slice K m d] := h.t.grown hg (fun e => low _ (by omega) e.symm)
  refine ⟨Lay.rd_keep (fun b hb hl => ?_) h.ws, by simpa using ht2.set_ 2 (.slice K2 m2 d2), LCO_own_to h.co (fun k hk => ?_), LK_own_to ho (fun k hk => ?_), fun k hk e => ?_, blk_same h.r (k1 _ (by omega) (by omega)), ?_, by rw [World.size_setCell]; omega⟩
  · subst hb
    exact k1 _ (by omega) (by omega)
  · have := hC k hk
    exact (hs.block k (by omega) (fun e => by injection e with e; omega)).trans (hg.block k this.2 (fun e => h.ap k hk e.symm))
  · have := own_lt ho k hk
    exact hs.block k this.2 (fun e => by injection e with e; omega)
  · rcases hat with hat | hat
    · rw [hat] at e; exact h.ap k hk e
    · rw [hat] at e
      injection e with e
      have := (hC k hk).2
      omega
  · exact (h.q.grown hg (by omega) (fun k e => by have := (hK k e).1; omega)).grown hs (by omega) (fun k e => by injection e with e; omega)
theorem RdS.coled (h : RdS w0 wr ad ws nm A n c K m d cs ks) {A2 : Option Addr} {n2 c2 : Nat} {cs2 : List CO} {w2 : World} (ho : LCO.own 71 w2 (w0.heap.size + 3) (fun _ => True) A2 n2 c2 cs2)
    (hg : wr.grownBy w2 (Value.slice A n c).ownBlock) (hat : (Value.slice A2 n2 c2).ownBlock = (Value.slice A n c).ownBlock ∨ (Value.slice A2 n2 c2).ownBlock = some wr.heap.size) : RdS w0 (w2.setCell ⟨w0.heap.size + 2, 1, none⟩ (.slice A2 n2 c2)) ad ws nm A2 n2 c2 K m d cs2 ks := by
  have hs := set_grown w2 (w0.heap.size + 2) 1 (.slice A2 n2 c2)
  have hK := own_lt h.ko
  have hC := own_lt h.co
  have hB := h.sz
  have hz := hg.size
  have low : ∀ g, g < w0.heap.size + 3 → (Value.slice A n c).ownBlock ≠ some g := fun g hl e => by have := (hC g e).1; omega
  have k1 : ∀ g, g < w0.heap.size + 3 → g ≠ w0.heap.size + 2 → (w2.setCell ⟨w0.heap.size + 2, 1, none⟩ (.slice A2 n2 c2)).heap[g]? = wr.heap[g]? := fun g hl hne =>
    (hs.block g (by omega) (fun e => hne (by injection e))).trans (hg.block g (by omega) (fun e => low g hl e.symm))
  have ht2 : Blk w2 (w0.heap.size + 2) 41 #[.string nm, .slice A n c, .slice K m d] := h.t.grown hg (fun e => low _ (by omega) e.symm)
  refine ⟨Lay.rd_keep (fun b hb hl => ?_) h.ws, by simpa using ht2.set_ 1 (.slice A2 n2 c2), LCO_own_to ho (fun k hk => ?_), LK_own_to h.ko (fun k hk => ?_), fun k hk e => ?_, blk_same h.r (k1 _ (by omega) (by omega)), ?_, by rw [World.size_setCell]; omega⟩
  · subst hb
    exact k1 _ (by omega) (by omega)
  · have := own_lt ho k hk
    exact hs.block k this.2 (fun e => by injection e with e; omega)
  · have := hK k hk
    exact (hs.block k (by omega) (fun e => by injection e with e; omega)).trans (hg.block k this.2 (fun e => h.ap k e.symm hk))
  · rcases hat with hat | hat
    · rw [hat] at hk; exact h.ap k hk e
    · rw [hat] at hk
      injection hk with hk
      have := (hK k e).2
      omega
  · exact (h.q.grown hg (by omega) (fun k e => by have := (hC k e).1; omega)).grown hs (by omega) (fun k e => by injection e with e; omega)
theorem RdS.named (h : RdS w0 wr ad ws nm A n c K m d cs ks) (v : ByteArray) : RdS w0 (wr.setCell ⟨w0.heap.size + 2, 0, none⟩ (.string v)) ad ws v A n c K m d cs ks := by
  have hs := set_grown wr (w0.heap.size + 2) 0 (.string v)
  have hK := own_lt h.ko
  have hC := own_lt h.co
  have hB := h.sz
  have k1 : ∀ g, g < wr.heap.size → g ≠ w0.heap.size + 2 → (wr.setCell ⟨w0.heap.size + 2, 0, none⟩ (.string v)).heap[g]? = wr.heap[g]? := fun g hl hne => hs.block g hl (fun e => hne (by injection e))
  exact ⟨Lay.rd_keep (fun b hb hl => k1 _ hl (by omega)) h.ws, by simpa using h.t.set_ 0 (.string v), LCO_own_to h.co (fun k hk => k1 k (hC k hk).2 (by have := (hC k hk).1; omega)), LK_own_to h.ko (fun k hk => k1 k (hK k hk).2 (by have := (hK k hk).1; omega)), h.ap, blk_same h.r (k1 _ (by omega) (by omega)), h.q.grown hs (by omega) (fun k e => by injection e with e; omega), by rw [World.size_setCell]; exact hB⟩
theorem RdS.aside (h : RdS w0 wr ad ws nm A n c K m d cs ks) {g : Nat} (hg : wr.grownBy w' (some g)) (h3 : w0.heap.size + 3 ≤ g) (hA : (Value.slice A n c).ownBlock ≠ some g) (hK : (Value.slice K m d).ownBlock ≠ some g) : RdS w0 w' ad ws nm A n c K m d cs ks := by
  have k1 : ∀ b, b < wr.heap.size → b ≠ g → w'.heap[b]? = wr.heap[b]? := fun b hl hne => hg.block b hl (fun e => hne (by injection e))
  have hB := h.sz
  exact ⟨Lay.rd_keep (fun b hb hl => k1 _ hl (by omega)) h.ws, blk_same h.t (k1 _ (by omega) (by omega)), LCO_own_to h.co (fun k hk => k1 k (own_lt h.co k hk).2 (fun e => hA (e ▸ hk))), LK_own_to h.ko (fun k hk => k1 k (own_lt h.ko k hk).2 (fun e => hK (e ▸ hk))), h.ap, blk_same h.r (k1 _ (by omega) (by omega)), h.q.grown hg (by omega) (fun k e => by injection e with e; omega), Nat.le_trans hB hg.size⟩
end
end Go.Proofs.YthgcdilkkldgjaaGreatDoor
/- What the reference's read keeps in memory while it reads. Conditions: none. -/
namespace Go.Proofs.YthgcdilkkldgjaaGreatDoor
open Go.RowKit
structure RfS (w0 wr : World) (ad : Option Addr) (nw : Nat) (ws : List ByteArray) (nm : ByteArray) (A : Option Addr) (n c : Nat) (K : Option Addr) (m d : Nat) (cs : List CO) (ks : List Int) : Prop where
  ws : LS.rd wr (fun b => b < w0.heap.size) ad nw ws
  t : Blk wr (w0.heap.size + 1) 41 #[.string nm, .slice A n c, .slice K m d]
  co : LCO.own 71 wr (w0.heap.size + 2) (fun _ => True) A n c cs
  ko : LK.own 3 wr (w0.heap.size + 2) (fun _ => True) K m d ks
  ap : ∀ k, (Value.slice A n c).ownBlock = some k → (Value.slice K m d).ownBlock ≠ some k
  r : Blk wr w0.heap.size 41 #[.string ⟨#[]⟩, .slice none 0 0, .slice none 0 0]
  q : Below w0.heap.size w0 wr
  sz : w0.heap.size + 2 ≤ wr.heap.size
section
variable {w0 wr w' : World} {ad : Option Addr} {nw : Nat} {ws : List ByteArray} {nm : ByteArray} {A : Option Addr} {n c : Nat} {K : Option Addr} {m d : Nat} {cs : List CO} {ks : List Int}
theorem RfS.below (h : RfS w0 wr ad nw ws nm A n c K m d cs ks) (q : Below wr.heap.size wr w') : RfS w0 w' ad nw ws nm A n c K m d cs ks :=
  ⟨Lay.rd_below h.ws q, h.t.ca q, Lay.own_below h.co q, Lay.own_below h.ko q, h.ap, h.r.ca q, bl_ca h.q q, Nat.le_trans h.sz q.size⟩
theorem RfS.keyed (h : RfS w0 wr ad nw ws nm A n c K m d cs ks) {K2 : Option Addr} {m2 d2 : Nat} {ks2 : List Int} {w2 : World} (ho : LK.own 3 w2 (w0.heap.size + 2) (fun _ => True) K2 m2 d2 ks2)
    (hg : wr.grownBy w2 (Value.slice K m d).ownBlock) (hat : (Value.slice K2 m2 d2).ownBlock = (Value.slice K m d).ownBlock ∨ (Value.slice K2 m2 d2).ownBlock = some wr.heap.size) : RfS w0 (w2.setCell ⟨w0.heap.size + 1, 2, none⟩ (.slice K2 m2 d2)) ad nw ws nm A n c K2 m2 d2 cs ks2 := by
  have hs := set_grown w2 (w0.heap.size + 1) 2 (.slice K2 m2 d2)
  have hK := own_lt h.ko
  have hC := own_lt h.co
  have hB := h.sz
  have hz := hg.size
  have low : ∀ g, g < w0.heap.size + 2 → (Value.slice K m d).ownBlock ≠ some g := fun g hl e => by have := (hK g e).1; omega
  have k1 : ∀ g, g < w0.heap.size + 2 → g ≠ w0.heap.size + 1 → (w2.setCell ⟨w0.heap.size + 1, 2, none⟩ (.slice K2 m2 d2)).heap[g]? = wr.heap[g]? := fun g hl hne =>
    (hs.block g (by omega) (fun e => hne (by injection e))).trans (hg.block g (by omega) (fun e => low g hl e.symm))
  have ht2 : Blk w2 (w0.heap.size + 1) 41 #[.string nm, .slice A n c, .slice K m d] := h.t.grown hg (fun e => low _ (by omega) e.symm)
  refine ⟨Lay.rd_keep (fun b hb hl => ?_) h.ws, by simpa using ht2.set_ 2 (.slice K2 m2 d2), LCO_own_to h.co (fun k hk => ?_), LK_own_to ho (fun k hk => ?_), fun k hk e => ?_, blk_same h.r (k1 _ (by omega) (by omega)), ?_, by rw [World.size_setCell]; omega⟩
  · exact k1 b (by omega) (by omega)
  · have := hC k hk
    exact (hs.block k (by omega) (fun e => by injection e with e; omega)).trans (hg.block k this.2 (fun e => h.ap k hk e.symm))
  · have := own_lt ho k hk
    exact hs.block k this.2 (fun e => by injection e with e; omega)
  · rcases hat with hat | hat
    · rw [hat] at e; exact h.ap k hk e
    · rw [hat] at e
      injection e with e
      have := (hC k hk).2
      omega
  · exact (h.q.grown hg (by omega) (fun k e => by have := (hK k e).1; omega)).grown hs (by omega) (fun k e => by injection e with e; omega)
theorem RfS.coled (h : RfS w0 wr ad nw ws nm A n c K m d cs ks) {A2 : Option Addr} {n2 c2 : Nat} {cs2 : List CO} {w2 : World} (ho : LCO.own 71 w2 (w0.heap.size + 2) (fun _ => True) A2 n2 c2 cs2)
    (hg : wr.grownBy w2 (Value.slice A n c).ownBlock) (hat : (Value.slice A2 n2 c2).ownBlock = (Value.slice A n c).ownBlock ∨ (Value.slice A2 n2 c2).ownBlock = some wr.heap.size) : RfS w0 (w2.setCell ⟨w0.heap.size + 1, 1, none⟩ (.slice A2 n2 c2)) ad nw ws nm A2 n2 c2 K m d cs2 ks := by
  have hs := set_grown w2 (w0.heap.size + 1) 1 (.slice A2 n2 c2)
  have hK := own_lt h.ko
  have hC := own_lt h.co
  have hB := h.sz
  have hz := hg.size
  have low : ∀ g, g < w0.heap.size + 2 → (Value.slice A n c).ownBlock ≠ some g := fun g hl e => by have := (hC g e).1; omega
  have k1 : ∀ g, g < w0.heap.size + 2 → g ≠ w0.heap.size + 1 → (w2.setCell ⟨w0.heap.size + 1, 1, none⟩ (.slice A2 n2 c2)).heap[g]? = wr.heap[g]? := fun g hl hne =>
    (hs.block g (by omega) (fun e => hne (by injection e))).trans (hg.block g (by omega) (fun e => low g hl e.symm))
  have ht2 : Blk w2 (w0.heap.size + 1) 41 #[.string nm, .slice A n c, .slice K m d] := h.t.grown hg (fun e => low _ (by omega) e.symm)
  refine ⟨Lay.rd_keep (fun b hb hl => ?_) h.ws, by simpa using ht2.set_ 1 (.slice A2 n2 c2), LCO_own_to ho (fun k hk => ?_), LK_own_to h.ko (fun k hk => ?_), fun k hk e => ?_, blk_same h.r (k1 _ (by omega) (by omega)), ?_, by rw [World.size_setCell]; omega⟩
  · exact k1 b (by omega) (by omega)
  · have := own_lt ho k hk
    exact hs.block k this.2 (fun e => by injection e with e; omega)
  · have := hK k hk
    exact (hs.block k (by omega) (fun e => by injection e with e; omega)).trans (hg.block k this.2 (fun e => h.ap k e.symm hk))
  · rcases hat with hat | hat
    · rw [hat] at hk; exact h.ap k hk e
    · rw [hat] at hk
      injection hk with hk
      have := (hK k e).2
      omega
  · exact (h.q.grown hg (by omega) (fun k e => by have := (hC k e).1; omega)).grown hs (by omega) (fun k e => by injection e with e; omega)
theorem RfS.named (h : RfS w0 wr ad nw ws nm A n c K m d cs ks) (v : ByteArray) : RfS w0 (wr.setCell ⟨w0.heap.size + 1, 0, none⟩ (.string v)) ad nw ws v A n c K m d cs ks := by
  have hs := set_grown wr (w0.heap.size + 1) 0 (.string v)
  have hK := own_lt h.ko
  have hC := own_lt h.co
  have hB := h.sz
  have k1 : ∀ g, g < wr.heap.size → g ≠ w0.heap.size + 1 → (wr.setCell ⟨w0.heap.size + 1, 0, none⟩ (.string v)).heap[g]? = wr.heap[g]? := fun g hl hne => hs.block g hl (fun e => hne (by injection e))
  exact ⟨Lay.rd_keep (fun b hb hl => k1 _ hl (by omega)) h.ws, by simpa using h.t.set_ 0 (.string v), LCO_own_to h.co (fun k hk => k1 k (hC k hk).2 (by have := (hC k hk).1; omega)), LK_own_to h.ko (fun k hk => k1 k (hK k hk).2 (by have := (hK k hk).1; omega)), h.ap, blk_same h.r (k1 _ (by omega) (by omega)), h.q.grown hs (by omega) (fun k e => by injection e with e; omega), by rw [World.size_setCell]; exact hB⟩
theorem RfS.aside (h : RfS w0 wr ad nw ws nm A n c K m d cs ks) {g : Nat} (hg : wr.grownBy w' (some g)) (h3 : w0.heap.size + 2 ≤ g) (hA : (Value.slice A n c).ownBlock ≠ some g) (hK : (Value.slice K m d).ownBlock ≠ some g) : RfS w0 w' ad nw ws nm A n c K m d cs ks := by
  have k1 : ∀ b, b < wr.heap.size → b ≠ g → w'.heap[b]? = wr.heap[b]? := fun b hl hne => hg.block b hl (fun e => hne (by injection e))
  have hB := h.sz
  exact ⟨Lay.rd_keep (fun b hb hl => k1 _ hl (by omega)) h.ws, blk_same h.t (k1 _ (by omega) (by omega)), LCO_own_to h.co (fun k hk => k1 k (own_lt h.co k hk).2 (fun e => hA (e ▸ hk))), LK_own_to h.ko (fun k hk => k1 k (own_lt h.ko k hk).2 (fun e => hK (e ▸ hk))), h.ap, blk_same h.r (k1 _ (by omega) (by omega)), h.q.grown hg (by omega) (fun k e => by injection e with e; omega), Nat.le_trans hB hg.size⟩
theorem RfS.reads (h : RfS w0 wr ad nw ws nm A n c K m d cs ks) : LCO.rd wr AllB A n cs ∧ LK.rd wr AllB K m ks :=
  ⟨Lay.own_rd2 h.co (fun _ _ => trivial) (fun _ _ _ => trivial), Lay.own_rd2 h.ko (fun _ _ => trivial) (fun _ _ _ => trivial)⟩
theorem RfS.stored (h : RfS w0 wr ad nw ws nm A n c K m d cs ks) (hg : wr.grownBy w' (some w0.heap.size)) : LCO.rd w' (fun b => w0.heap.size ≤ b) A n cs ∧ LK.rd w' (fun b => w0.heap.size ≤ b) K m ks ∧ n ≤ c ∧ c ≤ 9223372036854775807 ∧ m ≤ d ∧ d ≤ 9223372036854775807 ∧ Below w0.heap.size w0 w' := by
  have k1 : ∀ b, b < wr.heap.size → b ≠ w0.heap.size → w'.heap[b]? = wr.heap[b]? := fun b hl hne => hg.block b hl (fun e => hne (Option.some.inj e))
  have hz := h.sz
  have hC := Lay.own_caps h.co
  have hK := Lay.own_caps h.ko
  have hco : LCO.own 71 w' (w0.heap.size + 2) (fun _ => True) A n c cs := LCO_own_to h.co (fun k hk => k1 k (own_lt h.co k hk).2 (by have := (own_lt h.co k hk).1; omega))
  have hko : LK.own 3 w' (w0.heap.size + 2) (fun _ => True) K m d ks := LK_own_to h.ko (fun k hk => k1 k (own_lt h.ko k hk).2 (by have := (own_lt h.ko k hk).1; omega))
  exact ⟨Lay.own_rd2 (LCO_own_to (G' := fun _ => False) hco (fun _ _ => rfl)) (fun b hb => by have := (own_lt h.co b hb).1; omega) (fun _ h9 _ => h9.elim), Lay.own_rd2 (LK_own_to (G' := fun _ => False) hko (fun _ _ => rfl)) (fun b hb => by have := (own_lt h.ko b hb).1; omega) (fun _ h9 _ => h9.elim), hC.1, hC.2, hK.1, hK.2, h.q.grown hg (by omega) (fun k e => by injection e with e; omega)⟩
end
end Go.Proofs.YthgcdilkkldgjaaGreatDoor
