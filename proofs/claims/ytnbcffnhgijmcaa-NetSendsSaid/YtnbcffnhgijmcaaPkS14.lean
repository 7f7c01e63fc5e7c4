/- What NetSends keeps from round to round: plain lists. Conditions: none. -/
import Derived.Test.YtnbcffnhgijmcaaPkS13
import Derived.Maps.OwnSet
import Derived.Maps.Views
namespace Go.Proofs.Ytnbcffnhgijmcaa
/-- how many bytes are other ones -/
def othN (a b : List UInt8) : Nat := (max a.length b.length - min a.length b.length) + ((a.zip b).filter fun p => p.1 != p.2).length
theorem othN_self (a : List UInt8) : othN a a = 0 := by
  unfold othN
  rw [Nat.max_self, Nat.min_self, Nat.sub_self, Nat.zero_add, List.length_eq_zero_iff, List.filter_eq_nil_iff]
  intro p hp
  induction a with
  | nil => simp at hp
  | cons x l ih =>
    rw [List.zip_cons_cons] at hp
    rcases List.mem_cons.1 hp with rfl | hp
    · simp
    · exact ih hp
theorem othN_cons (x y : UInt8) (a b : List UInt8) : othN (x :: a) (y :: b) = othN a b + if x != y then 1 else 0 := by
  unfold othN
  rw [List.zip_cons_cons, List.filter_cons]
  simp only [List.length_cons]
  split <;> simp [*] <;> omega
theorem othN_zero : ∀ {a b : List UInt8}, othN a b = 0 → a = b
  | [], [], _ => rfl
  | [], y :: b, h => by simp [othN] at h
  | x :: a, [], h => by simp [othN] at h
  | x :: a, y :: b, h => by
    rw [othN_cons] at h
    have h1 : (x != y) = false := by
      cases hb : (x != y)
      · rfl
      · rw [hb] at h; simp at h
    rw [h1] at h
    have h3 : a = b := othN_zero (by simpa using h)
    rw [show x = y from by simpa using h1, h3]
theorem othN_set : ∀ {a : List UInt8} {k : Nat} {v : UInt8}, k < a.length → v ≠ a.getD k 0 → othN (a.set k v) a = 1
  | [], _, _, h, _ => by simp at h
  | x :: a, 0, v, _, h => by
    rw [List.set_cons_zero, othN_cons, othN_self]
    have : (v != x) = true := by simpa using h
    rw [this]; rfl
  | x :: a, k + 1, v, hk, h => by
    rw [List.set_cons_succ, othN_cons, othN_set (by simpa using hk) (by simpa using h)]
    simp
structure Inv (s : Int) (ps : List PC) (sent : List OpC) (S : Int → Bool) : Prop where
  chk : chkB s ps = true
  len : s = sent.length
  row : ∀ p ∈ ps, ∃ o, sent[(p.num - 1).toNat]? = some o ∧ p.frm = o.frm ∧ p.to = o.to ∧ othN p.bs (bytesO o) = if p.sp then 1 else 0
  over : ∀ x, 1 ≤ x → x ≤ s → S x = !hasB ps x
  fresh : ∀ x, s < x → S x = false
theorem inv_start : Inv 0 [] [] (fun _ => false) := ⟨rfl, rfl, by simp, fun x h1 h2 => by omega, fun _ _ => rfl⟩
theorem hasB_iff {ps : List PC} {x : Int} : hasB ps x = true ↔ ∃ p ∈ ps, p.num = x := by
  unfold hasB
  simp [List.any_eq_true]
theorem hasB_no {ps : List PC} {x : Int} : hasB ps x = false ↔ ∀ p ∈ ps, p.num ≠ x := by
  unfold hasB
  simp [List.any_eq_false]
theorem Inv.rng {s : Int} {ps : List PC} {sent : List OpC} {S : Int → Bool} (h : Inv s ps sent S) {x : Int} (hx : hasB ps x = true) : 1 ≤ x ∧ x ≤ s ∧ S x = false := by
  obtain ⟨p, hp, rfl⟩ := hasB_iff.1 hx
  have f := (chk_iff.1 h.chk).2.2.1 p hp
  have h1 : 1 ≤ p.num := f.pos
  refine ⟨h1, f.le, ?_⟩
  rw [h.over _ h1 f.le, hx]; rfl
theorem Inv.sent_at {s : Int} {ps : List PC} {sent : List OpC} {S : Int → Bool} (h : Inv s ps sent S) {x : Int} (hx : hasB ps x = true) : ∃ o, sent[(x - 1).toNat]? = some o ∧ (getP ps x).frm = o.frm ∧ (getP ps x).to = o.to ∧ othN (getP ps x).bs (bytesO o) = (if (getP ps x).sp then 1 else 0) ∧ (getP ps x).num = x := by
  obtain ⟨hm, hn⟩ := getP_mem hx
  obtain ⟨o, h1, h2, h3, h4⟩ := h.row _ hm
  rw [hn] at h1
  exact ⟨o, h1, h2, h3, h4, hn⟩
theorem Inv.add {s : Int} {ps : List PC} {sent : List OpC} {S : Int → Bool} (h : Inv s ps sent S) (q : PC) (o : OpC) (hf : fullB s ps = false) (hp : pairB q.frm q.to = true) (hl : q.bs.length ≤ 60000) (hfu : 0 < q.bs.length ∨ q.sp = false)
    (h1 : q.frm = o.frm) (h2 : q.to = o.to) (h3 : othN q.bs (bytesO o) = if q.sp then 1 else 0) : Inv (s + 1) (ps ++ [added s q]) (sent ++ [o]) S := by
  obtain ⟨c1, c2, c3, c4⟩ := chk_iff.1 h.chk
  have hs0 : 0 ≤ s := by rw [h.len]; omega
  have hf2 : ps.length < 20000 ∧ s ≠ 1099511627776 := by
    unfold fullB at hf
    simp at hf
    omega
  have hnew : ∀ {x : Int}, x ≠ s + 1 → hasB (ps ++ [added s q]) x = hasB ps x := fun hx => by
    unfold hasB
    rw [List.any_append]
    simp [added, Ne.symm hx]
  refine ⟨chk_iff.2 ⟨by omega, by simp; omega, fun p hp' => ?_, ?_⟩, by rw [List.length_append, h.len]; simp, fun p hp' => ?_, fun x x1 x2 => ?_, fun x hx => h.fresh x (by omega)⟩
  · rcases List.mem_append.1 hp' with hp' | hp'
    · have f := c3 p hp'
      exact ⟨f.pos, by have := f.le; omega, f.pair, f.len, f.full⟩
    · rw [List.mem_singleton.1 hp']
      exact ⟨by show 0 < s + 1; omega, Int.le_refl _, hp, hl, hfu⟩
  · unfold Asc
    rw [List.pairwise_append]
    refine ⟨c4, by simp, fun a ha b hb => ?_⟩
    rw [List.mem_singleton.1 hb]
    have := (c3 a ha).le
    show a.num < s + 1
    omega
  · rcases List.mem_append.1 hp' with hp' | hp'
    · obtain ⟨o', e1, e2⟩ := h.row p hp'
      exact ⟨o', by rw [List.getElem?_append_left (List.getElem?_eq_some_iff.1 e1).1]; exact e1, e2⟩
    · rw [List.mem_singleton.1 hp']
      refine ⟨o, ?_, h1, h2, h3⟩
      show (sent ++ [o])[(s + 1 - 1).toNat]? = some o
      rw [show (s + 1 - 1).toNat = sent.length from by rw [h.len]; omega]
      simp
  · by_cases hx : x = s + 1
    · subst hx
      rw [h.fresh _ (by omega)]
      have : hasB (ps ++ [added s q]) (s + 1) = true := hasB_iff.2 ⟨added s q, by simp, rfl⟩
      rw [this]; rfl
    · rw [hnew hx]
      exact h.over x x1 (by omega)
theorem Inv.less {s : Int} {ps : List PC} {sent : List OpC} {S S' : Int → Bool} (h : Inv s ps sent S) (f : PC → Bool) (hS : ∀ x, 1 ≤ x → x ≤ s → S' x = !hasB (ps.filter f) x) (hfr : ∀ x, s < x → S' x = false) : Inv s (ps.filter f) sent S' := by
  obtain ⟨c1, c2, c3, c4⟩ := chk_iff.1 h.chk
  exact ⟨chk_iff.2 ⟨c1, Nat.le_trans (List.length_filter_le _ _) c2, fun p hp => c3 p (List.mem_filter.1 hp).1, c4.filter _⟩, h.len, fun p hp => h.row p (List.mem_filter.1 hp).1, hS, hfr⟩
theorem hasB_filter {ps : List PC} {f : PC → Bool} {x : Int} : hasB (ps.filter f) x = ps.any fun p => f p && decide (p.num = x) := by
  unfold hasB
  rw [List.any_filter]
theorem Inv.come {s : Int} {ps : List PC} {sent : List OpC} {S : Int → Bool} (h : Inv s ps sent S) {x : Int} (hx : hasB ps x = true) : Inv s (ps.take (ixP ps x) ++ ps.drop (ixP ps x + 1)) sent (fun y => if y = x then true else S y) := by
  obtain ⟨c1, c2, c3, c4⟩ := chk_iff.1 h.chk
  rw [without c4 hx]
  have hr := h.rng hx
  refine h.less _ (fun y y1 y2 => ?_) (fun y hy => ?_)
  · rw [hasB_filter]
    by_cases e : y = x
    · subst e
      rw [if_pos rfl]
      symm
      rw [Bool.not_eq_true', List.any_eq_false]
      intro p _
      simp
    · rw [if_neg e, h.over y y1 y2]
      congr 1
      unfold hasB
      rw [Bool.eq_iff_iff, List.any_eq_true, List.any_eq_true]
      refine ⟨fun ⟨p, hp, hn⟩ => ⟨p, hp, ?_⟩, fun ⟨p, hp, hn⟩ => ⟨p, hp, ?_⟩⟩
      · simp at hn ⊢; exact ⟨by omega, hn⟩
      · simp at hn ⊢; exact hn.2
  · rw [if_neg (by omega)]; exact h.fresh y hy
/-- the numbers of what was sent so -/
def markS (f t : Int) (sent : List OpC) (S : Int → Bool) (k : Nat) (y : Int) : Bool := S y || (decide (1 ≤ y) && decide (y ≤ k) && match sent[(y - 1).toNat]? with | some o => o.frm == f && o.to == t | none => false)
theorem markS_zero (f t : Int) (sent : List OpC) (S : Int → Bool) : markS f t sent S 0 = S := by
  funext y
  unfold markS
  by_cases h : 1 ≤ y
  · rw [show decide (y ≤ ((0 : Nat) : Int)) = false from by simp; omega]; simp
  · rw [show decide (1 ≤ y) = false from by simpa using h]; simp
theorem markS_succ {f t : Int} {sent : List OpC} {S : Int → Bool} {k : Nat} {o : OpC} (ho : sent[k]? = some o) (y : Int) : markS f t sent S (k + 1) y = if (o.frm == f && o.to == t) && decide (y = (k : Int) + 1) then true else markS f t sent S k y := by
  unfold markS
  by_cases h : y = (k : Int) + 1
  · subst h
    rw [show (((k : Int) + 1) - 1).toNat = k from by omega, ho]
    have h1 : decide (1 ≤ (k : Int) + 1) = true := by simp; omega
    have h2 : decide ((k : Int) + 1 ≤ ((k + 1 : Nat) : Int)) = true := by simp
    have h3 : decide ((k : Int) + 1 ≤ (k : Int)) = false := by simp; omega
    rw [h1, h2, h3]
    dsimp only
    cases (o.frm == f && o.to == t) <;> simp
  · rw [show decide (y = (k : Int) + 1) = false from by simpa using h, Bool.and_false, if_neg (by decide)]
    congr 1
    congr 1
    congr 1
    rw [decide_eq_decide]
    omega
theorem Inv.drop {s : Int} {ps : List PC} {sent : List OpC} {S : Int → Bool} (h : Inv s ps sent S) (f t : Int) : Inv s (ps.filter fun p => !dropB f t p) sent (markS f t sent S sent.length) := by
  obtain ⟨c1, c2, c3, c4⟩ := chk_iff.1 h.chk
  refine h.less _ (fun y y1 y2 => ?_) (fun y hy => ?_)
  · have hlt : (y - 1).toNat < sent.length := by have := h.len; omega
    unfold markS
    rw [h.over y y1 y2, hasB_filter, show decide (1 ≤ y) = true from by simpa using y1, show decide (y ≤ (sent.length : Int)) = true from by have := h.len; simp; omega, List.getElem?_eq_getElem hlt]
    dsimp only
    rw [Bool.true_and, Bool.true_and]
    cases hh : hasB ps y
    · have : (ps.any fun p => !dropB f t p && decide (p.num = y)) = false := by
        rw [List.any_eq_false]
        intro p hp
        have := hasB_no.1 hh p hp
        simp [this]
      rw [this]; rfl
    · obtain ⟨o, e1, e2, e3, _, e5⟩ := h.sent_at hh
      rw [List.getElem?_eq_getElem hlt] at e1
      injection e1 with e1
      obtain ⟨hm, _⟩ := getP_mem hh
      have key : (ps.any fun p => !dropB f t p && decide (p.num = y)) = !dropB f t (getP ps y) := by
        cases hd : dropB f t (getP ps y)
        · exact List.any_eq_true.2 ⟨_, hm, by rw [hd, e5]; simp⟩
        · rw [Bool.not_true, List.any_eq_false]
          intro p hp
          by_cases hn : p.num = y
          · rw [c4.uniq hp hm (by rw [hn, e5]), hd]; simp
          · simp [hn]
      rw [key, e1]
      unfold dropB
      rw [← e2, ← e3]
      simp
  · unfold markS
    rw [h.fresh y hy, show decide (y ≤ (sent.length : Int)) = false from by have := h.len; simp; omega]
    simp
theorem Inv.spoil {s : Int} {ps : List PC} {sent : List OpC} {S : Int → Bool} (h : Inv s ps sent S) {x : Int} (hx : hasB ps x = true) {a : Nat} {y : UInt8} (hsp : (getP ps x).sp = false) (ha : a < (getP ps x).bs.length) (hy : y ≠ 0) : Inv s (ps.set (ixP ps x) (spoiled (getP ps x) a y)) sent S := by
  obtain ⟨c1, c2, c3, c4⟩ := chk_iff.1 h.chk
  obtain ⟨o, e1, e2, e3, e4, e5⟩ := h.sent_at hx
  obtain ⟨hm, _⟩ := getP_mem hx
  have ff := c3 _ hm
  have hnum : (ps.set (ixP ps x) (spoiled (getP ps x) a y)).map PC.num = ps.map PC.num := by
    rw [List.map_set]
    have hl : ixP ps x < ps.length := List.findIdx_lt_length_of_exists (by obtain ⟨p, hp, hn⟩ := hasB_iff.1 hx; exact ⟨p, hp, by simpa using hn⟩)
    have hg : ps[ixP ps x]? = some (getP ps x) := by unfold getP; rw [List.getElem?_eq_getElem hl]; rfl
    have hg2 : (ps.map PC.num)[ixP ps x]? = some (getP ps x).num := by rw [List.getElem?_map, hg]; rfl
    obtain ⟨hl2, hv⟩ := List.getElem?_eq_some_iff.1 hg2
    show (ps.map PC.num).set (ixP ps x) (getP ps x).num = _
    rw [← hv]
    exact List.set_getElem_self hl2
  have hhas : ∀ z, hasB (ps.set (ixP ps x) (spoiled (getP ps x) a y)) z = hasB ps z := fun z => by
    have e : ∀ l : List PC, hasB l z = (l.map PC.num).any fun n => decide (n = z) := fun l => by unfold hasB; rw [List.any_map]; rfl
    rw [e, e, hnum]
  have hmem : ∀ p ∈ ps.set (ixP ps x) (spoiled (getP ps x) a y), p ∈ ps ∨ p = spoiled (getP ps x) a y := fun p hp => List.mem_or_eq_of_mem_set hp
  refine ⟨chk_iff.2 ⟨c1, by rw [List.length_set]; exact c2, fun p hp => ?_, ?_⟩, h.len, fun p hp => ?_, fun z z1 z2 => by rw [hhas]; exact h.over z z1 z2, h.fresh⟩
  · rcases hmem p hp with hp | rfl
    · exact c3 p hp
    · exact ⟨ff.pos, ff.le, ff.pair, by show ((getP ps x).bs.set _ _).length ≤ 60000; rw [List.length_set]; exact ff.len, .inl (by show 0 < ((getP ps x).bs.set _ _).length; rw [List.length_set]; omega)⟩
  · unfold Asc at c4 ⊢
    have e : ∀ l : List PC, l.Pairwise (fun p q => p.num < q.num) ↔ (l.map PC.num).Pairwise (· < ·) := fun l => by rw [List.pairwise_map]
    rw [e, hnum, ← e]
    exact c4
  · rcases hmem p hp with hp | rfl
    · exact h.row p hp
    · refine ⟨o, by show sent[((getP ps x).num - 1).toNat]? = _; rw [e5]; exact e1, e2, e3, ?_⟩
      rw [hsp, if_neg (by decide)] at e4
      have hb := othN_zero e4
      show othN ((getP ps x).bs.set a ((getP ps x).bs.getD a 0 ^^^ y)) (bytesO o) = 1
      rw [← hb]
      refine othN_set ha (fun e => hy ?_)
      have h2 := congrArg (fun z => (getP ps x).bs.getD a 0 ^^^ z) e
      simp only [← UInt8.xor_assoc, UInt8.xor_self, UInt8.zero_xor] at h2
      exact h2
/-- how many are left -/
def leftN (S : Int → Bool) : Nat → Nat
  | 0 => 0
  | k + 1 => leftN S k + if S ((k : Int) + 1) then 0 else 1
theorem left_iff {ps : List PC} (h : Asc ps) (h0 : ∀ p ∈ ps, 0 < p.num) {S : Int → Bool} : ∀ (n : Nat), (∀ x, 1 ≤ x → x ≤ (n : Int) → S x = !hasB ps x) → leftN S n = (ps.filter fun p => decide (p.num ≤ (n : Int))).length
  | 0, _ => by
    show 0 = _
    rw [List.filter_eq_nil_iff.2 (fun p hp => by have := h0 p hp; simp; omega)]
    rfl
  | n + 1, hS => by
    show leftN S n + _ = _
    rw [left_iff h h0 n (fun x x1 x2 => hS x x1 (by omega)), hS _ (by omega) (by omega)]
    clear hS
    induction ps with
    | nil => simp [hasB]
    | cons p l ih =>
      obtain ⟨h1, h2⟩ := List.pairwise_cons.1 h
      have ihl := ih h2 (fun q hq => h0 q (by simp [hq]))
      by_cases hp : p.num = (n : Int) + 1
      · have e1 : hasB (p :: l) ((n : Int) + 1) = true := hasB_iff.2 ⟨p, by simp, hp⟩
        have e2 : hasB l ((n : Int) + 1) = false := hasB_no.2 (fun q hq => by have := h1 q hq; omega)
        rw [e2] at ihl
        rw [e1, List.filter_cons_of_neg (by simp; omega), List.filter_cons_of_pos (by simp; omega), List.length_cons, ← ihl]
        simp
      · have e1 : hasB (p :: l) ((n : Int) + 1) = hasB l ((n : Int) + 1) := by simp [hasB, hp]
        rw [e1]
        by_cases hp2 : p.num ≤ (n : Int)
        · rw [List.filter_cons_of_pos (by simpa using hp2), List.filter_cons_of_pos (by simp; omega), List.length_cons, List.length_cons, ← ihl]
          omega
        · rw [List.filter_cons_of_neg (by simpa using hp2), List.filter_cons_of_neg (by simp; omega), ← ihl]
theorem Inv.left {s : Int} {ps : List PC} {sent : List OpC} {S : Int → Bool} (h : Inv s ps sent S) : leftN S sent.length = ps.length := by
  obtain ⟨c1, c2, c3, c4⟩ := chk_iff.1 h.chk
  rw [left_iff c4 (fun p hp => (c3 p hp).pos) sent.length (fun x x1 x2 => h.over x x1 (by rw [h.len]; exact x2)), List.filter_eq_self.2 (fun p hp => by have := (c3 p hp).le; have := h.len; simp; omega)]
theorem step_send {o : OpC} {s : Int} {ps : List PC} {sent : List OpC} {S : Int → Bool} (h : Inv s ps sent S) (k : kindI o < 3) (he : (runT o s ps).e = 0) : Inv (runT o s ps).s (runT o s ps).ps (sent ++ [o]) S ∧ (runT o s ps).num = s + 1 := by
  rw [show runT o s ps = _ from by unfold runT; rw [if_pos k]] at he ⊢
  have he : sendE s ps o.frm o.to (bytesO o) = 0 := he
  dsimp only
  rw [show sendR s ps o.frm o.to (bytesO o) = _ from by unfold sendR; rw [if_pos he]]
  unfold sendE addE at he
  rw [h.chk, if_pos rfl] at he
  refine ⟨?_, rfl⟩
  cases hp : pairB o.frm o.to
  · rw [hp] at he; simp at he
  · rw [hp, if_pos rfl] at he
    by_cases hl : 60000 < (bytesO o).length
    · rw [if_pos hl] at he; simp at he
    · rw [if_neg hl] at he
      cases hf : fullB s ps
      · exact h.add (newP o.frm o.to (bytesO o)) o hf hp (by show (bytesO o).length ≤ 60000; omega) (.inr rfl) rfl rfl (by show othN (bytesO o) (bytesO o) = 0; exact othN_self _)
      · rw [hf] at he; simp at he
theorem step_twin {o : OpC} {s : Int} {ps : List PC} {sent : List OpC} {S : Int → Bool} (h : Inv s ps sent S) (k : kindI o = 6) (he : (runT o s ps).e = 0) : hasB ps (numI o ps) = true ∧ ∃ o2, sent[(numI o ps - 1).toNat]? = some o2 ∧ Inv (runT o s ps).s (runT o s ps).ps (sent ++ [o2]) S ∧ (runT o s ps).num = s + 1 := by
  rw [show runT o s ps = _ from by unfold runT; rw [k, if_neg (by decide), if_neg (by decide), if_neg (by decide), if_neg (by decide), if_pos rfl]] at he ⊢
  have he : twinE s ps (numI o ps) = 0 := he
  dsimp only
  rw [show twinR s ps (numI o ps) = _ from by unfold twinR; rw [if_pos he]]
  unfold twinE addE at he
  rw [h.chk, if_pos rfl] at he
  cases hh : hasB ps (numI o ps)
  · rw [hh] at he; simp at he
  · rw [hh, if_pos rfl] at he
    obtain ⟨o2, e1, e2, e3, e4, e5⟩ := h.sent_at hh
    have ff := (chk_iff.1 h.chk).2.2.1 _ (getP_mem hh).1
    cases hf : fullB s ps
    · exact ⟨rfl, o2, e1, h.add (getP ps (numI o ps)) o2 hf ff.pair ff.len ff.full e2 e3 e4, rfl⟩
    · rw [hf] at he; simp at he
theorem come_zero {s : Int} {ps : List PC} {x : Int} (hc : chkB s ps = true) (he : comeE s ps x = 0) : hasB ps x = true ∧ comeR s ps x = (s, ps.take (ixP ps x) ++ ps.drop (ixP ps x + 1)) ∧ comeP s ps x = getP ps x := by
  refine ⟨?_, by unfold comeR; rw [if_pos he], by unfold comeP; rw [if_pos he]⟩
  unfold comeE at he
  rw [hc, if_pos rfl] at he
  cases hh : hasB ps x
  · rw [hh] at he; simp at he
  · rfl
theorem step_come {o : OpC} {s : Int} {ps : List PC} {sent : List OpC} {S : Int → Bool} (h : Inv s ps sent S) (k : kindI o = 3) (he : (runT o s ps).e = 0) : hasB ps (numI o ps) = true ∧ Inv (runT o s ps).s (runT o s ps).ps sent (fun y => if y = numI o ps then true else S y) ∧ (runT o s ps).p = getP ps (numI o ps) := by
  rw [show runT o s ps = _ from by unfold runT; rw [k, if_neg (by decide), if_pos rfl]] at he ⊢
  obtain ⟨h1, h2, h3⟩ := come_zero h.chk he
  dsimp only
  rw [h2, h3]
  exact ⟨h1, h.come h1, rfl⟩
theorem step_lose {o : OpC} {s : Int} {ps : List PC} {sent : List OpC} {S : Int → Bool} (h : Inv s ps sent S) (k : kindI o = 4) (he : (runT o s ps).e = 0) : hasB ps (numI o ps) = true ∧ Inv (runT o s ps).s (runT o s ps).ps sent (fun y => if y = numI o ps then true else S y) := by
  rw [show runT o s ps = _ from by unfold runT; rw [k, if_neg (by decide), if_neg (by decide), if_pos rfl]] at he ⊢
  obtain ⟨h1, h2, h3⟩ := come_zero h.chk he
  dsimp only
  rw [h2]
  exact ⟨h1, h.come h1⟩
theorem step_drop {o : OpC} {s : Int} {ps : List PC} {sent : List OpC} {S : Int → Bool} (h : Inv s ps sent S) (k : kindI o = 5) (he : (runT o s ps).e = 0) : Inv (runT o s ps).s (runT o s ps).ps sent (markS o.frm o.to sent S sent.length) := by
  rw [show runT o s ps = _ from by unfold runT; rw [k, if_neg (by decide), if_neg (by decide), if_neg (by decide), if_pos rfl]] at he ⊢
  have he : dropE s ps o.frm o.to = 0 := he
  dsimp only
  rw [show dropR s ps o.frm o.to = _ from by unfold dropR; rw [if_pos he]]
  exact h.drop _ _
theorem step_spoil {o : OpC} {s : Int} {ps : List PC} {sent : List OpC} {S : Int → Bool} (h : Inv s ps sent S) (k : kindI o = 7) (he : (runT o s ps).e = 0) : Inv (runT o s ps).s (runT o s ps).ps sent S := by
  rw [show runT o s ps = _ from by unfold runT; rw [k, if_neg (by decide), if_neg (by decide), if_neg (by decide), if_neg (by decide), if_neg (by decide)]] at he ⊢
  have he : spoilE s ps (numI o ps) o.place o.by_ = 0 := he
  dsimp only
  rw [show spoilR s ps (numI o ps) o.place o.by_ = _ from by unfold spoilR; rw [if_pos he]]
  unfold spoilE at he
  rw [h.chk, if_pos rfl] at he
  cases hh : hasB ps (numI o ps)
  · rw [hh] at he; simp at he
  · rw [hh, if_pos rfl] at he
    cases hs : (getP ps (numI o ps)).sp
    · rw [hs, if_neg (by decide)] at he
      split at he
      · simp at he
      · rename_i hn
        simp only [not_or] at hn
        exact h.spoil hh hs (by omega) hn.2.2
    · rw [hs] at he; simp at he
end Go.Proofs.Ytnbcffnhgijmcaa
/- Arguments that are nets and ops. Conditions: none. -/
namespace Go.Proofs.Ytnbcffnhgijmcaa
open Go.ChangeShapes Go.WideShapes Go.ChangeAt Go.RowKit Go.Deep
theorem Try.own : ownKnob Try.prog.godebug = none := by kernel_rfl
theorem Try.laidOut : laidOutB Try.prog = true := by kernel_rfl
/-- an argument that is a struct -/
theorem open_agg {P : Program} {t : TypeId} {fs : Array Field} (ht : P.underlying t = some (.struct fs)) {α : Type} {L : Lay α} {G : α → Prop} (ho : Opens P t L G) {H : Type} {enc : TypeId × Value → H} {W : World} {r : Reach} {base : Nat} {v : Value} {d : DataW H} {p : List MemPlace}
    (hv : Value.okWide P W r base t v) (h : DataW.Trod enc P W 0 (fun _ => true) true t v d p) : ∃ a cs, v = .agg cs ∧ L.rep W AllB a cs.toList ∧ G a := by
  obtain ⟨cs, rfl, _⟩ := okWide_struct ht hv
  obtain ⟨fuel, hf⟩ := h
  obtain ⟨a, ha, g⟩ := ho.2 enc W fuel _ _ hf
  exact ⟨a, cs, rfl, by simpa [Value.cells] using ha, g⟩
def LNt : Lay (Int × List PC) where
  size := 2
  rep := fun w F a cs => ∃ A n c, cs = [.int .u64 a.1, .slice A n c] ∧ n ≤ c ∧ c ≤ 9223372036854775807 ∧ LP.rd w F A n a.2
  len := fun h => by obtain ⟨A, n, c, rfl, _⟩ := h; rfl
  one := fun h u hu => by obtain ⟨A, n, c, rfl, _⟩ := h; simp at hu; rcases hu with rfl | rfl <;> rfl
  keep := fun hk h => by obtain ⟨A, n, c, e, h1, h2, hr⟩ := h; exact ⟨A, n, c, e, h1, h2, Lay.rd_keep hk hr⟩
  weak := fun hk h => by obtain ⟨A, n, c, e, h1, h2, hr⟩ := h; exact ⟨A, n, c, e, h1, h2, Lay.rd_weak hk hr⟩
theorem opens_net : Opens Try.prog 26 LNt (fun a => U64r a.1 ∧ ∀ p ∈ a.2, p.rng) :=
  opens_as (opens_struct Try.underlying26 (by kernel_rfl)
    (opensAt_cons 0 23 (by kernel_rfl) (opens_int Try.underlying23 (by kernel_rfl))
      (opensAt_last 1 24 (by kernel_rfl) opens_parcels))) rfl
    (fun w a cs h g => by
      obtain ⟨s, ps⟩ := a
      obtain ⟨_, _, rfl, rfl, A, n, c, rfl, h1, h2, hr⟩ := h
      exact ⟨(s, ps), ⟨A, n, c, rfl, h1, h2, hr⟩, wf_u64 g.1, g.2⟩)
def LO : Lay OpC where
  size := 8
  rep := fun w F o cs => ∃ A n c, cs = [.int .i64 o.kind, .int .i64 o.frm, .int .i64 o.to, .int .i64 o.at_, .int .i64 o.place, .bool o.oth, vb o.by_, .slice A n c] ∧ n ≤ c ∧ c ≤ 9223372036854775807 ∧ LB.rd w F A n o.bs
  len := fun h => by obtain ⟨A, n, c, rfl, _⟩ := h; rfl
  one := fun h u hu => by obtain ⟨A, n, c, rfl, _⟩ := h; simp at hu; rcases hu with rfl | rfl | rfl | rfl | rfl | rfl | rfl | rfl <;> rfl
  keep := fun hk h => by obtain ⟨A, n, c, e, h1, h2, hr⟩ := h; exact ⟨A, n, c, e, h1, h2, Lay.rd_keep hk hr⟩
  weak := fun hk h => by obtain ⟨A, n, c, e, h1, h2, hr⟩ := h; exact ⟨A, n, c, e, h1, h2, Lay.rd_weak hk hr⟩
set_option maxRecDepth 100000 in
theorem opens_op : Opens Try.prog 49 LO (fun _ => True) :=
  opens_as (opens_struct Try.underlying49 (by kernel_rfl)
    (opensAt_cons 0 3 (by kernel_rfl) (opens_int Try.underlying3 (by kernel_rfl))
    (opensAt_cons 1 3 (by kernel_rfl) (opens_int Try.underlying3 (by kernel_rfl))
    (opensAt_cons 2 3 (by kernel_rfl) (opens_int Try.underlying3 (by kernel_rfl))
    (opensAt_cons 3 3 (by kernel_rfl) (opens_int Try.underlying3 (by kernel_rfl))
    (opensAt_cons 4 3 (by kernel_rfl) (opens_int Try.underlying3 (by kernel_rfl))
    (opensAt_cons 5 4 (by kernel_rfl) (opens_bool Try.underlying4 (by kernel_rfl))
    (opensAt_cons 6 5 (by kernel_rfl) opens_byte
      (opensAt_last 7 27 (by kernel_rfl) opens_bytes))))))))) rfl
    (fun w a cs h g => by
      obtain ⟨k, f, t, a, p, ot, y, bs⟩ := a
      obtain ⟨_, _, rfl, rfl, _, _, rfl, rfl, _, _, rfl, rfl, _, _, rfl, rfl, _, _, rfl, rfl, _, _, rfl, rfl, _, _, rfl, hy, A, n, c, rfl, h1, h2, hr⟩ := h
      have hy' : _ = [vb y] := hy
      subst hy'
      exact ⟨⟨k, f, t, a, p, ot, y, bs⟩, ⟨A, n, c, rfl, h1, h2, hr⟩, trivial⟩)
set_option maxRecDepth 100000 in
theorem open_net {H : Type} {enc : TypeId × Value → H} {W : World} {r : Reach} {base : Nat} {v : Value} {d : DataW H} {p : List MemPlace} (hv : Value.okWide Try.prog W r base 26 v) (h : DataW.Trod enc Try.prog W 0 (fun _ => true) true 26 v d p) :
    ∃ sent A m c ps, v = .agg #[.int .u64 sent, .slice A m c] ∧ LP.rd W AllB A m ps ∧ m ≤ 9223372036854775807 ∧ 0 ≤ sent := by
  obtain ⟨⟨s, ps⟩, cs, rfl, ⟨A, n, c, e, h1, h2, hr⟩, g, _⟩ := open_agg Try.underlying26 opens_net hv h
  exact ⟨s, A, n, c, ps, by rw [show cs = #[.int .u64 s, .slice A n c] from by apply Array.ext'; exact e], hr, Nat.le_trans h1 h2, g.1⟩
set_option maxRecDepth 100000 in
theorem open_op {H : Type} {enc : TypeId × Value → H} {W : World} {r : Reach} {base : Nat} {v : Value} {d : DataW H} {p : List MemPlace} (hv : Value.okWide Try.prog W r base 49 v) (h : DataW.Trod enc Try.prog W 0 (fun _ => true) true 49 v d p) :
    ∃ (o : OpC) (A : Option Addr) (n c : Nat), v = .agg (o.cells A n c) ∧ RdB W A n o.bs ∧ n ≤ c ∧ c ≤ 9223372036854775807 := by
  obtain ⟨o, cs, rfl, ⟨A, n, c, e, h1, h2, hr⟩, _⟩ := open_agg Try.underlying49 opens_op hv h
  exact ⟨o, A, n, c, by rw [show cs = o.cells A n c from by apply Array.ext'; exact e], LB_rd hr, h1, h2⟩
end Go.Proofs.Ytnbcffnhgijmcaa
/- What NetSends asks: rows of ops, a set of numbers, how many bytes are other ones. Conditions: none. -/
namespace Go.Proofs.Ytnbcffnhgijmcaa
open Go.ChangeShapes Go.WideShapes Go.ChangeAt Go.RowKit Go.Deep
theorem opens_ops : Opens Try.prog 47 LO.slice (fun xs => ∀ a ∈ xs, True) :=
  opens_slice Try.underlying47 (by kernel_rfl) (by decide) opens_op
theorem open_ops {H : Type} {enc : TypeId × Value → H} {W : World} {A : Option Addr} {n c : Nat} {d : DataW H} {p : List MemPlace} (h : DataW.Trod enc Try.prog W 0 (fun _ => true) true 47 (.slice A n c) d p) :
    ∃ xs, LO.rd W AllB A n xs ∧ (∀ a ∈ xs, True) ∧ n ≤ c ∧ c ≤ 9223372036854775807 := open_arg opens_ops h
/-- an op lies at this place -/
structure SO (w : World) (F : Nat → Prop) (p : Addr) (o : OpC) (B : Option Addr) (n c : Nat) : Prop where
  c0 : w.cell? p = some (.int .i64 o.kind)
  c1 : w.cell? ⟨p.block, p.off + 1, none⟩ = some (.int .i64 o.frm)
  c2 : w.cell? ⟨p.block, p.off + 2, none⟩ = some (.int .i64 o.to)
  c3 : w.cell? ⟨p.block, p.off + 3, none⟩ = some (.int .i64 o.at_)
  c4 : w.cell? ⟨p.block, p.off + 4, none⟩ = some (.int .i64 o.place)
  c5 : w.cell? ⟨p.block, p.off + 5, none⟩ = some (.bool o.oth)
  c6 : w.cell? ⟨p.block, p.off + 6, none⟩ = some (.int .u8 (o.by_.toNat : Int))
  c7 : w.cell? ⟨p.block, p.off + 7, none⟩ = some (.slice B n c)
  nc : n ≤ c
  cm : c ≤ 9223372036854775807
  bs : LB.rd w F B n o.bs
theorem LO_at {w : World} {F : Nat → Prop} {A : Option Addr} {n i : Nat} {xs : List OpC} (h : LO.rd w F A n xs) (hi : i < n) : ∃ ad o B k c, A = some ad ∧ xs[i]? = some o ∧ SO w F (ad.add (i * 8)) o B k c := by
  obtain ⟨ad, o, cs, e, hx, hb, _, ⟨B, k, c, rfl, h1, h2, hr⟩, hcl⟩ := Lay.rd_at h hi
  refine ⟨ad, o, B, k, c, e, hx, ⟨hcl 0 _ rfl, ?_, ?_, ?_, ?_, ?_, ?_, ?_, h1, h2, hr⟩⟩
  · rw [← addr_more _ _ 1 (by omega)]; exact hcl 1 _ rfl
  · rw [← addr_more _ _ 2 (by omega)]; exact hcl 2 _ rfl
  · rw [← addr_more _ _ 3 (by omega)]; exact hcl 3 _ rfl
  · rw [← addr_more _ _ 4 (by omega)]; exact hcl 4 _ rfl
  · rw [← addr_more _ _ 5 (by omega)]; exact hcl 5 _ rfl
  · rw [← addr_more _ _ 6 (by omega)]; exact hcl 6 _ rfl
  · rw [← addr_more _ _ 7 (by omega)]; exact hcl 7 _ rfl
theorem ownsRow_same {w w' : World} {B s n : Nat} {e : TypeId} {v : Value} {xs : List Value} (h : w.ownsRow B e s v n xs) (hk : ∀ k, v.ownBlock = some k → w'.heap[k]? = w.heap[k]?) : w'.ownsRow B e s v n xs := by
  refine ⟨h.1, ?_⟩
  rcases h.2 with h2 | ⟨g, cap, cur, rfl, hg, hh, r⟩
  · exact .inl h2
  · exact .inr ⟨g, cap, cur, rfl, hg, (hk g (by simp [Value.ownBlock])).trans hh, r⟩
theorem opInfo : (Try.prog.info? 49).map (fun i => (i.zero, i.size, i.bytes)) = some (some (.agg #[.int .i64 0, .int .i64 0, .int .i64 0, .int .i64 0, .int .i64 0, .bool false, .int .u8 0, .slice none 0 0]), 8, 72) := by kernel_rfl
/-- the row of what was sent -/
def SentR (w : World) (B : Nat) (G : Nat → Prop) (A : Option Addr) (n c : Nat) (xs : List OpC) : Prop := LO.own 49 w B G A n c xs
theorem SentR.same {w w' : World} {B : Nat} {G : Nat → Prop} {A : Option Addr} {n c : Nat} {xs : List OpC} (h : SentR w B G A n c xs) (hk : ∀ k, (Value.slice A n c).ownBlock = some k → w'.heap[k]? = w.heap[k]?) (hG : ∀ b, G b → b < w.heap.size → w'.heap[b]? = w.heap[b]?) : SentR w' B G A n c xs := by
  obtain ⟨hl, cs, hr, ho⟩ := h
  exact ⟨hl, cs, Lay.reps_keep (fun b hb hlt => hG b hb.1 hlt) hr, ownsRow_same ho hk⟩
theorem SentR.below {w w' : World} {B : Nat} {G : Nat → Prop} {A : Option Addr} {n c : Nat} {xs : List OpC} (h : SentR w B G A n c xs) (q : Below w.heap.size w w') : SentR w' B G A n c xs := Lay.own_below h q
theorem SentR.base {w : World} {B : Nat} {G : Nat → Prop} {A : Option Addr} {n c : Nat} {xs : List OpC} (h : SentR w B G A n c xs) : ∀ k, (Value.slice A n c).ownBlock = some k → B ≤ k ∧ k < w.heap.size := by
  obtain ⟨hl, cs, hr, ho⟩ := h
  exact own_base' ho
theorem SentR.grown {w w' : World} {B r : Nat} {G : Nat → Prop} {A : Option Addr} {n c : Nat} {xs : List OpC} (h : SentR w B G A n c xs) (hg : w.grownBy w' (some r)) (hr : r < B) (hG : ∀ b, G b → b ≠ r) : SentR w' B G A n c xs :=
  h.same (fun k hk => hg.block k (h.base k hk).2 (fun e => by injection e with e; have := (h.base k hk).1; omega)) (fun b hb hl => hg.block b hl (fun e => hG b hb (by injection e with e)))
theorem SentR.rd {w : World} {B : Nat} {G : Nat → Prop} {A : Option Addr} {n c : Nat} {xs : List OpC} (h : SentR w B G A n c xs) : LO.rd w AllB A n xs := Lay.own_rd h (fun _ _ _ => trivial) (fun _ _ _ => trivial)
theorem SentR.len {w : World} {B : Nat} {G : Nat → Prop} {A : Option Addr} {n c : Nat} {xs : List OpC} (h : SentR w B G A n c xs) : xs.length = n := h.1
theorem SentR.at_ {w : World} {B i : Nat} {G : Nat → Prop} {A : Option Addr} {n c : Nat} {xs : List OpC} (h : SentR w B G A n c xs) (hi : i < n) :
    ∃ ad o B' k c', A = some ad ∧ xs[i]? = some o ∧ SO w (fun b => G b ∧ (Value.slice A n c).ownBlock ≠ some b) (ad.add (i * 8)) o B' k c' := by
  obtain ⟨hl, cs, hr, ho⟩ := h
  obtain ⟨ad, e, hb, hc⟩ := (Reads.of_own ho).2 (by omega)
  have hx : xs[i]? = some xs[i] := List.getElem?_eq_getElem (by omega)
  obtain ⟨ds, ⟨B', k, c', rfl, h1, h2, hrd⟩, hat⟩ := Lay.reps_at hr hx
  have cl := fun j u hu => hc (i * 8 + j) u (hat j u hu)
  refine ⟨ad, xs[i], B', k, c', e, hx, ⟨cl 0 _ rfl, ?_, ?_, ?_, ?_, ?_, ?_, ?_, h1, h2, hrd⟩⟩
  · rw [← addr_more _ _ 1 (by omega)]; exact cl 1 _ rfl
  · rw [← addr_more _ _ 2 (by omega)]; exact cl 2 _ rfl
  · rw [← addr_more _ _ 3 (by omega)]; exact cl 3 _ rfl
  · rw [← addr_more _ _ 4 (by omega)]; exact cl 4 _ rfl
  · rw [← addr_more _ _ 5 (by omega)]; exact cl 5 _ rfl
  · rw [← addr_more _ _ 6 (by omega)]; exact cl 6 _ rfl
  · rw [← addr_more _ _ 7 (by omega)]; exact cl 7 _ rfl
theorem wf_u64s {x : Int} (h0 : 0 ≤ x) (h1 : x ≤ 9223372036854775807) : (Lit.int .u64 x).wf = true := by
  simp [Lit.wf, IntKind.min, IntKind.max, IntKind.signed, IntKind.bits]
  omega
theorem wpList_appO {ops : Array Oper} {rest : List Oper} {o : Oper} {a : Act} {w : World} {Q : Exit → Act → World → Prop} (hgd : o.guard = none) (s x : Operand)
    (ho : o.op = .call { callee := .builtin .append, args := #[s, x], argTypes := #[47, 47] })
    (B : Nat) (G : Nat → Prop) (A : Option Addr) (n c : Nat) (xs : List OpC) (g c2 : Nat) (t' : TypeId) (vs : Array Value) (y : OpC)
    (hs : a.eval s = .slice A n c) (hx : a.eval x = .slice (some ⟨g, 0, none⟩) 1 c2) (hown : SentR w B G A n c xs) (hr : Blk w g t' vs)
    (hy : LO.rep w (fun b => G b ∧ (Value.slice A n c).ownBlock ≠ some b) y vs.toList) (hG : ∀ b, G b → b < w.heap.size) (hn : n + 1 ≤ 100000) (hB : B ≤ w.heap.size) (n' : Nat) (hn' : n' = n + 1)
    (h : ∀ A' c' w', SentR w' B G A' n' c' (xs ++ [y]) → w.grownBy w' (Value.slice A n c).ownBlock → ((Value.slice A' n' c').ownBlock = (Value.slice A n c).ownBlock ∨ (Value.slice A' n' c').ownBlock = some w.heap.size) → wpList Try.prog ops Q rest (a.put o.dst (.slice A' n' c')) w') : wpList Try.prog ops Q (o :: rest) a w := by
  subst hn'
  obtain ⟨hl, cs, hreps, hrow⟩ := hown
  obtain ⟨i0, hi0, hz0, hz1, hz2⟩ := info_parts opInfo
  refine wpList_append_any w hgd s x 47 ho B 49 i0 _ 8 72 Try.underlying47 hi0 hz0 hz1 hz2 rfl (by omega) (.slice A n c) n cs hs hrow w.heap.size (some ⟨g, 0, none⟩) 1 c2 vs.toList hx (reads_blk hr rfl (by rw [LO.len hy]; rfl)) (LO.one hy) (by simp only [maxLen]; omega) (by omega) hB ?_
  intro v' w' hown' hg hat
  obtain ⟨A', c', rfl⟩ := own_form' hown'
  have hne : ∀ b, G b → (Value.slice A n c).ownBlock ≠ some b → (Value.slice A' (n + 1) c').ownBlock ≠ some b := fun b hb hne => by
    rcases hat with hat | hat
    · rw [hat]; exact hne
    · rw [hat]; intro e; injection e with e; have := hG b hb; omega
  have hkeep : ∀ b, (G b ∧ (Value.slice A n c).ownBlock ≠ some b) → b < w.heap.size → w'.heap[b]? = w.heap[b]? := fun b hb hlt => hg.block b hlt (fun e => hb.2 e.symm)
  exact h A' c' w' ⟨by rw [List.length_append, hl]; rfl, cs ++ vs.toList, Lay.reps_append (Lay.reps_weak (fun b hb _ => ⟨hb.1, hne b hb.1 hb.2⟩) (Lay.reps_keep hkeep hreps)) (Lay.reps_single (LO.weak (fun b hb _ => ⟨hb.1, hne b hb.1 hb.2⟩) (LO.keep hkeep hy))), hown'⟩ hg hat
/-- block b is the call's own set of numbers -/
def OvM (w : World) (b : Nat) (S : Int → Bool) (n : Nat) : Prop := ∃ D : DataW Unit, w.ownsMap Try.prog 23 (plainElem Try.prog 4) b n D ∧ ∀ x, (Lit.int .u64 x).wf = true → D.atKey (.int .u64 x) (.lit (.bool false)) = .lit (.bool (S x))
theorem u64_keyed : Maps.Keyed Try.prog 23 := Maps.int_keyed Try.underlying23
theorem OvM.made (w : World) : OvM (w.alloc (.map #[] 0)) w.heap.size (fun _ => false) 0 := ⟨.map [], World.ownsMap_made _ _ _ _, fun _ _ => rfl⟩
theorem OvM.mono {w : World} {b n n' : Nat} {S : Int → Bool} (h : OvM w b S n) (hn : n ≤ n') : OvM w b S n' := by
  obtain ⟨D, h1, h2⟩ := h
  exact ⟨D, h1.mono hn, h2⟩
theorem OvM.lt {w : World} {b n : Nat} {S : Int → Bool} (h : OvM w b S n) : b < w.heap.size := by
  obtain ⟨D, h1, h2⟩ := h
  exact h1.lt
theorem OvM.same {w w' : World} {b n : Nat} {S : Int → Bool} (h : OvM w b S n) (hk : w'.heap[b]? = w.heap[b]?) : OvM w' b S n := by
  obtain ⟨D, ⟨es, clock, hb, r⟩, h2⟩ := h
  exact ⟨D, ⟨es, clock, hk.trans hb, r⟩, h2⟩
theorem OvM.below {w w' : World} {b n : Nat} {S : Int → Bool} (h : OvM w b S n) (q : Below w.heap.size w w') : OvM w' b S n := h.same (q.block b h.lt)
theorem OvM.grown {w w' : World} {b n : Nat} {r : Option Nat} {S : Int → Bool} (h : OvM w b S n) (hg : w.grownBy w' r) (hr : r ≠ some b) : OvM w' b S n := h.same (hg.block b h.lt (fun e => hr e.symm))
theorem zero_bool (w : World) : (zeroValue 4).run Try.prog w = .ok (.bool false) w := by kernel_rfl
theorem OvM.look {w : World} {b n : Nat} {S : Int → Bool} (h : OvM w b S n) {x : Int} (hx : (Lit.int .u64 x).wf = true) : (Instr.lookup 55 (.map (some b)) (.int .u64 x) false).run Try.prog w = .ok (.bool (S x)) w := by
  obtain ⟨D, h1, h2⟩ := h
  obtain ⟨v, ps, hrun, hv⟩ := h1.lookup u64_keyed Try.underlying55 (zero_bool w) (plainElem_bool Try.underlying4 false) (Maps.keyOf_int_mk Try.underlying23 hx)
  rw [h2 x hx] at hv
  rw [hrun]
  unfold plainElem at hv
  rw [show Try.prog.underlying 4 = _ from Try.underlying4] at hv
  cases v <;> simp at hv
  obtain ⟨rfl, _⟩ := hv
  rfl
theorem wpList_over {ops : Array Oper} {rest : List Oper} {o : Oper} {a : Act} {w : World} {Q : Exit → Act → World → Prop} (hg : o.guard = none) (m x v : Operand) (hop : o.op = Op.mapUpdate 55 m x v)
    (b n : Nat) (S : Int → Bool) (z : Int) (hm : a.eval m = .map (some b)) (hx : a.eval x = .int .u64 z) (hv : a.eval v = .bool true) (hown : OvM w b S n) (hn : n < maxLen) (hz : (Lit.int .u64 z).wf = true)
    (hK : ∀ w', OvM w' b (fun y => if y = z then true else S y) (n + 1) → w.grownBy w' (some b) → wpList Try.prog ops Q rest (a.put o.dst undef) w') : wpList Try.prog ops Q (o :: rest) a w := by
  obtain ⟨D, h1, h2⟩ := hown
  have hk := Maps.keyOf_int_mk (P := Try.prog) Try.underlying23 hz
  refine wpList_mapUpdate_own w hg m x v _ hop _ _ u64_keyed Try.underlying55 (plainElem Try.prog 4) b n D hm h1 hn _ _ _ hx hv hk (.lit (.bool true)) [] (plainElem_bool Try.underlying4 true) ?_
  intro w' h3 hg
  refine hK w' ⟨_, h3, fun y hy => ?_⟩ hg
  by_cases e : y = z
  · subst e
    rw [Maps.atKey_put_same h1.isMap (u64_keyed.key hk)]
    simp
  · rw [Maps.atKey_put_other (fun e' => e (by injection e'))]
    simp only [if_neg e]
    exact h2 y hy
theorem ov_eq {w : World} {b n : Nat} {S S' : Int → Bool} (h : OvM w b S n) (e : ∀ y, S' y = S y) : OvM w b S' n := by
  rw [show S' = S from funext e]
  exact h
theorem SeqN.move9 {ks : List Nat} {B : Nat → (Nat → Value) → World → Prop} {L : Array Bool} {m : Nat → Value} {w w' : World} {i : Nat} (h : (ks.all fun k => k != i) = true) (hB : ∀ j m, B j m w → B j m w') (hS : SeqN ks B L m w) : SeqN ks B (L.setIfInBounds i true) m w' := by
  have := SeqN.pass h L m w hS
  exact hB _ _ this
theorem SeqN.after19 {B : Nat → (Nat → Value) → World → Prop} {L : Array Bool} {m : Nat → Value} {w : World} {k : Nat} (hd : Dn L k = true) (hS : SeqN [k] B L m w) : B 1 m w := by
  unfold SeqN cntD cntD at hS
  rw [hd] at hS
  exact hS
theorem RdB.byte {w : World} {A : Option Addr} {n k : Nat} {bs : List UInt8} (h : RdB w A n bs) (hk : k < n) : ∃ ad x, A = some ad ∧ bs[k]? = some x ∧ w.cell? (ad.add k) = some (.int .u8 (x.toNat : Int)) := by
  obtain ⟨ad, hA, _, hc⟩ := RdB.cellAt h k hk
  have hkl : k < bs.length := by rw [h.len]; exact hk
  refine ⟨ad, bs[k], hA, List.getElem?_eq_getElem hkl, ?_⟩
  rw [hc, List.getD_eq_getElem?_getD, List.getElem?_eq_getElem hkl]
  rfl
set_option maxRecDepth 100000 in
set_option maxHeartbeats 4000000 in
theorem other_any (A : Option Addr) (n c : Nat) (xs : List UInt8) (B : Option Addr) (m d : Nat) (ys : List UInt8) (w : World) (ha : RdB w A n xs) (hb : RdB w B m ys) (hn : n ≤ 1000000) (hm : m ≤ 1000000) :
    Calls Try.prog 28 #[.slice A n c, .slice B m d] w fun e w' => e = .returned (.int .i64 (othN xs ys : Nat)) ∧ Below w.heap.size w w' := by
  obtain ⟨k1, hk1⟩ : ∃ k1 : Nat, k1 = min n m := ⟨_, rfl⟩
  obtain ⟨k2, hk2⟩ : ∃ k2 : Nat, k2 = max n m := ⟨_, rfl⟩
  have hmin : min (n : Int) (m : Int) = (k1 : Int) := by omega
  have hmax : max (n : Int) (m : Int) = (k2 : Int) := by omega
  have l1 : k1 ≤ n := by omega
  have l2 : k1 ≤ m := by omega
  have l3 : k1 ≤ k2 := by omega
  have l4 : k2 ≤ 1000000 := by omega
  have hlx := ha.len
  have hly := hb.len
  have HO := Lib.hid (show othN xs ys = (k2 - k1) + (((xs.zip ys).take k1).filter fun p => p.1 != p.2).length from by
    unfold othN
    rw [hlx, hly, ← hk1, ← hk2, List.take_of_length_le (by rw [List.length_zip, hlx, hly]; omega)])
  have HA := Lib.hid ha
  have HB := Lib.hid hb
  have HLX := Lib.hid hlx
  have HLY := Lib.hid hly
  have hk3 : (0 : Int) ≤ (k1 : Int) := by omega
  clear ha hb hk1 hk2 hlx hly
  go_enter Try.func28, Try.ntmps28
  go_wp2
  go_loopg [5, 23] k1 (fun gz s a wr => ∃ k t : Nat, k + gz = k1 ∧ a = .int .i64 k ∧ t = (k2 - k1) + (((xs.zip ys).take k).filter fun p => p.1 != p.2).length ∧ t ≤ (k2 - k1) + k ∧ s = .int .i64 t ∧ Below w.heap.size w wr)
  case atStart => exact ⟨0, k2 - k1, by omega, rfl, by simp, by omega, by rw [show ((k2 - k1 : Nat) : Int) = (k2 : Int) - (k1 : Int) from by omega], Below.refl _ _⟩
  case round =>
    obtain ⟨k, t, hkg, rfl, ht, htk, rfl, hbw⟩ := hrel
    have HT := Lib.hid ht
    have HBW := Lib.hid hbw
    clear ht
    by_cases hk : k < k1
    · have hk2 : (k : Int) < (k1 : Int) := by omega
      obtain ⟨ad, x, rfl, hx, cx⟩ := RdB.byte (HA.out.below hbw) (show k < n by omega)
      obtain ⟨ae, y, rfl, hy, cy⟩ := RdB.byte (HB.out.below hbw) (show k < m by omega)
      have hz : (((xs.zip ys).take (k + 1)).filter fun p => p.1 != p.2).length = (((xs.zip ys).take k).filter fun p => p.1 != p.2).length + if x != y then 1 else 0 := by
        have hzz : (xs.zip ys)[k]? = some (x, y) := by rw [List.getElem?_zip_eq_some]; exact ⟨hx, hy⟩
        rw [List.take_add_one, hzz, Option.toList_some, List.filter_append, List.length_append, List.filter_cons]
        split <;> rfl
      have HZ := Lib.hid hz
      have hb1 : (k : Int) < (n : Int) := by omega
      have hb2 : (k : Int) < (m : Int) := by omega
      have hb3 : k < n := by omega
      have hb4 : k < m := by omega
      clear hx hy hz hbw
      by_cases hxy : x = y
      · subst hxy
        have hne : ((x.toNat : Int) != (x.toNat : Int)) = false := by simp
        go_wp2_with fail
        go_quiet (fail)
        go_wp2
        go_roundg (gk - 1)
        · exact ⟨k + 1, t, by omega, by go_num, by rw [HZ.out, HT.out]; simp, by omega, rfl, bl_dr HBW.out _⟩
        · omega
      · have hne : ((x.toNat : Int) != (y.toNat : Int)) = true := by
          simp only [bne_iff_ne]
          intro e
          exact hxy (UInt8.toNat_inj.1 (by omega))
        have HXY := Lib.hid hxy
        clear hxy
        go_wp2_with fail
        go_quiet (fail)
        go_wp2
        go_roundg (gk - 1)
        · exact ⟨k + 1, t + 1, by omega, by go_num, by rw [HZ.out, HT.out]; simp [HXY.out]; omega, by omega, by go_num, bl_dr HBW.out _⟩
        · omega
    · obtain rfl : k = k1 := by omega
      have hk2 : (k : Int) ≤ (k : Int) := by omega
      go_wp2
      go_ret
      exact ⟨by rw [HO.out, ← HT.out]; rfl, HBW.out⟩
end Go.Proofs.Ytnbcffnhgijmcaa
