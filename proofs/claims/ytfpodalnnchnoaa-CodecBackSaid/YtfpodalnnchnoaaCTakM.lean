/- The plain law of CodecTaken: the bytes of what was taken are those that were taken. -/
import Derived.Test.YtfpodalnnchnoaaCTake
namespace Go.Proofs.Ytfpodalnnchnoaa
open Go.RowKit
theorem beB_snoc (b v : Nat) (c : UInt8) : beB (b + 1) (v * 256 + c.toNat) = beB b v ++ [c] := by
  have hc : c.toNat < 256 := c.toNat_lt
  unfold beB
  rw [List.range_succ, List.map_append]
  congr 1
  · refine List.map_congr_left fun k hk => ?_
    have hk := List.mem_range.1 hk
    obtain ⟨d, rfl⟩ : ∃ d, b = k + 1 + d := ⟨b - (k + 1), by omega⟩
    have e1 : k + 1 + d + 1 - 1 - k = d + 1 := by omega
    have e2 : k + 1 + d - 1 - k = d := by omega
    rw [e1, e2, Nat.pow_succ, Nat.mul_comm (256 ^ d) 256, ← Nat.div_div_eq_div_mul]
    congr 2
    omega
  · simp
theorem beB_val : ∀ (n : Nat) (l : List UInt8), l.length = n → beB n (val l) = l
  | 0, l, h => by
    obtain rfl : l = [] := List.length_eq_zero_iff.1 h
    rfl
  | n + 1, l, h => by
    have hne : l ≠ [] := by intro e; subst e; simp at h
    have hd := List.dropLast_concat_getLast hne
    have hl : l.dropLast.length = n := by simp [h]
    rw [← hd, val_snoc, beB_snoc, beB_val n _ hl]
theorem beB_wv {n : Nat} {l : List UInt8} (h : l.length = n) (hn : n ≤ 8) : beB n (wv l) = l := by
  have h1 := val_lt l
  rw [h] at h1
  have : 256 ^ n ≤ 256 ^ 8 := Nat.pow_le_pow_right (by decide) hn
  unfold wv
  rw [Nat.mod_eq_of_lt (by unfold M64; omega)]
  exact beB_val n l h
theorem wv_one {l : List UInt8} (h : l.length = 1) : [UInt8.ofNat (wv l)] = l := by
  have := beB_wv h (by decide)
  simpa [beB] using this
def Fine (s : St) : Prop := s.bad = false ∧ s.why = 0
structure Got (bs : List UInt8) (s t : St) (X : List UInt8) : Prop where
  p : t.p = s.p + X.length
  eq : (bs.drop s.p).take X.length = X
theorem Got.nil (bs : List UInt8) (s : St) : Got bs s s [] := ⟨rfl, rfl⟩
theorem Got.cat {bs : List UInt8} {s t r : St} {X Y : List UInt8} (h : Got bs s t X) (g : Got bs t r Y) : Got bs s r (X ++ Y) := by
  refine ⟨by rw [g.p, h.p, List.length_append]; omega, ?_⟩
  rw [List.length_append, List.take_add, h.eq, List.drop_drop, ← h.p, g.eq]
theorem fine_okS {s : St} : okS s = true ↔ Fine s := by unfold okS Fine; simp
theorem fine_nd {s : St} {b : Bool} (h : Fine (nd s b)) : Fine s ∧ b = true := by
  obtain ⟨h1, h2⟩ := h
  unfold nd at h1 h2
  simp at h1 h2
  exact ⟨⟨h1.1, h2⟩, h1.2 h2⟩
theorem got_nd {bs : List UInt8} {s t : St} {X : List UInt8} {b : Bool} (h : Got bs s t X) : Got bs s (nd t b) X := ⟨h.p, h.eq⟩
theorem fine_rd {bs : List UInt8} {s : St} {k : Nat} (h : Fine (rdS bs s (k : Int))) : Fine s ∧ (rdO bs s.p s.why (k : Int)).length = k ∧ Got bs s (rdS bs s (k : Int)) (rdO bs s.p s.why (k : Int)) := by
  obtain ⟨h1, h2⟩ := h
  have h1 : s.bad = false := h1
  have h2 : rdW bs s.p s.why k = 0 := h2
  unfold rdW at h2
  have hw : s.why = 0 := by
    by_cases hw : s.why = 0
    · exact hw
    · rw [if_neg hw] at h2; exact h2
  rw [if_pos hw, if_neg (by omega)] at h2
  have hle : ¬ ((bs.length : Int) - s.p < k) := by
    intro hc
    rw [if_pos hc] at h2
    omega
  have hc : s.why = 0 ∧ 0 ≤ (k : Int) ∧ (k : Int) ≤ (bs.length : Int) - s.p := ⟨hw, by omega, by omega⟩
  have hO : rdO bs s.p s.why k = (bs.drop s.p).take k := by unfold rdO; rw [if_pos hc]; simp
  have hl : ((bs.drop s.p).take k).length = k := by simp; omega
  refine ⟨⟨h1, hw⟩, by rw [hO, hl], ?_, ?_⟩
  · show rdP bs s.p s.why k = _
    unfold rdP
    rw [if_pos hc, hO, hl]
    simp
  · rw [hO, hl]
theorem u64_nat {x : Nat} (h : x < 18446744073709551616) : U64 (x : Int) = x := by
  unfold U64
  rw [IntKind.wrap_u64]
  omega
theorem u64_i64w {x : Nat} (h : x < 18446744073709551616) : U64 (i64w x) = x := by
  unfold U64 i64w
  rw [IntKind.wrap_u64, IntKind.wrap_i64]
  omega
structure GotV (bs : List UInt8) (s : St) (r : VV × St) : Prop where
  fine : Fine s
  ok : r.1.ok = true
  u : uOk r.1
  got : Got bs s r.2 (valB r.1)
theorem fin_got {bs : List UInt8} {s t : St} {v : VV} (h : Fine (finS v t).2) (hs : Fine t → Fine s ∧ uOk v ∧ (v.ok = true → Got bs s t (valB v))) : GotV bs s (finS v t) := by
  obtain ⟨h1, h2⟩ := fine_nd h
  obtain ⟨a, b, c⟩ := hs h1
  exact ⟨a, h2, b, got_nd (c h2)⟩
theorem sizeB {l : List UInt8} : (⟨l.toArray⟩ : ByteArray).size = l.length := rfl
theorem val_got (bs : List UInt8) (s : St) (h : Fine (valS bs s).2) : GotV bs s (valS bs s) := by
  have hk := kS_lt bs s
  have h1s : Fine (s1S bs s) → Fine s ∧ Got bs s (s1S bs s) [UInt8.ofNat (kS bs s)] ∧ kS bs s ≤ 4 := by
    intro h
    obtain ⟨h1, h2⟩ := fine_nd h
    obtain ⟨a, b, c⟩ := fine_rd (k := 1) h1
    refine ⟨a, ?_, by have := of_decide_eq_true h2; omega⟩
    have : [UInt8.ofNat (kS bs s)] = rdO bs s.p s.why 1 := wv_one b
    rw [this]
    exact got_nd c
  unfold valS at h ⊢
  split
  · rename_i hb
    rw [if_pos hb] at h
    have := fine_okS.2 h
    rw [this] at hb
    cases hb
  · rename_i hb
    rw [if_neg hb] at h
    obtain ⟨hs, g1, hk4⟩ := h1s (fine_okS.1 (by simpa using hb))
    split
    · rename_i hk1
      rw [if_pos hk1] at h
      rw [hk1] at g1
      refine fin_got h fun hf => ?_
      obtain ⟨a, b, c⟩ := fine_rd (k := 1) hf
      refine ⟨hs, ⟨Int.le_refl 0, (by decide : (0 : Int) < 18446744073709551616)⟩, fun _ => ?_⟩
      have e : valB ⟨1, (kS bs (s1S bs s) : Int), 0, ⟨#[]⟩⟩ = [UInt8.ofNat 1] ++ [UInt8.ofNat (kS bs (s1S bs s))] := by simp [valB]
      rw [e]
      refine g1.cat ?_
      have : [UInt8.ofNat (kS bs (s1S bs s))] = rdO bs (s1S bs s).p (s1S bs s).why 1 := wv_one b
      rw [this]
      exact c
    rename_i hk1
    rw [if_neg hk1] at h
    split
    · rename_i hk2
      rw [if_pos hk2] at h
      rw [hk2] at g1
      refine fin_got h fun hf => ?_
      obtain ⟨a, b, c⟩ := fine_rd (k := 8) hf
      refine ⟨hs, ⟨Int.le_refl 0, (by decide : (0 : Int) < 18446744073709551616)⟩, fun _ => ?_⟩
      have e : valB ⟨2, i64w (xS bs (s1S bs s)), 0, ⟨#[]⟩⟩ = [UInt8.ofNat 2] ++ beB 8 (xS bs (s1S bs s)) := by simp [valB, u64_i64w (xS_lt bs (s1S bs s))]
      rw [e]
      refine g1.cat ?_
      have : beB 8 (xS bs (s1S bs s)) = rdO bs (s1S bs s).p (s1S bs s).why 8 := beB_wv b (by decide)
      rw [this]
      exact c
    rename_i hk2
    rw [if_neg hk2] at h
    split
    · rename_i hk3
      rw [if_pos hk3] at h
      rw [hk3] at g1
      unfold txtS at h ⊢
      split
      · rename_i ht
        rw [if_pos ht] at h
        refine fin_got h fun hf => ?_
        obtain ⟨a, b, c⟩ := fine_rd (k := kS bs (s1S bs s)) hf
        obtain ⟨a1, b1⟩ := fine_nd a
        obtain ⟨a2, b2, c2⟩ := fine_rd (k := 1) a1
        refine ⟨hs, ⟨Int.le_refl 0, (by decide : (0 : Int) < 18446744073709551616)⟩, fun _ => ?_⟩
        have e : valB ⟨3, 0, 0, bS bs (tS bs (s1S bs s)) (kS bs (s1S bs s))⟩ = [UInt8.ofNat 3] ++ ([UInt8.ofNat (kS bs (s1S bs s))] ++ rdO bs (tS bs (s1S bs s)).p (tS bs (s1S bs s)).why (kS bs (s1S bs s) : Nat)) := by
          simp [valB, bS, sizeB, b]
        rw [e]
        refine g1.cat (Got.cat ?_ c)
        have : [UInt8.ofNat (kS bs (s1S bs s))] = rdO bs (s1S bs s).p (s1S bs s).why 1 := wv_one b2
        rw [this]
        exact got_nd c2
      · rename_i ht
        rw [if_neg ht] at h
        have := fine_okS.2 (fine_nd h).1
        exact absurd this ht
    rename_i hk3
    rw [if_neg hk3] at h
    split
    · rename_i hk4'
      rw [if_pos hk4'] at h
      rw [hk4'] at g1
      refine fin_got h fun hf => ?_
      obtain ⟨a, b, c⟩ := fine_rd (k := 8) hf
      obtain ⟨a1, b1, c1⟩ := fine_rd (k := 8) a
      have hx := xS_lt bs (rdS bs (s1S bs s) 8)
      refine ⟨hs, ⟨by show (0 : Int) ≤ ((xS bs (rdS bs (s1S bs s) 8) : Nat) : Int); omega, by show ((xS bs (rdS bs (s1S bs s) 8) : Nat) : Int) < 18446744073709551616; omega⟩, fun _ => ?_⟩
      have e : valB ⟨4, i64w (xS bs (s1S bs s)), xS bs (rdS bs (s1S bs s) 8), ⟨#[]⟩⟩ = [UInt8.ofNat 4] ++ (beB 8 (xS bs (s1S bs s)) ++ beB 8 (xS bs (rdS bs (s1S bs s) 8))) := by simp [valB, u64_i64w (xS_lt bs (s1S bs s)), u64_nat hx]
      rw [e]
      have e1 : beB 8 (xS bs (s1S bs s)) = rdO bs (s1S bs s).p (s1S bs s).why 8 := beB_wv b1 (by decide)
      have e2 : beB 8 (xS bs (rdS bs (s1S bs s) 8)) = rdO bs (rdS bs (s1S bs s) 8).p (rdS bs (s1S bs s) 8).why 8 := beB_wv b (by decide)
      rw [e1, e2]
      exact g1.cat (Got.cat c1 c)
    · rename_i hk4'
      rw [if_neg hk4'] at h
      have h0 : kS bs s = 0 := by omega
      rw [h0] at g1 h ⊢
      refine fin_got h fun hf => ?_
      refine ⟨hs, ⟨Int.le_refl 0, (by decide : (0 : Int) < 18446744073709551616)⟩, fun _ => ?_⟩
      have e : valB ⟨((0 : Nat) : Int), 0, 0, ⟨#[]⟩⟩ = [UInt8.ofNat 0] := by simp [valB]
      rw [e]
      exact g1
/-- so many are taken, each as it should be -/
theorem many_got {α : Type} (bs : List UInt8) (f : St → α × St) (E : α → List UInt8) (G : α → Prop) (hf : ∀ s, Fine (f s).2 → Fine s ∧ G (f s).1 ∧ Got bs s (f s).2 (E (f s).1)) :
    ∀ (n : Nat) (s : St), Fine (manyS f n s).2 → Fine s ∧ (manyS f n s).1.length = n ∧ (∀ x ∈ (manyS f n s).1, G x) ∧ Got bs s (manyS f n s).2 ((manyS f n s).1.flatMap E)
  | 0, s, h => ⟨h, rfl, by simp [manyS], Got.nil bs s⟩
  | n + 1, s, h => by
    unfold manyS at h ⊢
    by_cases ho : okS s = true
    · rw [if_pos ho] at h ⊢
      obtain ⟨a, b, c, d⟩ := many_got bs f E G hf n (f s).2 h
      obtain ⟨a1, b1, c1⟩ := hf s a
      refine ⟨a1, by simp [b], ?_, ?_⟩
      · intro x hx
        rcases List.mem_cons.1 hx with rfl | hx
        · exact b1
        · exact c x hx
      · show Got bs s _ (List.flatMap E ((f s).1 :: _))
        rw [List.flatMap_cons]
        exact c1.cat d
    · rw [if_neg ho] at h
      exact absurd (fine_okS.2 h) ho
structure GotR (bs : List UInt8) (s : St) (r : List VV × St) : Prop where
  fine : Fine s
  ok : rowE r.1 = 0
  u : ∀ v ∈ r.1, uOk v
  got : Got bs s r.2 (rowB r.1)
theorem row_got (bs : List UInt8) (s : St) (h : Fine (rowS bs s).2) : GotR bs s (rowS bs s) := by
  have hk := kS_lt bs s
  obtain ⟨a, b, c, d⟩ := many_got bs (valS bs) valB (fun v => v.ok = true ∧ uOk v) (fun s h => let g := val_got bs s h; ⟨g.fine, ⟨g.ok, g.u⟩, g.got⟩) (kS bs s) (r1S bs s) h
  obtain ⟨a1, b1⟩ := fine_nd a
  obtain ⟨a2, b2, c2⟩ := fine_rd (k := 1) a1
  have hle : kS bs s ≤ 16 := by have := of_decide_eq_true b1; omega
  have b' : (rowS bs s).1.length = kS bs s := b
  have hE : rowE (rowS bs s).1 = 0 := by
    unfold rowE
    rw [if_neg (by omega), if_pos]
    exact List.all_eq_true.2 fun v hv => (c v hv).1
  refine ⟨a2, hE, fun v hv => (c v hv).2, ?_⟩
  unfold rowB
  rw [if_pos hE, b']
  have e : [UInt8.ofNat (kS bs s)] = rdO bs s.p s.why 1 := wv_one b2
  show Got bs s _ ([UInt8.ofNat (kS bs s)] ++ joinB _)
  refine Got.cat ?_ d
  rw [e]
  exact got_nd c2
theorem listX_none : ∀ (rows : List (List VV)) (i : Nat), (∀ r ∈ rows, rowE r = 0) → listX rows i = none
  | [], _, _ => rfl
  | r :: l, i, h => by
    unfold listX
    rw [if_pos (h r (by simp))]
    exact listX_none l (i + 1) fun x hx => h x (by simp [hx])
structure GotL (bs : List UInt8) (s : St) (r : List (List VV) × St) : Prop where
  fine : Fine s
  ok : listE r.1 = 0
  u : rowsU r.1
  got : Got bs s r.2 (listB r.1)
theorem list_got (bs : List UInt8) (s : St) (h : Fine (listS bs s).2) : GotL bs s (listS bs s) := by
  have hk := hS_lt bs s
  obtain ⟨a, b, c, d⟩ := many_got bs (rowS bs) rowB (fun r => rowE r = 0 ∧ ∀ v ∈ r, uOk v) (fun s h => let g := row_got bs s h; ⟨g.fine, ⟨g.ok, g.u⟩, g.got⟩) (hS bs s) (l1S bs s) h
  obtain ⟨a1, b1⟩ := fine_nd a
  obtain ⟨a2, b2, c2⟩ := fine_rd (k := 2) a1
  have hle : hS bs s ≤ 400 := by have := of_decide_eq_true b1; omega
  have b' : (listS bs s).1.length = hS bs s := b
  have hE : listE (listS bs s).1 = 0 := by
    unfold listE
    have := listX_none (listS bs s).1 0 fun r hr => (c r hr).1
    rw [if_neg (by omega), this]
  refine ⟨a2, hE, fun r hr => (c r hr).2, ?_⟩
  unfold listB
  rw [if_pos hE, b']
  refine Got.cat ?_ d
  have e : beB 2 (hS bs s) = rdO bs s.p s.why 2 := beB_wv b2 (by decide)
  rw [e]
  exact got_nd c2
theorem fine_takE {s : St} (h : takE s = 0) : Fine s := by
  unfold takE at h
  cases hb : s.bad
  · rw [hb] at h
    exact ⟨hb, by simpa using h⟩
  · rw [hb] at h
    simp at h
theorem got_take {bs : List UInt8} {t : St} {X : List UInt8} (h : Got bs s0 t X) : bs.take t.p = X := by
  have h1 := h.p
  have h2 := h.eq
  simp only [s0, Nat.zero_add, List.drop_zero] at h1 h2
  rw [h1, h2]
/-- what is wanted of each -/
theorem tv_law {bs : List UInt8} (h : tvE bs = 0) : okE (tvV bs) = 0 ∧ encB (tvV bs) = bs.take (tvN bs) ∧ uOk (tvV bs) := by
  have g := val_got bs s0 (fine_takE h)
  have e1 : tvV bs = (valS bs s0).1 := by unfold tvV; rw [if_pos h]
  have e2 : tvN bs = (valS bs s0).2.p := if_pos h
  rw [e1, e2, got_take g.got]
  exact ⟨by simp [okE, g.ok], by simp [encB, g.ok], g.u⟩
theorem tr_law {bs : List UInt8} (h : trE bs = 0) : rowE (trV bs) = 0 ∧ rowB (trV bs) = bs.take (trN bs) ∧ ∀ v ∈ trV bs, uOk v := by
  have g := row_got bs s0 (fine_takE h)
  have e1 : trV bs = (rowS bs s0).1 := by unfold trV; rw [if_pos h]
  have e2 : trN bs = (rowS bs s0).2.p := if_pos h
  rw [e1, e2, got_take g.got]
  exact ⟨g.ok, rfl, g.u⟩
theorem tl_law {bs : List UInt8} (h : tlE bs = 0) : listE (tlV bs) = 0 ∧ listB (tlV bs) = bs.take (tlN bs) ∧ rowsU (tlV bs) := by
  have g := list_got bs s0 (fine_takE h)
  have e1 : tlV bs = (listS bs s0).1 := by unfold tlV; rw [if_pos h]
  have e2 : tlN bs = (listS bs s0).2.p := if_pos h
  rw [e1, e2, got_take g.got]
  exact ⟨g.ok, rfl, g.u⟩
theorem tl_zero {bs : List UInt8} (h : tlE bs ≠ 0) : tlN bs = 0 ∧ tlV bs = [] := by
  refine ⟨?_, by unfold tlV; rw [if_neg h]⟩
  exact if_neg h
end Go.Proofs.Ytfpodalnnchnoaa
