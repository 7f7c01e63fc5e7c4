/- bowspritlaw22.receiver. Conditions: the slices read so. -/
import Derived.Test.YtojghgbaiiajfaaPkH26
namespace Go.Proofs.Ytojghgbaiiajfaa
open Go.RowKit
def helC (h : HC) : HC := ⟨h.seq, batC h.b⟩
def recC (r : RC) : RC := ⟨r.ses, r.next, (r.ahead.take 9).map helC, batsC r.buf, r.room, r.over⟩
def RB (G : Nat) (l : List BC) (v : Value) (w : World) : Prop := ∃ A n c, v = .slice A n c ∧ LB3.rd w (fun b => G ≤ b ∧ b < w.heap.size) A n (batsC l) ∧ n ≤ c ∧ c ≤ 9223372036854775807
def RH (G : Nat) (Fr : Nat → Prop) (l : List HC) (l2 : List BC) (v2 v : Value) (w : World) : Prop := ∃ A2 n2 c2 A n c G5, v2 = .slice A2 n2 c2 ∧ v = .slice A n c ∧ LB3.rd w (fun b => G ≤ b ∧ b < G5) A2 n2 (batsC l2) ∧ n2 ≤ c2 ∧ c2 ≤ 9223372036854775807 ∧ LH4.own 81 w G5 Fr A n c (l.take 9) ∧ G ≤ G5
def BV (G : Nat) (b : BC) (v : Value) (w : World) : Prop := ∃ A n c, v = .agg #[.slice A n c, .bool b.fin, .int .u64 b.cnt] ∧ LR.rd w (fun k => G ≤ k) A n (rowsC b.rows) ∧ n ≤ c ∧ c ≤ 9223372036854775807
def FX (Fr : Nat → Prop) (w0 w : World) : Nat → Prop := fun b => (Fr b ∧ b < w0.heap.size) ∨ (w0.heap.size + 2 ≤ b ∧ b < w.heap.size)
theorem rb_below {G : Nat} {l : List BC} {v : Value} {w w' : World} (h : RB G l v w) (q : Below w.heap.size w w') : RB G l v w' := by
 obtain ⟨A, n, c, e, h1, h2⟩ := h
 exact ⟨A, n, c, e, Lay.rd_weak (fun b hb _ => ⟨hb.1, Nat.lt_of_lt_of_le hb.2 q.size⟩) (Lay.rd_below h1 q), h2⟩
theorem rb_set {G : Nat} {l : List BC} {v u : Value} {w : World} {p : Addr} (h : RB G l v w) (hg : p.block < G) : RB G l v (w.setCell p u) := by
 obtain ⟨A, n, c, e, h1, h2⟩ := h
 refine ⟨A, n, c, e, ?_, h2⟩
 have h3 := Lay.rd_keep (w' := w.setCell p u) (fun b hb _ => Below.heap_setCell w p u b (by have := hb.1; omega)) h1
 exact Lay.rd_weak (fun b hb hl => ⟨hb.1, hl⟩) h3
theorem rh_set {G : Nat} {Fr : Nat → Prop} {l : List HC} {l2 : List BC} {v2 v u : Value} {w : World} {p : Addr} (h : RH G Fr l l2 v2 v w) (hg : p.block < G) (hf : ¬ Fr p.block) : RH G Fr l l2 v2 v (w.setCell p u) := by
 obtain ⟨A2, n2, c2, A, n, c, G5, e, e2, h1, h2, h3, h4, h5⟩ := h
 exact ⟨A2, n2, c2, A, n, c, G5, e, e2, Lay.rd_keep (fun b hb _ => Below.heap_setCell w p u b (by have := hb.1; omega)) h1, h2, h3,
  Lay.own_same h4 (fun k hk => Below.heap_setCell w p u k (by have := (Lay.own_base h4 k hk).1; omega)) (fun b hb _ _ => Below.heap_setCell w p u b (fun e => hf (by rw [← e]; exact hb))), h5⟩
/-- the parameter's variable is filled by two stores (7, 9) of what two calls (2, 5) yield -/
def RecS (w0 : World) (g1 g2 : Nat) (cs : Bool → Bool → Value → Value → Array Value) (zc : Array Value) (R2 : Value → World → Prop) (R5 : Value → Value → World → Prop) : Array Bool → (Nat → Value) → World → Prop :=
 fun L m w => Below w0.heap.size w0 w ∧ Blk w g1 36 (cs (Dn L 7) (Dn L 9) (m 2) (m 5)) ∧ Blk w g2 36 zc ∧ (Dn L 2 = true → R2 (m 2) w) ∧ (Dn L 5 = true → R5 (m 2) (m 5) w)
section
variable {w0 w w' : World} {g1 g2 G : Nat} {cs : Bool → Bool → Value → Value → Array Value} {zc : Array Value} {l : List BC} {l5 : List HC} {Fr : Nat → Prop} {L : Array Bool} {m : Nat → Value} {v u : Value}
theorem RecS.start (q : Below w0.heap.size w0 w) (h1 : Blk w g1 36 (cs false false undef undef)) (h2 : Blk w g2 36 zc) : RecS w0 g1 g2 cs zc (RB G l) (RH G Fr l5 l) (Array.replicate 10 false) (fun _ => undef) w.drew :=
 ⟨q.drew, h1.drew, h2.drew, fun e => absurd e (by decide), fun e => absurd e (by decide)⟩
theorem RecS.bel (h : RecS w0 g1 g2 cs zc (RB G l) (RH G Fr l5 l) L m w) : Below w0.heap.size w0 w := h.1
theorem RecS.blk (h : RecS w0 g1 g2 cs zc (RB G l) (RH G Fr l5 l) L m w) : Blk w g1 36 (cs (Dn L 7) (Dn L 9) (m 2) (m 5)) := h.2.1
theorem RecS.blk2 (h : RecS w0 g1 g2 cs zc (RB G l) (RH G Fr l5 l) L m w) : Blk w g2 36 zc := h.2.2.1
theorem RecS.r2 (h : RecS w0 g1 g2 cs zc (RB G l) (RH G Fr l5 l) L m w) (d : Dn L 2 = true) : RB G l (m 2) w := h.2.2.2.1 d
theorem RecS.r5 (h : RecS w0 g1 g2 cs zc (RB G l) (RH G Fr l5 l) L m w) (d : Dn L 5 = true) : RH G Fr l5 l (m 2) (m 5) w := h.2.2.2.2 d
theorem RecS.pass {i : Nat} (h2 : 2 ≠ i) (h5 : 5 ≠ i) (h7 : 7 ≠ i) (h9 : 9 ≠ i) : Pass (RecS w0 g1 g2 cs zc (RB G l) (RH G Fr l5 l)) i := fun L m w h => by
 unfold RecS at *
 rw [dn_ne h2, dn_ne h5, dn_ne h7, dn_ne h9]
 exact h
theorem RecS.on2 (hcs : ∀ b9 x y v5, cs false b9 x v5 = cs false b9 y v5) (d7 : Dn L 7 = false) (d5 : Dn L 5 = false) (h : RecS w0 g1 g2 cs zc (RB G l) (RH G Fr l5 l) L m w) (q : Below w.heap.size w w') (hv : RB G l v w') :
 RecS w0 g1 g2 cs zc (RB G l) (RH G Fr l5 l) (L.setIfInBounds 2 true) (upd m 2 v) w' := by
 obtain ⟨h1, h2, h3, h4, h5⟩ := h
 unfold RecS
 rw [dn_ne (j := 7) (i := 2) (by decide), dn_ne (j := 9) (i := 2) (by decide), dn_ne (j := 5) (i := 2) (by decide), dn_eq, upd_same, upd_ne (j := 5) (k := 2) (by decide), d5, d7]
 rw [d7] at h2
 exact ⟨bl_ca h1 q, by rw [hcs _ v (m 2)]; exact h2.ca q, h3.ca q, fun _ => hv, fun e => by cases e⟩
theorem RecS.on5 (hcs : ∀ b7 v2 x y, cs b7 false v2 x = cs b7 false v2 y) (d9 : Dn L 9 = false) (h : RecS w0 g1 g2 cs zc (RB G l) (RH G Fr l5 l) L m w) (q : Below w.heap.size w w') (hv : RH G Fr l5 l (m 2) v w') :
 RecS w0 g1 g2 cs zc (RB G l) (RH G Fr l5 l) (L.setIfInBounds 5 true) (upd m 5 v) w' := by
 obtain ⟨h1, h2, h3, h4, h5⟩ := h
 unfold RecS
 rw [dn_ne (j := 7) (i := 5) (by decide), dn_ne (j := 9) (i := 5) (by decide), dn_ne (j := 2) (i := 5) (by decide), dn_eq, upd_same, upd_ne (j := 2) (k := 5) (by decide), d9]
 rw [d9] at h2
 exact ⟨bl_ca h1 q, by rw [hcs _ _ v (m 5)]; exact h2.ca q, h3.ca q, fun d => rb_below (h4 d) q, fun _ => hv⟩
theorem RecS.on7 (hcs : ∀ b9 v5, (cs false b9 u v5).setIfInBounds 3 u = cs true b9 u v5) (hg : g1 < G) (hg2 : g1 ≠ g2 ∧ w0.heap.size ≤ g1) (hf : ¬ Fr g1) (d7 : Dn L 7 = false) (h : RecS w0 g1 g2 cs zc (RB G l) (RH G Fr l5 l) L m w) (hm : m 2 = u) :
 RecS w0 g1 g2 cs zc (RB G l) (RH G Fr l5 l) (L.setIfInBounds 7 true) m (w.setCell ⟨g1, 3, none⟩ u) := by
 obtain ⟨h1, h2, h3, h4, h5⟩ := h
 unfold RecS
 rw [dn_ne (j := 9) (i := 7) (by decide), dn_ne (j := 2) (i := 7) (by decide), dn_ne (j := 5) (i := 7) (by decide), dn_eq]
 rw [d7, hm] at h2
 exact ⟨h1.setCell hg2.2 u, by rw [hm, ← hcs]; exact h2.set_ 3 u, h3.far (p := ⟨g1, 3, none⟩) (Ne.symm hg2.1) u, fun d => rb_set (h4 d) hg, fun d => rh_set (h5 d) hg hf⟩
theorem RecS.on9 (hcs : ∀ b7 v2, (cs b7 false v2 u).setIfInBounds 2 u = cs b7 true v2 u) (hg : g1 < G) (hg2 : g1 ≠ g2 ∧ w0.heap.size ≤ g1) (hf : ¬ Fr g1) (d9 : Dn L 9 = false) (h : RecS w0 g1 g2 cs zc (RB G l) (RH G Fr l5 l) L m w) (hm : m 5 = u) :
 RecS w0 g1 g2 cs zc (RB G l) (RH G Fr l5 l) (L.setIfInBounds 9 true) m (w.setCell ⟨g1, 2, none⟩ u) := by
 obtain ⟨h1, h2, h3, h4, h5⟩ := h
 unfold RecS
 rw [dn_ne (j := 7) (i := 9) (by decide), dn_ne (j := 2) (i := 9) (by decide), dn_ne (j := 5) (i := 9) (by decide), dn_eq]
 rw [d9, hm] at h2
 exact ⟨h1.setCell hg2.2 u, by rw [hm, ← hcs]; exact h2.set_ 2 u, h3.far (p := ⟨g1, 2, none⟩) (Ne.symm hg2.1) u, fun d => rb_set (h4 d) hg, fun d => rh_set (h5 d) hg hf⟩
end
def mixH (r : List HC) (j : Nat) : List HC := (r.take j).map helC ++ r.drop j
theorem mixH_set {r : List HC} {j : Nat} {v : HC} (h : r[j]? = some v) : (mixH r j).set j (helC v) = mixH r (j + 1) := by
 obtain ⟨hl, rfl⟩ := List.getElem?_eq_some_iff.1 h
 unfold mixH
 rw [List.take_succ_eq_append_getElem hl, List.map_append, List.set_append_right _ _ (by simp; omega)]
 simp [Nat.min_eq_left (Nat.le_of_lt hl)]
 rw [List.drop_eq_getElem_cons hl, List.set_cons_zero]
theorem mixH_at {r : List HC} {j : Nat} {v : HC} (h : (mixH r j)[j]? = some v) (hj : j < r.length) : r[j]? = some v := by
 unfold mixH at h
 rw [List.getElem?_append_right (by simp; omega), List.length_map, List.length_take, Nat.min_eq_left (by omega), Nat.sub_self] at h
 simpa using h
set_option maxRecDepth 100000 in
set_option maxHeartbeats 8000000 in
theorem recvC_any (Fr F2 : Nat → Prop) (r : RC) (A : Option Addr) (n c : Nat) (B : Option Addr) (m d : Nat) (w : World) (h : LH4.rd w Fr A n r.ahead) (h2 : LB3.rd w F2 B m r.buf) (hnc : n ≤ c) (hc : c ≤ 9223372036854775807) (hmd : m ≤ d) (hd : d ≤ 9223372036854775807) :
 Calls Try.prog 22 #[.agg (r.cells A n c B m d)] w fun e w' => ∃ A2 k5 c5 B2 k2 d2, e = .returned (.agg ((recC r).cells A2 k5 c5 B2 k2 d2)) ∧ LH4.rd w' (FX Fr w w') A2 k5 (recC r).ahead ∧ LB3.rd w' (FX Fr w w') B2 k2 (recC r).buf ∧ k5 ≤ c5 ∧ c5 ≤ 9223372036854775807 ∧ k2 ≤ d2 ∧ d2 ≤ 9223372036854775807 ∧ Below w.heap.size w w' := by
 obtain ⟨ses, next, ahead, buf, room, over⟩ := r
 dsimp only at h h2
 have HRA := Lib.hid h
 have HRB := Lib.hid h2
 have q1 := bl_al (Below.refl w.heap.size w) (.cells #[.int .u32 ses, .int .u64 next, .slice A n c, .slice B m d, .int .i64 room, .bool over] 36)
 have q2 := bl_al q1 (.cells #[.int .u32 0, .int .u64 0, .slice none 0 0, .slice none 0 0, .int .i64 0, .bool false] 36)
 have HB1 := Lib.hid ((Blk.new w 36 #[.int .u32 ses, .int .u64 next, .slice A n c, .slice B m d, .int .i64 room, .bool over]).alloc (.cells #[.int .u32 0, .int .u64 0, .slice none 0 0, .slice none 0 0, .int .i64 0, .bool false] 36))
 have HB2 := Lib.hid (show Blk ((w.alloc (.cells #[.int .u32 ses, .int .u64 next, .slice A n c, .slice B m d, .int .i64 room, .bool over] 36)).alloc (.cells #[.int .u32 0, .int .u64 0, .slice none 0 0, .slice none 0 0, .int .i64 0, .bool false] 36)) (w.heap.size + 1) 36 #[.int .u32 0, .int .u64 0, .slice none 0 0, .slice none 0 0, .int .i64 0, .bool false] from by have := Blk.new (w.alloc (.cells #[.int .u32 ses, .int .u64 next, .slice A n c, .slice B m d, .int .i64 room, .bool over] 36)) 36 #[.int .u32 0, .int .u64 0, .slice none 0 0, .slice none 0 0, .int .i64 0, .bool false]; simp only [World.size_alloc] at this; exact this)
 have HQ2 := Lib.hid q2
 clear h h2 q1 q2
 go_enter Try.func22, Try.ntmps22
 go_wp2_with fail
 generalize ((w.alloc (.cells #[.int .u32 ses, .int .u64 next, .slice A n c, .slice B m d, .int .i64 room, .bool over] 36)).alloc (.cells #[.int .u32 0, .int .u64 0, .slice none 0 0, .slice none 0 0, .int .i64 0, .bool false] 36)) = w2 at *
 refine wp_region_ps (S := RecS w w.heap.size (w.heap.size + 1) (fun b7 b9 v2 v5 => #[.int .u32 ses, .int .u64 next, (if b9 then v5 else .slice A n c), (if b7 then v2 else .slice B m d), .int .i64 room, .bool over]) #[.int .u32 0, .int .u64 0, .slice none 0 0, .slice none 0 0, .int .i64 0, .bool false] (RB (w.heap.size + 2) buf) (RH (w.heap.size + 2) (fun b => Fr b ∧ b < w.heap.size) ahead buf)) (by kernel_rfl) ?spswra ?ppswra
 case spswra =>
  exact RecS.start HQ2.out HB1.out HB2.out
 refine Pz 0 (some 5) _ rfl rfl (StepS.pure (RecS.pass (by decide) (by decide) (by decide) (by decide)) rfl fun w9 => by go_simp; try rfl) ?_
 try simp only [Act.put, sA, sZ, sS]
 refine Pz 1 (some 6) ?uwra_2 rfl rfl ?ywra_2 ?rwra_2
 case ywra_2 =>
  refine StepS.read [] (by kernel_rfl) (RecS.pass (by decide) (by decide) (by decide) (by decide)) (by rfl) (fun L9 m9 w9 hSh hAt hDn hS => ?_)
  have d7 : Dn L9 7 = false := reach_no hSh (f := 12) (j := 7) (by kernel_rfl) hDn
  have x3 := (RecS.blk hS).cell 3
  simp only [d7] at x3
  clear hS d7
  go_simp
  try rfl
 try simp only [Act.put, sA, sZ, sS]
 refine Pz 3 (some 8) _ rfl rfl (StepS.pure (RecS.pass (by decide) (by decide) (by decide) (by decide)) rfl fun w9 => by go_simp; try rfl) ?_
 try simp only [Act.put, sA, sZ, sS]
 refine Pz 4 (some 9) ?uwra_4 rfl rfl ?ywra_4 ?rwra_4
 case ywra_4 =>
  refine StepS.read [] (by kernel_rfl) (RecS.pass (by decide) (by decide) (by decide) (by decide)) (by rfl) (fun L9 m9 w9 hSh hAt hDn hS => ?_)
  have d9 : Dn L9 9 = false := reach_no hSh (f := 12) (j := 9) (by kernel_rfl) hDn
  have x2 := (RecS.blk hS).cell 2
  simp only [d9] at x2
  clear hS d9
  go_simp
  try rfl
 try simp only [Act.put, sA, sZ, sS]
 refine Ps.one (k := 2) (d := some 7) rfl rfl (by kernel_rfl) (TurnS.call (V := fun v => ∃ A3 k3 c3, v = .slice A3 k3 c3) ?fwra_5 ?awra_5 [] (by kernel_rfl) (by rfl) (fun w9 => ?hwra_5) (fun L9 m9 w9 hSh hAt hDn hS => ?cwra_5)) (fun v2 hVv2 => ?rwra_5)
 case hwra_5 => go_simp; refine ⟨?_, ?_⟩ <;> rfl
 case cwra_5 =>
  have d7 : Dn L9 7 = false := reach_no hSh (f := 12) (j := 7) (by kernel_rfl) hDn
  have d5 : Dn L9 5 = false := reach_no hSh (f := 12) (j := 5) (by kernel_rfl) hDn
  have hT := RecS.bel hS
  have hlt := (RecS.blk2 hS).lt
  refine (batsC_any F2 B m d buf w9 (Lay.rd_below HRB.out hT) hmd hd).mono ?_
  rintro e w8 ⟨A3, k3, c3, rfl, hr, h1, h2, q8⟩
  exact ⟨_, rfl, ⟨A3, k3, c3, rfl⟩, RecS.on2 (fun _ _ _ _ => rfl) d7 d5 hS q8 ⟨A3, k3, c3, rfl, Lay.rd_weak (fun b hb hl => ⟨by have := hb.1; omega, hl⟩) hr, h1, h2⟩⟩
 try simp only [Act.put, sA, sZ, sS]
 obtain ⟨B2, k2, d2, rfl⟩ := hVv2
 refine Pz 6 (some 11) _ rfl rfl (StepS.pure (RecS.pass (by decide) (by decide) (by decide) (by decide)) rfl fun w9 => by go_simp; try rfl) ?_
 try simp only [Act.put, sA, sZ, sS]
 refine Ps.one (k := 5) (d := some 10) rfl rfl (by kernel_rfl) (TurnS.call (V := fun v => ∃ A3 k3 c3, v = .slice A3 k3 c3) ?fwra_7 ?awra_7 [2] (by kernel_rfl) (by rfl) (fun w9 => ?hwra_7) (fun L9 m9 w9 hSh hAt hDn hS => ?cwra_7)) (fun v5 hVv5 => ?rwra_7)
 case hwra_7 => go_simp; refine ⟨?_, ?_⟩ <;> rfl
 case cwra_7 =>
  have d9 : Dn L9 9 = false := reach_no hSh (f := 12) (j := 9) (by kernel_rfl) hDn
  have hT := RecS.bel hS
  have hd2 := (hAt 2 (by simp)).1
  have hlt := (RecS.blk2 hS).lt
  obtain ⟨B9, k9, d9x, hv9, hr9, hk9, hd9⟩ := RecS.r2 hS hd2
  refine (cutH (fun b => Fr b ∧ b < w.heap.size) A n c 9 ahead w9 (Lay.rd_below (Lay.rd_weak (fun b h1 h2 => ⟨h1, h2⟩) HRA.out) hT) hnc hc (by omega)).mono ?_
  rintro e w8 ⟨A3, c3, rfl, ho, q8⟩
  exact ⟨_, rfl, ⟨A3, _, c3, rfl⟩, RecS.on5 (fun _ _ _ _ => rfl) d9 hS q8 ⟨B9, k9, d9x, A3, _, c3, w9.heap.size, hv9, rfl, Lay.rd_below hr9 q8, hk9, hd9, Lay.own_weak (fun b hb _ => hb.1) ho, by omega⟩⟩
 try simp only [Act.put, sA, sZ, sS]
 obtain ⟨A2, k5, c5, rfl⟩ := hVv5
 refine Pz 7 none undef rfl rfl ?ywra_8 ?rwra_8
 case ywra_8 =>
  refine StepS.store [2] (by kernel_rfl) (by rfl) (fun L9 m9 w9 hSh hAt hDn hS => ?_)
  have hv := (hAt 2 (by simp)).2
  have hb := RecS.blk hS
  have z0 := hb.frozen 3
  have hcell := hb.cell 3
  have hS2 := RecS.on7 (u := .slice B2 k2 d2) (fun _ _ => rfl) (by omega) ⟨by omega, Nat.le_refl _⟩ (fun h => absurd h.2 (by omega)) hDn hS (by rw [hv]; rfl)
  refine ⟨w9.setCell ⟨w.heap.size, 3, none⟩ (.slice B2 k2 d2), ?_, hS2⟩
  clear hS hS2 hv hb
  simp only [hDn] at hcell
  clear hDn
  go_simp
 try simp only [Act.put]
 refine Pz 8 (some 12) _ rfl rfl (StepS.pure (RecS.pass (by decide) (by decide) (by decide) (by decide)) rfl fun w9 => by go_simp; try rfl) ?_
 try simp only [Act.put, sA, sZ, sS]
 refine Pz 9 none undef rfl rfl ?ywra_10 ?rwra_10
 case ywra_10 =>
  refine StepS.store [5, 7] (by kernel_rfl) (by rfl) (fun L9 m9 w9 hSh hAt hDn hS => ?_)
  have hv := (hAt 5 (by simp)).2
  have hb := RecS.blk hS
  have z0 := hb.frozen 2
  have hcell := hb.cell 2
  have hS2 := RecS.on9 (u := .slice A2 k5 c5) (fun _ _ => rfl) (by omega) ⟨by omega, Nat.le_refl _⟩ (fun h => absurd h.2 (by omega)) hDn hS (by rw [hv]; rfl)
  refine ⟨w9.setCell ⟨w.heap.size, 2, none⟩ (.slice A2 k5 c5), ?_, hS2⟩
  clear hS hS2 hv hb
  simp only [hDn] at hcell
  clear hDn
  go_simp
 try simp only [Act.put]
 refine Ps.done (by kernel_rfl) (fun wra hS => ?_) _
 have hQ := RecS.bel hS
 have hB := RecS.blk hS
 have hZ := RecS.blk2 hS
 have h2 := RecS.r2 hS (by rfl)
 have h5 := RecS.r5 hS (by rfl)
 clear hS
 have hBB : Blk wra w.heap.size 36 #[.int .u32 ses, .int .u64 next, .slice A2 k5 c5, .slice B2 k2 d2, .int .i64 room, .bool over] := hB
 obtain ⟨B2x, k2x, d2x, A2x, k5x, c5x, G5, e2, e5, hrb, hkb, hdb, hra, hG5⟩ : RH (w.heap.size + 2) (fun b => Fr b ∧ b < w.heap.size) ahead buf (.slice B2 k2 d2) (.slice A2 k5 c5) wra := h5
 injection e2 with e2a e2b e2c
 subst e2a e2b e2c
 injection e5 with e5a e5b e5c
 subst e5a e5b e5c
 have HBB := Lib.hid hBB
 have HZZ := Lib.hid (show Blk wra (w.heap.size + 1) 36 #[.int .u32 0, .int .u64 0, .slice none 0 0, .slice none 0 0, .int .i64 0, .bool false] from hZ)
 have HRB2 := Lib.hid hrb
 have hcap := Lay.own_caps hra
 have hra2 := Lay.own_weak (G' := FX Fr w wra) (fun b hb _ => .inl hb) hra
 have HLN := Lib.hid (Lay.own_len hra)
 have HRA2 := Lib.hid hra2
 have HQ3 := Lib.hid hQ
 have HKB := Lib.hid (And.intro hkb hdb)
 have HCAP := Lib.hid hcap
 clear hQ hB hZ h2 hBB hrb hra hra2 hkb hdb hcap
 obtain ⟨w3, rfl⟩ : ∃ x, x = wra := ⟨_, rfl⟩
 clear HB1 HB2 HQ2
 have hk9 : k5 ≤ 9 := by have h := HLN.out; rw [List.length_take] at h; omega
 have x2 := HBB.out.cell 2
 go_wp2_with fail
 clear x2
 go_loopg [16] k5 (fun gz a wr => ∃ i : Nat, i + gz = k5 ∧ a = .int .i64 i ∧ LH4.own 81 wr G5 (FX Fr w wr) A2 k5 c5 (mixH (ahead.take 9) i) ∧ Below w.heap.size w wr ∧ Blk wr w.heap.size 36 #[.int .u32 ses, .int .u64 next, .slice A2 k5 c5, .slice B2 k2 d2, .int .i64 room, .bool over] ∧ Blk wr (w.heap.size + 1) 36 #[.int .u32 0, .int .u64 0, .slice none 0 0, .slice none 0 0, .int .i64 0, .bool false] ∧ LB3.rd wr (fun b => w.heap.size + 2 ≤ b ∧ b < G5) B2 k2 (batsC buf))
 case atStart => exact ⟨0, by omega, rfl, by simpa [mixH] using HRA2.out, HQ3.out, HBB.out, HZZ.out, HRB2.out⟩
 case round =>
  obtain ⟨i, hig, rfl, how, hbw, hbg, hzz, hrb⟩ := hrel
  have hsw := hbw.size
  by_cases hi : i < k5
  · have hik : (i : Int) < (k5 : Int) := by omega
    obtain ⟨g, rfl, hg1, hg2⟩ := own_some how (by omega)
    obtain ⟨ad, ⟨seq, ⟨rows, fin, cnt⟩⟩, Bh, kh, dh, e, hv, sh⟩ := LH4_at (Lay.own_rd (F := fun _ => True) how (fun _ _ _ => trivial) (fun _ _ _ => trivial)) hi
    injection e with e
    subst e
    have e0 := sh.c0
    have e1 := sh.c1
    have e2 := sh.c2
    have e3 := sh.c3
    rw [addr_zero] at e0 e1 e2 e3
    dsimp only at e0 e1 e2 e3
    have q5 := bl_al (Below.refl wr.heap.size wr) (.cells #[.int .u64 seq, .slice Bh kh dh, .bool fin, .int .u64 cnt] 81)
    have HOW := Lib.hid (Lay.own_weak (G' := FX Fr w (wr.alloc (.cells #[.int .u64 seq, .slice Bh kh dh, .bool fin, .int .u64 cnt] 81))) (fun b hb hl => hb.elim .inl (fun h => .inr ⟨h.1, hl⟩)) (Lay.own_alloc how (.cells #[.int .u64 seq, .slice Bh kh dh, .bool fin, .int .u64 cnt] 81)))
    have HRD := Lib.hid (Lay.rd_below sh.rd q5)
    have hkd := And.intro sh.nc sh.cm
    have HB5 := Lib.hid (hbg.ca q5)
    have HZ5 := Lib.hid (hzz.ca q5)
    have HN5 := Lib.hid (Blk.new wr 81 #[.int .u64 seq, .slice Bh kh dh, .bool fin, .int .u64 cnt])
    have HRB5 := Lib.hid (Lay.rd_below hrb q5)
    have HBW5 := Lib.hid (bl_ca hbw q5)
    have HV := Lib.hid hv
    have HV2 := Lib.hid (mixH_at hv (by have h := HLN.out; omega))
    have hw5 : (wr.alloc (.cells #[.int .u64 seq, .slice Bh kh dh, .bool fin, .int .u64 cnt] 81)).heap.size = wr.heap.size + 1 := by simp only [World.size_alloc]
    clear how hbw hbg hzz hrb hv sh q5
    go_upto_region 5 with fail
    clear e0 e1 e2 e3
    generalize wr.alloc (.cells #[.int .u64 seq, .slice Bh kh dh, .bool fin, .int .u64 cnt] 81) = w5 at *
    refine wp_region_ps (S := Seq2 5 8 (fun w' => Below w5.heap.size w5 w') (fun v w' => Below w5.heap.size w5 w' ∧ BV w5.heap.size ⟨rows, fin, cnt⟩ v w') (fun v w' => ∃ w6, Below w5.heap.size w5 w6 ∧ BV w5.heap.size ⟨rows, fin, cnt⟩ v w6 ∧ w' = w6.setCells g (i * 4 + 1) v.cells.toList)) (by kernel_rfl) ?spswrb ?ppswrb
    case spswrb =>
     exact Seq2.start (by decide) (by decide) (Below.refl _ _).drew
    refine Pz 0 (some 21) _ rfl rfl (StepS.pure (Seq2.pass (by decide) (by decide)) rfl fun w9 => by go_simp; try rfl) ?_
    try simp only [Act.put, sA, sZ, sS]
    refine Pz 1 (some 22) ?uwrb_12 rfl rfl ?ywrb_12 ?rwrb_12
    case ywrb_12 =>
     refine StepS.read [] (by kernel_rfl) (Seq2.pass (by decide) (by decide)) (by rfl) (fun L9 m9 w9 hSh hAt hDn hS => ?_)
     have hT : Below w5.heap.size w5 w9 := Seq2.early (fun _ h => h) (fun _ _ h => h.1) (reach_no hSh (f := 12) (j := 8) (by kernel_rfl) hDn) hS
     have x2 := (HB5.out.ca hT).cell 2
     clear hT hS
     go_simp
     try rfl
    try simp only [Act.put, sA, sZ, sS]
    refine Pz 2 (some 23) _ rfl rfl (StepS.pure (Seq2.pass (by decide) (by decide)) rfl fun w9 => by go_simp; try rfl) ?_
    try simp only [Act.put, sA, sZ, sS]
    refine Pz 3 (some 24) _ rfl rfl (StepS.pure (Seq2.pass (by decide) (by decide)) rfl fun w9 => by go_simp; try rfl) ?_
    try simp only [Act.put, sA, sZ, sS]
    refine Pz 4 (some 25) ?uwrb_15 rfl rfl ?ywrb_15 ?rwrb_15
    case ywrb_15 =>
     refine StepS.read [] (by kernel_rfl) (Seq2.pass (by decide) (by decide)) (by rfl) (fun L9 m9 w9 hSh hAt hDn hS => ?_)
     have hT : Below w5.heap.size w5 w9 := Seq2.early (fun _ h => h) (fun _ _ h => h.1) (reach_no hSh (f := 12) (j := 8) (by kernel_rfl) hDn) hS
     have y1 := (HN5.out.ca hT).cell 1
     have y2 := (HN5.out.ca hT).cell 2
     have y3 := (HN5.out.ca hT).cell 3
     clear hT hS
     go_simp
     try rfl
    try simp only [Act.put, sA, sZ, sS]
    refine Ps.one (k := 5) (d := some 26) rfl rfl (by kernel_rfl) (TurnS.call (V := fun v => ∃ A3 k3 c3, v = .agg #[.slice A3 k3 c3, .bool fin, .int .u64 cnt]) ?fwrb_16 ?awrb_16 [] (by kernel_rfl) (by rfl) (fun w9 => ?hwrb_16) (fun L9 m9 w9 hSh hAt hDn hS => ?cwrb_16)) (fun v5 hVv5 => ?rwrb_16)
    case hwrb_16 => go_simp; refine ⟨?_, ?_⟩ <;> rfl
    case cwrb_16 =>
     have hT : Below w5.heap.size w5 w9 := Seq2.early (fun _ h => h) (fun _ _ h => h.1) (reach_no hSh (f := 12) (j := 8) (by kernel_rfl) hDn) hS
     have d8 : Dn L9 8 = false := reach_no hSh (f := 12) (j := 8) (by kernel_rfl) hDn
     refine (batchC_any (fun _ => True) ⟨rows, fin, cnt⟩ Bh kh dh w9 (Lay.rd_below HRD.out hT) hkd.1 hkd.2).mono ?_
     rintro e w8 ⟨A3, k3, c3, rfl, hr, h1, h2, q8⟩
     exact ⟨_, rfl, ⟨A3, k3, c3, rfl⟩, Seq2.called (by decide) d8 ⟨bl_ca hT q8, A3, k3, c3, rfl, Lay.rd_weak (fun b hb _ => Nat.le_trans hT.size hb.1) hr, h1, h2⟩⟩
    try simp only [Act.put, sA, sZ, sS]
    obtain ⟨A3, k3, c3, rfl⟩ := hVv5
    refine Pz 6 (some 27) _ rfl rfl (StepS.pure (Seq2.pass (by decide) (by decide)) rfl fun w9 => by have h8 := hik; go_simp; try rfl) ?_
    try simp only [Act.put, sA, sZ, sS]
    refine Pz 7 (some 28) _ rfl rfl (StepS.pure (Seq2.pass (by decide) (by decide)) rfl fun w9 => by go_simp; try rfl) ?_
    try simp only [Act.put, sA, sZ, sS]
    refine Pz 8 none undef rfl rfl ?ywrb_19 ?rwrb_19
    case ywrb_19 =>
     refine StepS.store [5] (by kernel_rfl) (by rfl) (fun L9 m9 w9 hSh hAt hDn hS => ?_)
     have hX := Seq2.got hAt hDn hS
     have hth := own_there (Lay.own_below HOW.out hX.1) (i := i) (j := 1) (k := 3) (by omega) (by show 1 + 3 ≤ 4; omega)
     refine ⟨w9.setCells g (i * 4 + 1) [.slice A3 k3 c3, .bool fin, .int .u64 cnt], ?_, Seq2.stored (by decide) hAt ⟨w9, hX.1, hX.2, rfl⟩⟩
     exact exec_store_there (w := w9) 45 (.tmp 28) (.tmp 26) (by rfl) g (i * 4 + 1) #[.slice A3 k3 c3, .bool fin, .int .u64 cnt] (by rfl) (by rfl) hth batchI (by simp [Value.oneCell'])
    try simp only [Act.put]
    refine Ps.done (by kernel_rfl) (fun wrb hS => ?_) _
    obtain ⟨w6, hT, hBV, e6⟩ := Seq2.fin (by rfl) hS
    clear hS
    obtain ⟨A3x, k3x, c3x, e3, hrd3, hk3, hc3⟩ : BV w5.heap.size ⟨rows, fin, cnt⟩ (.agg #[.slice A3 k3 c3, .bool fin, .int .u64 cnt]) w6 := hBV
    injection e3 with e3
    simp only [Array.mk.injEq, List.cons.injEq, Value.slice.injEq, and_true] at e3
    obtain ⟨rfl, rfl, rfl⟩ := e3
    have hset := Lay.own_part (L := LH4) (i := i) (j := 1) (vs := [.slice A3 k3 c3, .bool fin, .int .u64 cnt]) (y := ⟨seq, ⟨rows, fin, cnt⟩⟩) (x := helC ⟨seq, ⟨rows, fin, cnt⟩⟩) (Lay.own_weak (G' := FX Fr w w6) (fun b hb hl => hb.elim .inl (fun h => .inr ⟨h.1, hl⟩)) (Lay.own_below HOW.out hT)) HV.out (by show 1 + 3 ≤ 4; omega) (fun ds hds => by obtain ⟨A9, n9, c9, rfl, _, _, _⟩ := hds; exact ⟨A3, k3, c3, rfl, hk3, hc3, Lay.rd_weak (fun b hb hl => ⟨.inr ⟨by omega, hl⟩, by omega⟩) hrd3⟩)
    have e7 : w6.setCells g (i * LH4.size + 1) [.slice A3 k3 c3, .bool fin, .int .u64 cnt] = wrb := e6.symm
    rw [e7] at hset
    have hsz6 := hT.size
    have hsz7 := hset.2.size
    have HOV7 := Lib.hid (Lay.own_weak (G' := FX Fr w wrb) (fun b hb hl => hb.elim .inl (fun h => .inr ⟨h.1, hl⟩)) hset.1)
    have HB7 := Lib.hid ((bl_ca HBW5.out hT).grown hset.2 (by omega) (fun k e => by injection e with e; omega))
    have HG7 := Lib.hid ((HB5.out.ca hT).grown hset.2 (by simp; omega))
    have HZ7 := Lib.hid ((HZ5.out.ca hT).grown hset.2 (by simp; omega))
    have HR7 := Lib.hid (Lay.rd_keep (fun b hb hl => hset.2.block b hl (fun e => by injection e with e; have := hb.2; omega)) (Lay.rd_below HRB5.out hT))
    rw [mixH_set HV2.out] at HOV7
    clear hset e6 e7 hT hrd3 hk3 hc3 hsz6 hsz7
    obtain ⟨w7, rfl⟩ : ∃ x, x = wrb := ⟨_, rfl⟩
    go_wp2
    go_roundg (gk - 1)
    · exact ⟨i + 1, by omega, by go_num, HOV7.out, HB7.out, HG7.out, HZ7.out, HR7.out⟩
    · omega
  · obtain rfl : i = k5 := by omega
    have hi1 : (i : Int) ≤ (i : Int) := by omega
    have e : mixH (ahead.take 9) i = (ahead.take 9).map helC := by unfold mixH; rw [List.take_of_length_le (by rw [HLN.out]; exact Nat.le_refl _), List.drop_of_length_le (by rw [HLN.out]; exact Nat.le_refl _), List.append_nil]
    rw [e] at how
    have hcp := Lay.own_caps how
    have HA := Lib.hid (Lay.own_rd (F := FX Fr w wr) how (fun b h1 h2 => .inr ⟨by omega, h2⟩) (fun b hb _ => hb))
    have HBF := Lib.hid hbw
    have HG := Lib.hid hbg
    have HZ := Lib.hid hzz
    have HRF := Lib.hid hrb
    have HCP := Lib.hid hcp
    clear e how hbw hbg hzz hrb hcp
    go_wp2_with (first | (refine wpList_load_blk rfl 36 (.tmp 1) rfl w.heap.size rfl 36 _ _ HG.out Try.underlying36 rfl receiverI ?_) | (refine wpList_store_blk rfl 36 (.tmp 2) (.tmp 30) rfl (w.heap.size + 1) 36 _ #[.int .u32 ses, .int .u64 next, .slice A2 i c5, .slice B2 k2 d2, .int .i64 room, .bool over] rfl rfl HZ.out rfl receiverI (by simp [Value.oneCell']) ?_; intro w5 h5 g5))
    have hrA := Lay.rd_keep (fun b hb hl => g5.block b hl (fun e => by injection e with e; rcases hb with h | h; have := h.2; omega; have := h.1; omega)) HA.out
    have hz5 := g5.size
    have hrB := Lay.rd_keep (fun b hb hl => g5.block b hl (fun e => by injection e with e; have := hb.1; omega)) HRF.out
    exact bodyPost_ret (res1 Try.results22 rfl h5 Try.underlying36 rfl receiverI) rfl ⟨A2, i, c5, B2, k2, d2, rfl, Lay.rd_weak (fun b hb hl => hb.elim .inl (fun h => .inr ⟨h.1, hl⟩)) hrA, Lay.rd_weak (fun b hb hl => .inr ⟨hb.1, hl⟩) hrB, HCP.out.1, HCP.out.2, HKB.out.1, HKB.out.2, bl_gr HBF.out g5 (by omega)⟩
end Go.Proofs.Ytojghgbaiiajfaa
/- Batches cut twice are cut once. Conditions: none. -/
namespace Go.Proofs.Ytojghgbaiiajfaa
theorem cutS_idem (s : ByteArray) : cutS (cutS s) = cutS s := by
 unfold cutS
 by_cases h : s.size ≤ 41
 · rw [if_pos h, if_pos h]
 · rw [if_neg h, if_pos (by rw [ByteArray.size_extract]; omega)]
/-- a sender that was gone through once stays so -/
theorem batsC_idem (l : List BC) : batsC (batsC l) = batsC l := by
 have hv : ∀ v : VV, v.short.short = v.short := fun v => by
  obtain ⟨k, n, u, s⟩ := v
  simp only [VV.short, VV.mk.injEq, true_and]
  exact cutS_idem s
 have hr : ∀ r : List VV, shortR (shortR r) = shortR r := fun r => by
  unfold shortR
  rw [← List.map_take, List.map_map, List.take_take]
  simp [hv, Function.comp_def]
 unfold batsC
 rw [← List.map_take, List.map_map, List.take_take]
 simp only [Nat.min_self]
 refine List.map_congr_left fun b _ => ?_
 obtain ⟨rows, fin, cnt⟩ := b
 simp only [Function.comp, batC, BC.mk.injEq, and_true]
 unfold rowsC
 rw [← List.map_take, List.map_map, List.take_take]
 simp [hr, Function.comp_def]
end Go.Proofs.Ytojghgbaiiajfaa
/- A receiver cut twice is cut once. Conditions: none. -/
namespace Go.Proofs.Ytojghgbaiiajfaa
theorem batC_idem (b : BC) : batC (batC b) = batC b := by
 have h := batsC_idem [b]
 unfold batsC at h
 simpa using h
theorem recC_idem (r : RC) : recC (recC r) = recC r := by
 unfold recC
 simp only [batsC_idem]
 congr 1
 rw [← List.map_take, List.map_map, List.take_take]
 simp only [Nat.min_self]
 refine List.map_congr_left fun h _ => ?_
 simp only [Function.comp, helC, batC_idem]
end Go.Proofs.Ytojghgbaiiajfaa
