/- Rows of one's own, written to. Conditions: none. -/
import Derived.Test.YtojghgbaiiajfaaPkO11
import Derived.WalkMore
import Derived.Deep.Cut
namespace Go.Proofs.Ytojghgbaiiajfaa
open Go.RowKit
theorem own_there {α : Type} {L : Lay α} {e : TypeId} {w : World} {B n c g i j k : Nat} {G : Nat → Prop} {xs : List α} (h : L.own e w B G (some ⟨g, 0, none⟩) n c xs) (hi : i < n) (hj : j + k ≤ L.size) : w.there g (i * L.size + j) k := by
  intro x hx
  refine ⟨?_, own_frozen h _⟩
  obtain ⟨hl, cs, hreps, hrow⟩ := h
  have hcl := Lay.reps_len hreps
  have h2 : (i + 1) * L.size ≤ xs.length * L.size := Nat.mul_le_mul_right _ (by omega)
  rw [Nat.succ_mul] at h2
  have hlt : i * L.size + j + x < cs.length := by omega
  have := hrow.cells (g := g) rfl (i * L.size + j + x) _ (List.getElem?_eq_getElem hlt)
  rw [addr_zero] at this
  rw [this]; rfl
theorem exec_store_there {P : Program} {o : Oper} {a : Act} {w : World} (ty : TypeId) (x y : Operand) (ho : o.op = .store ty x y) (g k : Nat) (new : Array Value) (hx : a.eval x = .pointer (some ⟨g, k, none⟩)) (hy : a.eval y = .agg new) (hth : w.there g k new.size)
    (hi : (P.info? ty).map (·.size) = some new.size) (h1 : new.all (·.oneCell') = true) : (execOp a.eval o).run P w = .ok .skip (w.setCells g k new.toList) := by
  unfold execOp
  simp only [ho, hx, hy, Instr.storeAt, Instr.sureAddr, Sem.run_bind, Sem.run_pure, Result.andThen_ok, run_storeVar_mid w g k ty new hth hi h1]
theorem own_cells {α : Type} {L : Lay α} {e : TypeId} {w : World} {B n c : Nat} {G : Nat → Prop} {A : Option Addr} {xs : List α} (h : L.own e w B G A n c xs) : ∀ g, A = some ⟨g, 0, none⟩ → w.there g 0 (n * L.size) := by
  rintro g rfl j hj
  have hp : 0 < L.size := Nat.pos_of_ne_zero (fun h0 => by rw [h0] at hj; simp at hj)
  have h1 : j / L.size < n := (Nat.div_lt_iff_lt_mul hp).2 hj
  have := own_there h (i := j / L.size) (j := j % L.size) (k := 1) h1 (Nat.mod_lt _ hp) 0 (by omega)
  rw [Nat.zero_add]
  rw [Nat.add_zero, Nat.div_add_mod'] at this
  exact this
theorem eqSC_refl (s : SC) : eqSC s s = true := (eqSC_iff s s).2 rfl
end Go.Proofs.Ytojghgbaiiajfaa
/- link.Hear, of what changes nothing. Conditions: the rows read as these batches. -/
namespace Go.Proofs.Ytojghgbaiiajfaa
open Go.RowKit
theorem own_form2 {α : Type} {L : Lay α} {e : TypeId} {w : World} {B n c : Nat} {G : Nat → Prop} {A : Option Addr} {xs : List α} (h : L.own e w B G A n c xs) : A = none ∨ ∃ g, A = some ⟨g, 0, none⟩ := by
  obtain ⟨hl, cs, hr, ho⟩ := h
  rcases ho.2 with ⟨e, _⟩ | ⟨g, cap, _, e, _⟩
  · injection e with e1 _ _; exact .inl e1
  · injection e with e1 _ _; exact .inr ⟨g, e1⟩
theorem mine_own {α : Type} {L : Lay α} {e : TypeId} {w : World} {B n c : Nat} {G : Nat → Prop} {A : Option Addr} {xs : List α} (h : L.own e w B G A n c xs) : Mine w B A (n * L.size) := by
  rintro ad rfl
  rcases own_form2 h with h1 | ⟨g, h1⟩
  · cases h1
  · injection h1 with h1
    subst h1
    have hb := Lay.own_base h g (by simp [Value.ownBlock])
    exact ⟨g, 0, rfl, hb.1, hb.2, own_cells h g rfl⟩
/-- link.hears' answer, with its parts -/
def HearsO (Fr : Nat → Prop) (r : RC) (E : Int) (r2 : RC) (X : Nat → Prop) (Y : World → Prop) (w : World) (C : Array Value) (N : Int) (w' : World) : Prop :=
  if recB r then Chg X w w' ∧ Y w' ∧ ((E ≠ 0 ∧ C = zeroR.cells none 0 0 none 0 0 ∧ N = E) ∨ (E = 0 ∧ N = 0 ∧ ∃ A3 n3 c3 A4 m4 d4, C = r2.cells A3 n3 c3 A4 m4 d4 ∧ RecO w' (w.heap.size + 2) (fun k => k < w'.heap.size ∧ (Fr k ∨ w.heap.size + 2 ≤ k)) A3 n3 c3 A4 m4 d4 r2))
  else C = zeroR.cells none 0 0 none 0 0 ∧ N = 320 ∧ Below w.heap.size w w'
theorem hears_o {Fr : Nat → Prop} {r : RC} {E : Int} {r2 : RC} {X : Nat → Prop} {Y : World → Prop} {w w' : World} {e : Ending} (h : HearsC Fr r E r2 X Y w e w') : ∃ (t : RC) (A : Option Addr) (n c : Nat) (A2 : Option Addr) (m d : Nat) (N : Int), e = .returned (.tuple #[.agg (t.cells A n c A2 m d), .int .i64 N]) ∧ HearsO Fr r E r2 X Y w (t.cells A n c A2 m d) N w' := by
  unfold HearsC at h
  cases hs : recB r
  · rw [hs] at h
    refine ⟨zeroR, none, 0, 0, none, 0, 0, 320, h.1, ?_⟩
    unfold HearsO
    rw [hs]
    exact ⟨rfl, rfl, h.2⟩
  · rw [hs] at h
    obtain ⟨h1, h2, h3, h4⟩ := h
    by_cases hE : E = 0
    · obtain ⟨A3, n3, c3, A4, m4, d4, he, ho⟩ := h4 hE
      refine ⟨r2, A3, n3, c3, A4, m4, d4, 0, he, ?_⟩
      unfold HearsO
      rw [hs]
      exact ⟨h1, h2, .inr ⟨hE, rfl, A3, n3, c3, A4, m4, d4, rfl, ho⟩⟩
    · refine ⟨zeroR, none, 0, 0, none, 0, 0, E, h3 hE, ?_⟩
      unfold HearsO
      rw [hs]
      exact ⟨h1, h2, .inl ⟨hE, rfl, rfl⟩⟩
/-- the caller has laid blocks of its own and stores the answer into one of them -/
theorem HearsO.out {Fr : Nat → Prop} {r : RC} {E : Int} {r2 : RC} {X X' : Nat → Prop} {Y : World → Prop} {w w1 w2 w3 : World} {C : Array Value} {N : Int} {k : Nat} (h : HearsO Fr r E r2 X Y w1 C N w2) (b1 : Below w.heap.size w w1) (gz : w2.grownBy w3 (some k))
    (hFr : ∀ b, Fr b → b < k) (hk : w.heap.size ≤ k) (hk1 : k < w1.heap.size) (h2 : w.heap.size + 2 ≤ w1.heap.size) (hX : ∀ b, X b → b < w.heap.size → X' b) (hY : ∀ w1 w2, Y w1 → w1.grownBy w2 (some k) → Y w2) : HearsO Fr r E r2 X' Y w C N w3 := by
  unfold HearsO at h ⊢
  cases hs : recB r
  · rw [hs] at h
    exact ⟨h.1, h.2.1, bl_gr (bl_ca b1 (h.2.2)) gz hk⟩
  · rw [hs] at h
    obtain ⟨hc, hy, h3⟩ := h
    have hs1 := b1.size
    have hC : Chg X' w w2 := ⟨hc.os.trans b1.os, hc.tape.trans b1.tape, hc.output.trans b1.output, Nat.le_trans hs1 hc.size, fun b hb hx => (hc.block b (by omega) (fun h => hx (hX b h hb))).trans (b1.block b hb)⟩
    refine ⟨hC.grown gz (fun j e => .inr (by injection e with e; omega)), hY _ _ hy gz, ?_⟩
    rcases h3 with h3 | ⟨hE, hN, A3, n3, c3, A4, m4, d4, hC2, ho⟩
    · exact .inl h3
    · exact .inr ⟨hE, hN, A3, n3, c3, A4, m4, d4, hC2, ho.grown gz (by omega) (by omega) (fun j hj => ⟨hj.2.elim (fun h => by have := hFr j h; omega) (fun h => by omega), Nat.lt_of_lt_of_le hj.1 gz.size, hj.2.elim .inl (fun h => .inr (by omega))⟩)⟩
theorem HearsO.blk {Fr : Nat → Prop} {r : RC} {E : Int} {r2 : RC} {X : Nat → Prop} {Y : World → Prop} {w w' : World} {C : Array Value} {N : Int} {g : Nat} {t : TypeId} {cs : Array Value} (h : HearsO Fr r E r2 X Y w C N w') (hb : Blk w g t cs) (hx : ¬ X g) : Blk w' g t cs := by
  unfold HearsO at h
  cases hs : recB r
  · rw [hs] at h
    exact hb.ca h.2.2
  · rw [hs] at h
    exact hb.chg h.1 hx
/-- a packet that a receiver looks at -/
def heardA (r : RC) (pk : PK) : Bool := checkP pk && (decide (pk.kind = 1) && decide (pk.ses = r.ses))
set_option maxRecDepth 100000 in
set_option maxHeartbeats 64000000 in
theorem hear1_no (r : RC) (pk : PK) (p : Nat) (pA : Option Addr) (pn pc : Nat) (w0 : World) (Fr : Nat → Prop) (hp : Blk w0 p 47 (pk.cells pA pn pc)) (hr : LR.rd w0 Fr pA pn pk.b.rows) (hpn : pn ≤ 9223372036854775807) (hno : heardA r pk = false) :
    DoR 75 #[.pointer (some ⟨p, 0, none⟩)] w0 Fr r 0 r noX noY := by
  intro _ w g B A n c A2 m d hB _ _ _ hN ho ho2 _
  show Calls Try.prog 75 #[.pointer (some ⟨g, 0, none⟩), .pointer (some ⟨p, 0, none⟩)] w _
  have HP := Lib.hid (hp.ca hB)
  have HR := Lib.hid (Lay.rd_below hr hB)
  have HO := Lib.hid ho
  have HO2 := Lib.hid ho2
  have HN := Lib.hid hN
  clear hp hr hN ho ho2 hB
  obtain ⟨ses, next, ahead, buf, room, over⟩ := r
  obtain ⟨kind, pses, seq, plim, rows, pfin, pcnt⟩ := pk
  dsimp only at *
  obtain ⟨EP, hEP⟩ : ∃ EP : Int, EP = (if checkP ⟨kind, pses, seq, plim, ⟨rows, pfin, pcnt⟩⟩ then 0 else 321) := ⟨_, rfl⟩
  have HEP := Lib.hid hEP
  have HNO := Lib.hid (show (!decide (EP = 0) || !decide (kind = 1)) = false → (!decide (pses = ses)) = true from by
    unfold heardA at hno
    rw [hEP]
    revert hno
    cases checkP ⟨kind, pses, seq, plim, ⟨rows, pfin, pcnt⟩⟩ <;> simp)
  clear hEP hno
  go_enter Try.func75, Try.ntmps75
  go_wp2_with fail
  go_step3
  go_wp2_with fail
  refine wp_region_ps (S := fun _ _ w' => Below w.heap.size w w') (by kernel_rfl) ?spswg1 ?ppswg1
  case spswg1 =>
    exact (Below.refl w.heap.size w).drew
  refine Ps.st (i := 0) (d := some 9) (u := (.agg #[.int .i64 (kind), .int .u32 (pses), .int .u64 (seq), .int .u64 (plim), .slice pA pn pc, .bool (pfin), .int .u64 (pcnt)])) rfl rfl ?ywg1_2 ?rwg1_2
  case ywg1_2 =>
    refine StepS.read [] (by kernel_rfl) nP (by rfl) (fun L9 m9 w9 hSh hAt hDn hS => ?_)
    have hT : Below _ _ w9 := hS
    have x0 : w9.cell? ⟨p, 0, none⟩ = some (.int .i64 (kind)) := (HP.out.ca hT).cell 0
    have x1 : w9.cell? ⟨p, 1, none⟩ = some (.int .u32 (pses)) := (HP.out.ca hT).cell 1
    have x2 : w9.cell? ⟨p, 2, none⟩ = some (.int .u64 (seq)) := (HP.out.ca hT).cell 2
    have x3 : w9.cell? ⟨p, 3, none⟩ = some (.int .u64 (plim)) := (HP.out.ca hT).cell 3
    have x4 : w9.cell? ⟨p, 4, none⟩ = some (.slice pA pn pc) := (HP.out.ca hT).cell 4
    have x5 : w9.cell? ⟨p, 5, none⟩ = some (.bool (pfin)) := (HP.out.ca hT).cell 5
    have x6 : w9.cell? ⟨p, 6, none⟩ = some (.int .u64 (pcnt)) := (HP.out.ca hT).cell 6
    clear hT hS
    go_simp
    try rfl
  try simp only [Act.put, sA, sZ, sS]
  refine Ps.st (i := 1) (d := some 10) (u := (.int .i64 (EP))) rfl rfl ?ywg1_3 ?rwg1_3
  case ywg1_3 =>
    refine StepS.call ?fwg1_3 ?awg1_3 [] (by kernel_rfl) (by rfl) (fun w9 => ?hwg1_3) (fun L9 m9 w9 hSh hAt hDn hS => ?cwg1_3)
    case hwg1_3 => go_simp; refine ⟨?_, ?_⟩ <;> rfl
    case cwg1_3 =>
      have hT : Below _ _ w9 := hS
      refine (checkp_any _ ⟨kind, pses, seq, plim, ⟨rows, pfin, pcnt⟩⟩ pA pn pc w9 (Lay.rd_below HR.out hT) hpn).mono ?_
      rintro e w8 ⟨rfl, q8⟩
      exact ⟨by rw [HEP.out], bl_ca hT q8⟩
  try simp only [Act.put, sA, sZ, sS]
  refine Ps.st (i := 2) (d := some 11) (u := (.bool (!decide (EP = 0)))) rfl rfl (by exact StepS.pure nP rfl fun _ => rfl) ?_
  try simp only [Act.put, sA, sZ, sS]
  obtain ⟨bA, hb9⟩ : ∃ zb : Bool, zb = (!decide (EP = 0)) := ⟨_, rfl⟩
  have HEbA := Lib.hid hb9
  clear hb9
  refine Ps.st (i := 3) (d := some 12) (u := (.bool (bA))) rfl rfl ?ywg1_5 ?rwg1_5
  case ywg1_5 =>
    refine StepS.pure nP (by rfl) (fun w9 => ?_)
    have e9 : (!decide (EP = 0)) = bA := by rw [HEbA.out]
    rw [← e9]
    clear e9
    first | rfl | (go_simp; done) | (go_simp; rfl)
  try simp only [Act.put, sA, sZ, sS]
  refine Ps.st (i := 4) (d := some 13) (u := (cond bA (undef) (.pointer (some ⟨p, 0, none⟩)))) rfl rfl (by cases bA; (exact StepS.pure nP rfl fun _ => rfl); exact StepS.skip nP rfl) ?_
  try simp only [Act.put, sA, sZ, sS]
  refine Ps.st (i := 5) (d := some 14) (u := (cond bA (undef) (.int .i64 (kind)))) rfl rfl ?ywg1_7 ?rwg1_7
  case ywg1_7 =>
    cases bA
    · skip
      refine StepS.read [] (by kernel_rfl) nP (by rfl) (fun L9 m9 w9 hSh hAt hDn hS => ?_)
      have hT : Below _ _ w9 := hS
      have x0 : w9.cell? ⟨p, 0, none⟩ = some (.int .i64 (kind)) := (HP.out.ca hT).cell 0
      clear hT hS
      go_simp
      try rfl
    · exact StepS.skip nP (by rfl)
  try simp only [Act.put, sA, sZ, sS]
  refine Ps.st (i := 6) (d := some 15) (u := (cond bA (undef) (.bool (!decide (kind = 1))))) rfl rfl (by cases bA; (exact StepS.pure nP rfl fun _ => rfl); exact StepS.skip nP rfl) ?_
  try simp only [Act.put, sA, sZ, sS]
  refine Ps.st (i := 7) (d := some 16) (u := (.bool (bA || (!decide (kind = 1))))) rfl rfl ?ywg1_9 ?rwg1_9
  case ywg1_9 =>
    refine StepS.pure nP (by rfl) (fun w9 => ?_)
    cases bA <;> (first | rfl | (go_simp; done) | (go_simp; rfl))
  try simp only [Act.put, sA, sZ, sS]
  obtain ⟨bB, hb9⟩ : ∃ zb : Bool, zb = ((!decide (EP = 0)) || (!decide (kind = 1))) := ⟨_, rfl⟩
  have HEbB := Lib.hid hb9
  clear hb9
  refine Ps.st (i := 8) (d := some 17) (u := (.bool (bB))) rfl rfl ?ywg1_10 ?rwg1_10
  case ywg1_10 =>
    refine StepS.pure nP (by rfl) (fun w9 => ?_)
    have e9 : (bA || (!decide (kind = 1))) = bB := by rw [HEbB.out, HEbA.out]
    rw [← e9]
    clear e9
    first | rfl | (go_simp; done) | (go_simp; rfl)
  try simp only [Act.put, sA, sZ, sS]
  refine Ps.st (i := 9) (d := some 18) (u := (cond bB (undef) (.pointer (some ⟨p, 1, none⟩)))) rfl rfl (by cases bB; (exact StepS.pure nP rfl fun _ => rfl); exact StepS.skip nP rfl) ?_
  try simp only [Act.put, sA, sZ, sS]
  refine Ps.st (i := 10) (d := some 19) (u := (cond bB (undef) (.int .u32 (pses)))) rfl rfl ?ywg1_12 ?rwg1_12
  case ywg1_12 =>
    cases bB
    · skip
      refine StepS.read [] (by kernel_rfl) nP (by rfl) (fun L9 m9 w9 hSh hAt hDn hS => ?_)
      have hT : Below _ _ w9 := hS
      have x0 : w9.cell? ⟨p, 1, none⟩ = some (.int .u32 (pses)) := (HP.out.ca hT).cell 1
      clear hT hS
      go_simp
      try rfl
    · exact StepS.skip nP (by rfl)
  try simp only [Act.put, sA, sZ, sS]
  refine Ps.st (i := 11) (d := some 20) (u := (cond bB (undef) (.pointer (some ⟨g, 0, none⟩)))) rfl rfl (by cases bB; (exact StepS.pure nP rfl fun _ => rfl); exact StepS.skip nP rfl) ?_
  try simp only [Act.put, sA, sZ, sS]
  refine Ps.st (i := 12) (d := some 21) (u := (cond bB (undef) (.pointer (some ⟨g, 0, none⟩)))) rfl rfl (by cases bB; (exact StepS.pure nP rfl fun _ => by first | rfl | (go_simp; done) | (go_simp; rfl)); exact StepS.skip nP rfl) ?_
  try simp only [Act.put, sA, sZ, sS]
  refine Ps.st (i := 13) (d := some 22) (u := (cond bB (undef) (.pointer (some ⟨g, 0, none⟩)))) rfl rfl (by cases bB; (exact StepS.pure nP rfl fun _ => rfl); exact StepS.skip nP rfl) ?_
  try simp only [Act.put, sA, sZ, sS]
  refine Ps.st (i := 14) (d := some 23) (u := (cond bB (undef) (.int .u32 (ses)))) rfl rfl ?ywg1_16 ?rwg1_16
  case ywg1_16 =>
    cases bB
    · skip
      refine StepS.read [] (by kernel_rfl) nP (by rfl) (fun L9 m9 w9 hSh hAt hDn hS => ?_)
      have hT : Below _ _ w9 := hS
      have x0 : w9.cell? ⟨g, 0, none⟩ = some (.int .u32 (ses)) := (HN.out.ca hT).cell 0
      clear hT hS
      go_simp
      try rfl
    · exact StepS.skip nP (by rfl)
  try simp only [Act.put, sA, sZ, sS]
  refine Ps.st (i := 15) (d := some 24) (u := (cond bB (undef) (.bool (!decide (pses = ses))))) rfl rfl (by cases bB; (exact StepS.pure nP rfl fun _ => rfl); exact StepS.skip nP rfl) ?_
  try simp only [Act.put, sA, sZ, sS]
  refine Ps.st (i := 16) (d := some 25) (u := (.bool (true))) rfl rfl ?ywg1_18 ?rwg1_18
  case ywg1_18 =>
    refine StepS.pure nP (by rfl) (fun w9 => ?_)
    cases bB
    · have h9 := HNO.out HEbB.out.symm
      refine Eq.trans ?_ (congrArg (fun b => Result.ok (Next.value (Value.bool b)) w9) h9)
      first | rfl | (go_simp; done) | (go_simp; rfl)
    · first | rfl | (go_simp; done) | (go_simp; rfl)
  try simp only [Act.put, sA, sZ, sS]
  refine Ps.st (i := 17) (d := some 26) (u := (.bool (true))) rfl rfl (by exact StepS.pure nP rfl fun _ => rfl) ?_
  try simp only [Act.put, sA, sZ, sS]
  refine Ps.st (i := 18) (d := some 27) (u := undef) rfl rfl (by  exact StepS.skip nP rfl) ?_
  try simp only [Act.put, sA, sZ, sS]
  refine Ps.st (i := 19) (d := some 28) (u := undef) rfl rfl (by  exact StepS.skip nP rfl) ?_
  try simp only [Act.put, sA, sZ, sS]
  refine Ps.st (i := 20) (d := some 29) (u := undef) rfl rfl (by  exact StepS.skip nP rfl) ?_
  try simp only [Act.put, sA, sZ, sS]
  refine Ps.st (i := 21) (d := some 30) (u := undef) rfl rfl (by  exact StepS.skip nP rfl) ?_
  try simp only [Act.put, sA, sZ, sS]
  refine Ps.st (i := 22) (d := some 31) (u := undef) rfl rfl (by  exact StepS.skip nP rfl) ?_
  try simp only [Act.put, sA, sZ, sS]
  refine Ps.st (i := 23) (d := some 32) (u := undef) rfl rfl (by  exact StepS.skip nP rfl) ?_
  try simp only [Act.put, sA, sZ, sS]
  refine Ps.st (i := 24) (d := some 33) (u := undef) rfl rfl (by  exact StepS.skip nP rfl) ?_
  try simp only [Act.put, sA, sZ, sS]
  refine Ps.st (i := 25) (d := some 34) (u := undef) rfl rfl (by  exact StepS.skip nP rfl) ?_
  try simp only [Act.put, sA, sZ, sS]
  refine Ps.st (i := 26) (d := some 35) (u := undef) rfl rfl (by  exact StepS.skip nP rfl) ?_
  try simp only [Act.put, sA, sZ, sS]
  refine Ps.st (i := 27) (d := some 36) (u := (.bool (true))) rfl rfl (by exact StepS.pure nP rfl fun _ => rfl) ?_
  try simp only [Act.put, sA, sZ, sS]
  refine Ps.done (by kernel_rfl) (fun wg1 hS => ?_) _
  try generalize (cond bB (undef) (.pointer (some ⟨p, 1, none⟩)) : Value) = zz30
  try generalize (cond bA (undef) (.pointer (some ⟨p, 0, none⟩)) : Value) = zz31
  try generalize (cond bB (undef) (.bool (!decide (pses = ses))) : Value) = zz32
  try generalize (cond bB (undef) (.pointer (some ⟨g, 0, none⟩)) : Value) = zz33
  try generalize (cond bA (undef) (.bool (!decide (kind = 1))) : Value) = zz34
  try generalize (cond bA (undef) (.int .i64 (kind)) : Value) = zz35
  try generalize (.bool (bA || (!decide (kind = 1))) : Value) = zz36
  try generalize (cond bB (undef) (.int .u32 (pses)) : Value) = zz37
  try generalize (cond bB (undef) (.int .u32 (ses)) : Value) = zz38
  have HQ := Lib.hid (show Below w.heap.size w wg1 from hS)
  clear hS
  obtain ⟨w7, rfl⟩ : ∃ x, x = wg1 := ⟨_, rfl⟩
  go_wp2
  rw [Exit.noGoto_ret]
  go_ret
  have hoA := Lay.own_below HO.out HQ.out
  have hoB := Lay.own_below HO2.out HQ.out
  have hca := Lay.own_caps hoA
  have hcb := Lay.own_caps hoB
  exact ⟨rfl, Chg.of_below HQ.out, trivial, fun _ => ⟨A, n, c, A2, m, d, HN.out.ca HQ.out, Lay.own_rd hoA (fun b hb hl => ⟨hl, .inr hb⟩) (fun b hb hl => ⟨hl, .inl hb⟩), hca, mine_own hoA, Lay.own_rd hoB (fun b hb hl => ⟨hl, .inr hb⟩) (fun b hb hl => ⟨hl, .inl hb⟩), hcb, mine_own hoB⟩⟩
set_option maxRecDepth 100000 in
set_option maxHeartbeats 16000000 in
theorem hear_do (Fr : Nat → Prop) (r r2 : RC) (A : Option Addr) (n c : Nat) (A2 : Option Addr) (m d : Nat) (pk : PK) (pA : Option Addr) (pn pc : Nat) (w : World) (hFr : ∀ k, Fr k → k < w.heap.size) (h : LH4.rd w Fr A n r.ahead) (h2 : LB3.rd w Fr A2 m r.buf) (hr : LR.rd w Fr pA pn pk.b.rows) (hn : n ≤ 9223372036854775807) (hm : m ≤ 9223372036854775807)
    (hD : ∀ w0, Blk w0 (w.heap.size + 1) 47 (pk.cells pA pn pc) → LR.rd w0 Fr pA pn pk.b.rows → (∀ k, Fr k → k < w0.heap.size) → DoR 75 #[.pointer (some ⟨w.heap.size + 1, 0, none⟩)] w0 Fr r 0 r2 noX noY) :
    Calls Try.prog 29 #[.agg (r.cells A n c A2 m d), .agg (pk.cells pA pn pc)] w fun e w' => ∃ (t : RC) (A' : Option Addr) (n' c' : Nat) (B' : Option Addr) (m' d' : Nat) (N : Int), e = .returned (.tuple #[.agg (t.cells A' n' c' B' m' d'), .int .i64 N]) ∧ HearsO Fr r 0 r2 noX noY w (t.cells A' n' c' B' m' d') N w' := by
  have q1 := bl_al (Below.refl w.heap.size w) (.cells (r.cells A n c A2 m d) 36)
  have q2 := bl_al (Below.refl (w.alloc (.cells (r.cells A n c A2 m d) 36)).heap.size (w.alloc (.cells (r.cells A n c A2 m d) 36))) (.cells (pk.cells pA pn pc) 47)
  have q12 := bl_ca q1 q2
  have hsz2 : ((w.alloc (.cells (r.cells A n c A2 m d) 36)).alloc (.cells (pk.cells pA pn pc) 47)).heap.size = w.heap.size + 2 := by simp only [World.size_alloc]
  have HS2 := (Blk.new w 36 (r.cells A n c A2 m d)).ca q2
  have HP2 : Blk ((w.alloc (.cells (r.cells A n c A2 m d) 36)).alloc (.cells (pk.cells pA pn pc) 47)) (w.heap.size + 1) 47 (pk.cells pA pn pc) := Blk.mk' (by simp only [World.size_alloc])
  generalize hw2 : (w.alloc (.cells (r.cells A n c A2 m d) 36)).alloc (.cells (pk.cells pA pn pc) 47) = w2 at *
  have q3 := bl_al (Below.refl w2.heap.size w2) (.cells (zeroR.cells none 0 0 none 0 0) 36)
  have HZ := Lib.hid (show Blk (w2.alloc (.cells (zeroR.cells none 0 0 none 0 0) 36)) (w.heap.size + 2) 36 (zeroR.cells none 0 0 none 0 0) from by rw [← hsz2]; exact Blk.new _ _ _)
  have HB := Lib.hid (bl_ca q12 q3)
  have hsz : (w2.alloc (.cells (zeroR.cells none 0 0 none 0 0) 36)).heap.size = w.heap.size + 3 := by simp only [World.size_alloc]; omega
  have HSE := Lib.hid (hears_any Fr r A n c A2 m d 75 #[.pointer (some ⟨w.heap.size + 1, 0, none⟩)] 0 r2 noX noY _ (Lay.rd_below (Lay.rd_below h q12) q3) (Lay.rd_below (Lay.rd_below h2 q12) q3) (fun k h => by have := hFr k h; omega) hn hm (Go.Proofs.enters_of Try.func75 (by kernel_rfl) rfl)
    (hD _ (HP2.ca q3) (Lay.rd_below (Lay.rd_below hr q12) q3) (fun k h => by have := hFr k h; omega)) (fun k h => h.elim) (fun _ _ h _ => h))
  have HS := Lib.hid (HS2.ca q3)
  subst hw2
  clear h h2 hr hD q1 q2 q12 q3 HS2 HP2 hsz2
  go_enter Try.func29, Try.ntmps29
  go_wp2_with (refine wpList_load_blk rfl 36 (.tmp 2) rfl w.heap.size rfl 36 _ (r.cells A n c A2 m d) HS.out rfl rfl receiverI ?_)
  refine HSE.out.mono ?_
  clear HSE
  rintro e w4 h4
  obtain ⟨t, A', n', c', B', m', d', N, rfl, ho⟩ := hears_o h4
  have HZ4 := Lib.hid (ho.blk HZ.out (fun h => h))
  have HO := Lib.hid ho
  clear h4 ho HS HZ
  go_wp2_with (refine wpList_store_blk rfl 36 (.tmp 4) (.tmp 9) rfl (w.heap.size + 2) 36 _ (t.cells A' n' c' B' m' d') rfl rfl HZ4.out rfl receiverI (by obtain ⟨s1, s2, s3, s4, s5, s6⟩ := t; simp [Value.oneCell', RC.cells]) ?_; intro wz hZ gz)
  exact bodyPost_ret (res2 Try.results29 rfl rfl hZ Try.underlying36 rfl receiverI) rfl ⟨t, A', n', c', B', m', d', N, rfl, HO.out.out HB.out gz (fun k h => by have := hFr k h; omega) (by omega) (by omega) (by omega) (fun b h _ => h.elim) (fun _ _ h _ => h)⟩
end Go.Proofs.Ytojghgbaiiajfaa
/- bowspritlaw22.batch, packet, sender, batches. Conditions: the slices read so. -/
namespace Go.Proofs.Ytojghgbaiiajfaa
open Go.RowKit
theorem batchI : (Try.prog.info? 45).map (·.size) = some 3 := by kernel_rfl
theorem packetI : (Try.prog.info? 47).map (·.size) = some 7 := by kernel_rfl
def batC (b : BC) : BC := ⟨rowsC b.rows, b.fin, b.cnt⟩
def batsC (l : List BC) : List BC := (l.take 9).map batC
def pakC (p : PK) : PK := ⟨p.kind, p.ses, p.seq, p.lim, batC p.b⟩
def senC (s : SC) : SC := ⟨s.ses, s.base, batsC s.q, s.sent, s.lim, s.timer, s.ended⟩

set_option maxRecDepth 100000 in
set_option maxHeartbeats 8000000 in
theorem batchC_any (F : Nat → Prop) (b : BC) (A : Option Addr) (n c : Nat) (w : World) (h : LR.rd w F A n b.rows) (hnc : n ≤ c) (hc : c ≤ 9223372036854775807) :
    Calls Try.prog 67 #[.agg (b.cells A n c)] w fun e w' => ∃ A2 k2 c2, e = .returned (.agg ((batC b).cells A2 k2 c2)) ∧ LR.rd w' (Since w w') A2 k2 (rowsC b.rows) ∧ k2 ≤ c2 ∧ c2 ≤ 9223372036854775807 ∧ Below w.heap.size w w' := by
  obtain ⟨rows, fin, cnt⟩ := b
  dsimp only at h
  have q1 := bl_al (Below.refl w.heap.size w) (.cells #[.slice A n c, .bool fin, .int .u64 cnt] 45)
  have q2 := bl_al q1 (.cells #[.slice none 0 0, .bool false, .int .u64 0] 45)
  have HC := Lib.hid (rowsC_any F A n c rows ((w.alloc (.cells #[.slice A n c, .bool fin, .int .u64 cnt] 45)).alloc (.cells #[.slice none 0 0, .bool false, .int .u64 0] 45)) (Lay.rd_below h q2) hnc hc)
  have HB1 := Lib.hid ((Blk.new w 45 #[.slice A n c, .bool fin, .int .u64 cnt]).alloc (.cells #[.slice none 0 0, .bool false, .int .u64 0] 45))
  have HB2 := Lib.hid (show Blk ((w.alloc (.cells #[.slice A n c, .bool fin, .int .u64 cnt] 45)).alloc (.cells #[.slice none 0 0, .bool false, .int .u64 0] 45)) (w.heap.size + 1) 45 #[.slice none 0 0, .bool false, .int .u64 0] from by have := Blk.new (w.alloc (.cells #[.slice A n c, .bool fin, .int .u64 cnt] 45)) 45 #[.slice none 0 0, .bool false, .int .u64 0]; simp only [World.size_alloc] at this; exact this)
  have HQ2 := Lib.hid q2
  have hs2 : ((w.alloc (.cells #[.slice A n c, .bool fin, .int .u64 cnt] 45)).alloc (.cells #[.slice none 0 0, .bool false, .int .u64 0] 45)).heap.size = w.heap.size + 2 := by simp only [World.size_alloc]
  have x0 := HB1.out.cell 0
  clear h q1 q2
  go_enter Try.func67, Try.ntmps67
  go_wp2_with fail
  clear x0
  generalize ((w.alloc (.cells #[.slice A n c, .bool fin, .int .u64 cnt] 45)).alloc (.cells #[.slice none 0 0, .bool false, .int .u64 0] 45)) = w2 at *
  refine HC.out.mono ?_
  rintro e w3 ⟨A2, k2, c2, rfl, ho, q3⟩
  have hcap := Lay.own_caps ho
  have b1 := HB1.out.ca q3
  have b2 := HB2.out.ca q3
  have hs3 := q3.size
  have hrd := Lay.rd_weak (fun b hb _ => (show w.heap.size + 2 ≤ b ∧ b < w3.heap.size from ⟨by have := hb.1; omega, hb.2⟩)) (Lay.own_rd (F := Since w2 w3) ho (fun b h1 h2 => ⟨h1, h2⟩) (fun b hb _ => hb))
  have z0 := b1.frozen 0
  have y0 := b1.cell 0
  have f1 : Blk (w3.setCell ⟨w.heap.size, 0, none⟩ (.slice A2 k2 c2)) w.heap.size 45 #[.slice A2 k2 c2, .bool fin, .int .u64 cnt] := b1.set_ 0 _
  have f2 := b2.far (p := ⟨w.heap.size, 0, none⟩) (by show w.heap.size + 1 ≠ w.heap.size; omega) (.slice A2 k2 c2)
  have hq := bl_ca HQ2.out q3
  have hsz : (w3.setCell ⟨w.heap.size, 0, none⟩ (.slice A2 k2 c2)).heap.size = w3.heap.size := by simp
  have hq2 := hq.setCell (p := ⟨w.heap.size, 0, none⟩) (Nat.le_refl _) (.slice A2 k2 c2)
  have hrd2 : LR.rd (w3.setCell ⟨w.heap.size, 0, none⟩ (.slice A2 k2 c2)) (fun b => w.heap.size + 2 ≤ b ∧ b < w3.heap.size) A2 k2 (rowsC rows) := Lay.rd_keep (fun b hb _ => Below.heap_setCell w3 ⟨w.heap.size, 0, none⟩ _ b (by show b ≠ w.heap.size; omega)) hrd
  have HF1 := Lib.hid f1
  have HF2 := Lib.hid f2
  have HQ4 := Lib.hid hq2
  have HR4 := Lib.hid hrd2
  have HSZ := Lib.hid hsz
  have HCP := Lib.hid hcap
  clear ho q3 b1 b2 hrd f1 f2 hq hq2 hrd2 hsz HC hcap
  go_upto_region 2 with fail
  clear z0 y0
  generalize w3.setCell ⟨w.heap.size, 0, none⟩ (.slice A2 k2 c2) = w4 at *
  go_wp2_with (first | (refine wpList_load_blk rfl 45 (.tmp 1) rfl w.heap.size rfl 45 _ _ HF1.out Try.underlying45 rfl batchI ?_) | (refine wpList_store_blk rfl 45 (.tmp 2) (.tmp 7) rfl (w.heap.size + 1) 45 _ #[.slice A2 k2 c2, .bool fin, .int .u64 cnt] rfl rfl HF2.out rfl batchI (by simp [Value.oneCell']) ?_; intro w5 h5 g5))
  have hs5 := g5.size
  refine bodyPost_ret (res1 Try.results67 rfl h5 Try.underlying45 rfl batchI) rfl ⟨A2, k2, c2, rfl, Lay.rd_weak (fun b hb _ => ⟨by omega, ?_⟩) (Lay.rd_keep (fun b hb hl => g5.block b hl (fun e => by injection e with e; omega)) HR4.out), HCP.out.1, HCP.out.2, bl_gr HQ4.out g5 (by omega)⟩
  rw [HSZ.out] at hs5
  omega

set_option maxRecDepth 100000 in
set_option maxHeartbeats 8000000 in
theorem batsC_any (F : Nat → Prop) (A : Option Addr) (m c : Nat) (l : List BC) (w : World) (h : LB3.rd w F A m l) (hmc : m ≤ c) (hc : c ≤ 9223372036854775807) :
    Calls Try.prog 51 #[.slice A m c] w fun e w' => ∃ A2 k2 c2, e = .returned (.slice A2 k2 c2) ∧ LB3.rd w' (Since w w') A2 k2 (batsC l) ∧ k2 ≤ c2 ∧ c2 ≤ 9223372036854775807 ∧ Below w.heap.size w w' := by
  have HC := Lib.hid (cutB F A m c 9 l w h hmc hc (by omega))
  rw [show ((9 : Nat) : Int) = 9 from rfl] at HC
  obtain ⟨kk, hkk⟩ : ∃ kk, kk = min m 9 := ⟨_, rfl⟩
  rw [← hkk] at HC
  have hkk9 : kk ≤ 9 := by omega
  obtain ⟨l5, hl5⟩ : ∃ l5, l5 = l.take 9 := ⟨_, rfl⟩
  rw [← hl5] at HC
  rw [show batsC l = l5.map batC from by rw [hl5]; rfl]
  clear h hmc hc hkk hl5
  go_enter Try.func51, Try.ntmps51
  go_wp2_with fail
  refine HC.out.mono ?_
  clear HC
  rintro e w1 ⟨A1, c1, rfl, ho1, q1⟩
  have HLN := Lib.hid (Lay.own_len ho1)
  have hcp := (Lay.own_caps ho1).1
  have HR1 := Lib.hid (Lay.own_rd (F := fun _ => True) ho1 (fun _ _ _ => trivial) (fun _ _ _ => trivial))
  have HQ1 := Lib.hid q1
  have hs1 := q1.size
  clear ho1 q1
  go_wp2_with fail
  go_loopg [3, 9] kk (fun g o s wr => ∃ (i c' : Nat) (A' : Option Addr), i + g = kk ∧ s = .int .i64 i ∧ o = .slice A' i c' ∧ LB3.own 45 wr w1.heap.size (Since w1 wr) A' i c' ((l5.map batC).take i) ∧ Below w1.heap.size w1 wr)
  case atStart => exact ⟨0, 0, none, by omega, rfl, rfl, by simpa using Lay.own_nil w1 w1.heap.size, Below.refl _ _⟩
  case round =>
    obtain ⟨i, c', A', hig, rfl, rfl, ho, bb⟩ := hrel
    have HO := Lib.hid ho
    have HBB := Lib.hid bb
    have hsr := bb.size
    by_cases hi : i < kk
    · have hi1 : (i : Int) < (kk : Int) := by omega
      obtain ⟨ad, ⟨rows, fin, cnt⟩, Ar, nr, cr, rfl, hri, sb⟩ := LB3_at (Lay.rd_below HR1.out bb) hi
      have e0 := sb.c0
      have e1 := sb.c1
      have e2 := sb.c2
      dsimp only at e0 e1 e2
      have HS := Lib.hid (show (l5.map batC).take (i + 1) = (l5.map batC).take i ++ [batC ⟨rows, fin, cnt⟩] from by rw [List.take_add_one, List.getElem?_map, hri]; rfl)
      have q5 := bl_al (Below.refl wr.heap.size wr) (.cells #[.slice Ar nr cr, .bool fin, .int .u64 cnt] 45)
      have HCV := Lib.hid (batchC_any _ ⟨rows, fin, cnt⟩ Ar nr cr _ (Lay.rd_below sb.rd q5) sb.nc sb.cm)
      have HQ5 := Lib.hid q5
      have HN := Lib.hid (Blk.new wr 45 #[.slice Ar nr cr, .bool fin, .int .u64 cnt])
      have x0 := HN.out.cell 0
      have x1 := HN.out.cell 1
      have x2 := HN.out.cell 2
      have hw5 : (wr.alloc (.cells #[.slice Ar nr cr, .bool fin, .int .u64 cnt] 45)).heap.size = wr.heap.size + 1 := by simp only [World.size_alloc]
      clear hri sb q5 ho bb
      go_upto_region 5 with fail
      clear e0 e1 e2
      go_wp2_with fail
      clear x0 x1 x2
      generalize wr.alloc (.cells #[.slice Ar nr cr, .bool fin, .int .u64 cnt] 45) = w5 at *
      refine HCV.out.mono ?_
      clear HCV
      rintro e w2 ⟨A2, k2, c2, rfl, hrd, hk2, hkc2, q2⟩
      have q52 := bl_ca HQ5.out q2
      have hs2 := q52.size
      have hs25 := q2.size
      have hob := fun b (e : (Value.slice A' i c').ownBlock = some b) => (by obtain ⟨_, _, _, hrow⟩ := HO.out; exact own_base' hrow b e : w1.heap.size ≤ b ∧ b < wr.heap.size)
      have hrep : LB3.rep w2 (fun b => Since w1 w2 b ∧ (Value.slice A' i c').ownBlock ≠ some b) (batC ⟨rows, fin, cnt⟩) #[.slice A2 k2 c2, .bool fin, .int .u64 cnt].toList := ⟨A2, k2, c2, rfl, hk2, hkc2, Lay.rd_weak (fun b hb _ => ⟨⟨by have := hb.1; omega, hb.2⟩, fun e => by have := (hob b e).2; have := hb.1; omega⟩) hrd⟩
      have ho2 := Lay.own_weak (G' := Since w1 w2) (fun b hb _ => ⟨hb.1, Nat.lt_of_lt_of_le hb.2 hs2⟩) (own_below2 HO.out q52)
      have ho3 := Lay.own_alloc ho2 (.cells #[.slice A2 k2 c2, .bool fin, .int .u64 cnt] 45)
      have hb2 := Blk.new w2 45 #[.slice A2 k2 c2, .bool fin, .int .u64 cnt]
      have hrep3 := LB3.keep (fun b hb hlt => Below.heap_alloc w2 (.cells #[.slice A2 k2 c2, .bool fin, .int .u64 cnt] 45) b hlt) hrep
      have b3 := bl_al (HBB.out.trans (q52.mono hsr)) (.cells #[.slice A2 k2 c2, .bool fin, .int .u64 cnt] 45)
      have hszz := b3.size
      have hGG : ∀ b, Since w1 w2 b → b < (w2.alloc (.cells #[.slice A2 k2 c2, .bool fin, .int .u64 cnt] 45)).heap.size := fun b hb => by have := hb.2; simp only [World.size_alloc]; omega
      clear hrep ho2 hrd hob
      go_wp2_with (at_builtin; refine wpList_appL (L := LB3) rfl (.tmp 13) (.tmp 16) 27 rfl (.agg #[.slice none 0 0, .bool false, .int .u64 0]) 3 40 Try.underlying27 infoB rfl rfl (by omega) w1.heap.size (Since w1 w2) A' i c' ((l5.map batC).take i) w2.heap.size 1 45 #[.slice A2 k2 c2, .bool fin, .int .u64 cnt] (batC ⟨rows, fin, cnt⟩) rfl rfl ho3 hb2 hrep3 hGG (by omega) (by simp only [maxLen]; omega) hszz ?_; intro A4 c4 w4 ho4 b4)
      have ho5 := Lay.own_weak (G' := Since w1 w4) (fun b hb hlt => ⟨hb.1, hlt⟩) ho4
      go_roundg (gk - 1)
      · exact ⟨i + 1, c4, A4, by omega, by go_num, rfl, by rw [HS.out]; exact ho5, b3.trans b4⟩
      · omega
    · obtain rfl : i = kk := by omega
      have hi1 : (i : Int) ≤ (i : Int) := by omega
      have e : (l5.map batC).take i = l5.map batC := List.take_of_length_le (by rw [List.length_map, HLN.out]; exact Nat.le_refl _)
      rw [e] at ho
      have hcap := Lay.own_caps ho
      have HF := Lib.hid (Lay.own_rd (F := Since w wr) ho (fun b h1 h2 => ⟨by omega, h2⟩) (fun b hb hl => ⟨by have := hb.1; omega, hl⟩))
      have HBF := Lib.hid (bl_ca HQ1.out bb)
      have HCAP := Lib.hid hcap
      clear e ho bb hcap
      go_wp2
      go_ret
      exact ⟨A', i, c', rfl, HF.out, HCAP.out.1, HCAP.out.2, HBF.out⟩

set_option maxRecDepth 100000 in
set_option maxHeartbeats 8000000 in
theorem senderC_any (F : Nat → Prop) (s : SC) (A : Option Addr) (n c : Nat) (w : World) (h : LB3.rd w F A n s.q) (hnc : n ≤ c) (hc : c ≤ 9223372036854775807) :
    Calls Try.prog 15 #[.agg (s.cells A n c)] w fun e w' => ∃ A2 k2 c2, e = .returned (.agg ((senC s).cells A2 k2 c2)) ∧ LB3.rd w' (Since w w') A2 k2 (batsC s.q) ∧ k2 ≤ c2 ∧ c2 ≤ 9223372036854775807 ∧ Below w.heap.size w w' := by
  obtain ⟨ses, base, q, sent, lim, timer, ended⟩ := s
  dsimp only at h
  have q1 := bl_al (Below.refl w.heap.size w) (.cells #[.int .u32 ses, .int .u64 base, .slice A n c, .int .u64 sent, .int .u64 lim, .int .i64 timer, .bool ended] 29)
  have q2 := bl_al q1 (.cells #[.int .u32 0, .int .u64 0, .slice none 0 0, .int .u64 0, .int .u64 0, .int .i64 0, .bool false] 29)
  have HC := Lib.hid (batsC_any F A n c q ((w.alloc (.cells #[.int .u32 ses, .int .u64 base, .slice A n c, .int .u64 sent, .int .u64 lim, .int .i64 timer, .bool ended] 29)).alloc (.cells #[.int .u32 0, .int .u64 0, .slice none 0 0, .int .u64 0, .int .u64 0, .int .i64 0, .bool false] 29)) (Lay.rd_below h q2) hnc hc)
  have HB1 := Lib.hid ((Blk.new w 29 #[.int .u32 ses, .int .u64 base, .slice A n c, .int .u64 sent, .int .u64 lim, .int .i64 timer, .bool ended]).alloc (.cells #[.int .u32 0, .int .u64 0, .slice none 0 0, .int .u64 0, .int .u64 0, .int .i64 0, .bool false] 29))
  have HB2 := Lib.hid (show Blk ((w.alloc (.cells #[.int .u32 ses, .int .u64 base, .slice A n c, .int .u64 sent, .int .u64 lim, .int .i64 timer, .bool ended] 29)).alloc (.cells #[.int .u32 0, .int .u64 0, .slice none 0 0, .int .u64 0, .int .u64 0, .int .i64 0, .bool false] 29)) (w.heap.size + 1) 29 #[.int .u32 0, .int .u64 0, .slice none 0 0, .int .u64 0, .int .u64 0, .int .i64 0, .bool false] from by have := Blk.new (w.alloc (.cells #[.int .u32 ses, .int .u64 base, .slice A n c, .int .u64 sent, .int .u64 lim, .int .i64 timer, .bool ended] 29)) 29 #[.int .u32 0, .int .u64 0, .slice none 0 0, .int .u64 0, .int .u64 0, .int .i64 0, .bool false]; simp only [World.size_alloc] at this; exact this)
  have HQ2 := Lib.hid q2
  have hs2 : ((w.alloc (.cells #[.int .u32 ses, .int .u64 base, .slice A n c, .int .u64 sent, .int .u64 lim, .int .i64 timer, .bool ended] 29)).alloc (.cells #[.int .u32 0, .int .u64 0, .slice none 0 0, .int .u64 0, .int .u64 0, .int .i64 0, .bool false] 29)).heap.size = w.heap.size + 2 := by simp only [World.size_alloc]
  have x2 := HB1.out.cell 2
  clear h q1 q2
  go_enter Try.func15, Try.ntmps15
  go_wp2_with fail
  clear x2
  generalize ((w.alloc (.cells #[.int .u32 ses, .int .u64 base, .slice A n c, .int .u64 sent, .int .u64 lim, .int .i64 timer, .bool ended] 29)).alloc (.cells #[.int .u32 0, .int .u64 0, .slice none 0 0, .int .u64 0, .int .u64 0, .int .i64 0, .bool false] 29)) = w2 at *
  refine HC.out.mono ?_
  rintro e w3 ⟨A2, k2, c2, rfl, ho1, ho2, ho3, q3⟩
  have ho := And.intro ho1 (And.intro ho2 ho3)
  have hcap := (And.intro ho.2.1 ho.2.2)
  have b1 := HB1.out.ca q3
  have b2 := HB2.out.ca q3
  have hs3 := q3.size
  have hrd := Lay.rd_weak (fun b hb _ => (show w.heap.size + 2 ≤ b ∧ b < w3.heap.size from ⟨by have := hb.1; omega, hb.2⟩)) ho.1
  have z0 := b1.frozen 2
  have y0 := b1.cell 2
  have f1 : Blk (w3.setCell ⟨w.heap.size, 2, none⟩ (.slice A2 k2 c2)) w.heap.size 29 #[.int .u32 ses, .int .u64 base, .slice A2 k2 c2, .int .u64 sent, .int .u64 lim, .int .i64 timer, .bool ended] := b1.set_ 2 _
  have f2 := b2.far (p := ⟨w.heap.size, 2, none⟩) (by show w.heap.size + 1 ≠ w.heap.size; omega) (.slice A2 k2 c2)
  have hq := bl_ca HQ2.out q3
  have hsz : (w3.setCell ⟨w.heap.size, 2, none⟩ (.slice A2 k2 c2)).heap.size = w3.heap.size := by simp
  have hq2 := hq.setCell (p := ⟨w.heap.size, 2, none⟩) (Nat.le_refl _) (.slice A2 k2 c2)
  have hrd2 : LB3.rd (w3.setCell ⟨w.heap.size, 2, none⟩ (.slice A2 k2 c2)) (fun b => w.heap.size + 2 ≤ b ∧ b < w3.heap.size) A2 k2 (batsC q) := Lay.rd_keep (fun b hb _ => Below.heap_setCell w3 ⟨w.heap.size, 2, none⟩ _ b (by show b ≠ w.heap.size; omega)) hrd
  have HF1 := Lib.hid f1
  have HF2 := Lib.hid f2
  have HQ4 := Lib.hid hq2
  have HR4 := Lib.hid hrd2
  have HSZ := Lib.hid hsz
  have HCP := Lib.hid hcap
  clear ho ho1 ho2 ho3 q3 b1 b2 hrd f1 f2 hq hq2 hrd2 hsz HC hcap
  go_upto_region 2 with fail
  clear z0 y0
  generalize w3.setCell ⟨w.heap.size, 2, none⟩ (.slice A2 k2 c2) = w4 at *
  go_wp2_with (first | (refine wpList_load_blk rfl 29 (.tmp 1) rfl w.heap.size rfl 29 _ _ HF1.out Try.underlying29 rfl senderI ?_) | (refine wpList_store_blk rfl 29 (.tmp 2) (.tmp 7) rfl (w.heap.size + 1) 29 _ #[.int .u32 ses, .int .u64 base, .slice A2 k2 c2, .int .u64 sent, .int .u64 lim, .int .i64 timer, .bool ended] rfl rfl HF2.out rfl senderI (by simp [Value.oneCell']) ?_; intro w5 h5 g5))
  have hs5 := g5.size
  refine bodyPost_ret (res1 Try.results15 rfl h5 Try.underlying29 rfl senderI) rfl ⟨A2, k2, c2, rfl, Lay.rd_weak (fun b hb _ => ⟨by omega, ?_⟩) (Lay.rd_keep (fun b hb hl => g5.block b hl (fun e => by injection e with e; omega)) HR4.out), HCP.out.1, HCP.out.2, bl_gr HQ4.out g5 (by omega)⟩
  rw [HSZ.out] at hs5
  omega

set_option maxRecDepth 100000 in
set_option maxHeartbeats 8000000 in
theorem packetC_any (F : Nat → Prop) (p : PK) (A : Option Addr) (n c : Nat) (w : World) (h : LR.rd w F A n p.b.rows) (hnc : n ≤ c) (hc : c ≤ 9223372036854775807) :
    Calls Try.prog 26 #[.agg (p.cells A n c)] w fun e w' => ∃ A2 k2 c2, e = .returned (.agg ((pakC p).cells A2 k2 c2)) ∧ LR.rd w' (Since w w') A2 k2 (rowsC p.b.rows) ∧ k2 ≤ c2 ∧ c2 ≤ 9223372036854775807 ∧ Below w.heap.size w w' := by
  obtain ⟨kind, ses, seq, lim, rows, fin, cnt⟩ := p
  dsimp only at h
  have q1 := bl_al (Below.refl w.heap.size w) (.cells #[.int .i64 kind, .int .u32 ses, .int .u64 seq, .int .u64 lim, .slice A n c, .bool fin, .int .u64 cnt] 47)
  have q2 := bl_al q1 (.cells #[.int .i64 0, .int .u32 0, .int .u64 0, .int .u64 0, .slice none 0 0, .bool false, .int .u64 0] 47)
  have HC := Lib.hid (batchC_any F ⟨rows, fin, cnt⟩ A n c ((w.alloc (.cells #[.int .i64 kind, .int .u32 ses, .int .u64 seq, .int .u64 lim, .slice A n c, .bool fin, .int .u64 cnt] 47)).alloc (.cells #[.int .i64 0, .int .u32 0, .int .u64 0, .int .u64 0, .slice none 0 0, .bool false, .int .u64 0] 47)) (Lay.rd_below h q2) hnc hc)
  have HB1 := Lib.hid ((Blk.new w 47 #[.int .i64 kind, .int .u32 ses, .int .u64 seq, .int .u64 lim, .slice A n c, .bool fin, .int .u64 cnt]).alloc (.cells #[.int .i64 0, .int .u32 0, .int .u64 0, .int .u64 0, .slice none 0 0, .bool false, .int .u64 0] 47))
  have HB2 := Lib.hid (show Blk ((w.alloc (.cells #[.int .i64 kind, .int .u32 ses, .int .u64 seq, .int .u64 lim, .slice A n c, .bool fin, .int .u64 cnt] 47)).alloc (.cells #[.int .i64 0, .int .u32 0, .int .u64 0, .int .u64 0, .slice none 0 0, .bool false, .int .u64 0] 47)) (w.heap.size + 1) 47 #[.int .i64 0, .int .u32 0, .int .u64 0, .int .u64 0, .slice none 0 0, .bool false, .int .u64 0] from by have := Blk.new (w.alloc (.cells #[.int .i64 kind, .int .u32 ses, .int .u64 seq, .int .u64 lim, .slice A n c, .bool fin, .int .u64 cnt] 47)) 47 #[.int .i64 0, .int .u32 0, .int .u64 0, .int .u64 0, .slice none 0 0, .bool false, .int .u64 0]; simp only [World.size_alloc] at this; exact this)
  have HQ2 := Lib.hid q2
  have hs2 : ((w.alloc (.cells #[.int .i64 kind, .int .u32 ses, .int .u64 seq, .int .u64 lim, .slice A n c, .bool fin, .int .u64 cnt] 47)).alloc (.cells #[.int .i64 0, .int .u32 0, .int .u64 0, .int .u64 0, .slice none 0 0, .bool false, .int .u64 0] 47)).heap.size = w.heap.size + 2 := by simp only [World.size_alloc]
  have x4 := HB1.out.cell 4
  have x5 := HB1.out.cell 5
  have x6 := HB1.out.cell 6
  clear h q1 q2
  go_enter Try.func26, Try.ntmps26
  go_wp2_with fail
  clear x4 x5 x6
  generalize ((w.alloc (.cells #[.int .i64 kind, .int .u32 ses, .int .u64 seq, .int .u64 lim, .slice A n c, .bool fin, .int .u64 cnt] 47)).alloc (.cells #[.int .i64 0, .int .u32 0, .int .u64 0, .int .u64 0, .slice none 0 0, .bool false, .int .u64 0] 47)) = w2 at *
  refine HC.out.mono ?_
  rintro e w3 ⟨A2, k2, c2, rfl, hr, hk2, hkc2, q3⟩
  have hs3 := q3.size
  have HK1 := Lib.hid (HB1.out.ca q3)
  have HK2 := Lib.hid (HB2.out.ca q3)
  have HQ3 := Lib.hid (bl_ca HQ2.out q3)
  have HR3 := Lib.hid hr
  clear hr q3 HC
  go_wp2_with (first | (refine wpList_store_part rfl 45 (.tmp 6) (.tmp 5) rfl w.heap.size 4 47 #[.int .i64 kind, .int .u32 ses, .int .u64 seq, .int .u64 lim, .slice A n c, .bool fin, .int .u64 cnt] #[.slice A2 k2 c2, .bool fin, .int .u64 cnt] #[.int .i64 kind, .int .u32 ses, .int .u64 seq, .int .u64 lim, .slice A2 k2 c2, .bool fin, .int .u64 cnt] rfl rfl HK1.out (by simp) batchI (by simp [Value.oneCell']) rfl ?_; intro w4 f1 g4; have HF1 := Lib.hid f1; have HF2 := Lib.hid (HK2.out.grown g4 (by simp)); have HG4 := Lib.hid g4; clear f1 g4) | (refine wpList_load_blk rfl 47 (.tmp 1) rfl w.heap.size rfl 47 _ _ HF1.out Try.underlying47 rfl packetI ?_) | (refine wpList_store_blk rfl 47 (.tmp 2) (.tmp 7) rfl (w.heap.size + 1) 47 _ #[.int .i64 kind, .int .u32 ses, .int .u64 seq, .int .u64 lim, .slice A2 k2 c2, .bool fin, .int .u64 cnt] rfl rfl HF2.out rfl packetI (by simp [Value.oneCell']) ?_; intro w5 h5 g5))
  have hs5 := g5.size
  have hs4 := HG4.out.size
  have hrr := Lay.rd_keep (fun b hb hl => HG4.out.block b hl (fun e => by injection e with e; have := hb.1; omega)) HR3.out
  have hrr2 := Lay.rd_keep (fun b hb hl => g5.block b hl (fun e => by injection e with e; have := hb.1; omega)) hrr
  exact bodyPost_ret (res1 Try.results26 rfl h5 Try.underlying47 rfl packetI) rfl ⟨A2, k2, c2, rfl, Lay.rd_weak (fun b hb _ => ⟨by have := hb.1; omega, by have := hb.2; omega⟩) hrr2, hk2, hkc2, bl_gr (bl_gr HQ3.out HG4.out (by omega)) g5 (by omega)⟩

end Go.Proofs.Ytojghgbaiiajfaa
