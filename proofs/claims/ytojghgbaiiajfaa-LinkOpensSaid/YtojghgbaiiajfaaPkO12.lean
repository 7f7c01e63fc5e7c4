/- link.Acked$1. Conditions: the queue reads as these batches, the packet as this. -/
import Derived.Test.YtojghgbaiiajfaaPkO11
namespace Go.Proofs.Ytojghgbaiiajfaa
open Go.RowKit
def ackedB (s : SC) (p : PK) : Bool := checkP p && (decide (p.kind = 2) && (decide (p.ses = s.ses) && (decide (s.base ≤ p.seq) && (decide (p.seq ≤ s.sent + 1) && decide (p.seq ≤ 1099511627776)))))
def ackedR (s : SC) (p : PK) : SC := if ackedB s p then ⟨s.ses, p.seq, s.q.drop (p.seq - s.base).toNat, s.sent, if s.lim ≤ p.lim then p.lim else s.lim, if 0 < p.seq - s.base ∨ s.sent < p.seq then 0 else s.timer, s.ended⟩ else s
def AckedC (g B : Nat) (Fr : Nat → Prop) (A : Option Addr) (n c : Nat) (s2 : SC) (w : World) (e : Ending) (w' : World) : Prop :=
  e = .returned (.int .i64 0) ∧ Chg (fun k => k = g ∨ (Value.slice A n c).ownBlock = some k ∨ noX k) w w' ∧ noY w' ∧
      ((0 : Int) = 0 → ∃ A2 n2 c2, Blk w' g 29 (s2.cells A2 n2 c2) ∧ LB3.own 45 w' B (fun k => k < w'.heap.size ∧ (Fr k ∨ B ≤ k)) A2 n2 c2 s2.q)
theorem acked_no {g B : Nat} {Fr : Nat → Prop} {A : Option Addr} {n c : Nat} {s : SC} {p : PK} {w w' : World} {e : Ending} (h : ackedB s p = false) (h1 : e = .returned (.int .i64 0)) (h2 : Below w.heap.size w w') (hN : Blk w g 29 (s.cells A n c)) (ho : LB3.own 45 w B Fr A n c s.q) : AckedC g B Fr A n c (ackedR s p) w e w' := by
  unfold AckedC ackedR
  rw [h]
  exact ⟨h1, Chg.of_below h2, trivial, fun _ => ⟨A, n, c, hN.ca h2, Lay.own_weak (fun k hk hl => ⟨hl, .inl hk⟩) (Lay.own_below ho h2)⟩⟩
theorem acked_yes {g B : Nat} {Fr : Nat → Prop} {A : Option Addr} {n c : Nat} {ses base sent lim timer mx tm : Int} {q : List BC} {ended : Bool} {seq plim : Int} {b : BC} {A2 : Option Addr} {kk c2 : Nat} {w w8 w' : World} {e : Ending}
    (h : ackedB ⟨ses, base, q, sent, lim, timer, ended⟩ ⟨2, ses, seq, plim, b⟩ = true) (h1 : e = .returned (.int .i64 0)) (h2 : Below w.heap.size w w8) (h3 : Chg (fun k => k = g) w8 w')
    (hN : Blk w' g 29 #[.int .u32 ses, .int .u64 seq, .slice A2 (n - kk) c2, .int .u64 sent, .int .u64 mx, .int .i64 tm, .bool ended]) (ho : LB3.own 45 w' B (fun k => Fr k ∨ B ≤ k) A2 (n - kk) c2 (q.drop kk))
    (hk : seq - base = (kk : Int)) (hm : mx = if lim ≤ plim then plim else lim) (ht : tm = if 0 < seq - base ∨ sent < seq then 0 else timer) : AckedC g B Fr A n c (ackedR ⟨ses, base, q, sent, lim, timer, ended⟩ ⟨2, ses, seq, plim, b⟩) w e w' := by
  subst hm ht
  unfold AckedC ackedR
  rw [h, if_pos rfl]
  refine ⟨h1, (Chg.of_below h2).trans (h3.weak (fun b _ h => .inl h)), trivial, fun _ => ⟨A2, n - kk, c2, hN, ?_⟩⟩
  dsimp only
  rw [hk, Int.toNat_natCast]
  exact Lay.own_weak (fun k hk hl => ⟨hl, hk⟩) ho
theorem cntD_lt {L : Array Bool} {k : Nat} : ∀ {ks : List Nat}, k ∈ ks → Dn L k = false → cntD L ks < ks.length
  | [], h, _ => by cases h
  | j :: ks, h, hd => by
    have hle : ∀ l : List Nat, cntD L l ≤ l.length := fun l => by
      induction l with
      | nil => exact Nat.le_refl _
      | cons a l ih => unfold cntD; rw [List.length_cons]; split <;> omega
    unfold cntD
    rw [List.length_cons]
    rcases List.mem_cons.1 h with rfl | h
    · rw [hd]; have := hle ks; simp; omega
    · have := cntD_lt h hd; split <;> omega
theorem SeqN.zero {ks : List Nat} {B : Nat → (Nat → Value) → World → Prop} {L : Array Bool} {m : Nat → Value} {w : World} (h : ∀ x ∈ ks, Dn L x = false) (hS : SeqN ks B L m w) : B 0 m w := by
  unfold SeqN at hS
  rw [cntD_none h] at hS
  exact hS
theorem SeqN.lt {T : World → Prop} {ks : List Nat} {k : Nat} {B : Nat → (Nat → Value) → World → Prop} {L : Array Bool} {m : Nat → Value} {w : World} (hk : k ∈ ks) (hd : Dn L k = false) (t : ∀ j m w, j < ks.length → B j m w → T w) (hS : SeqN ks B L m w) : T w := t _ _ _ (cntD_lt hk hd) hS
set_option maxRecDepth 100000 in
set_option maxHeartbeats 16000000 in
theorem acked1_do (s : SC) (pk : PK) (p : Nat) (pA : Option Addr) (pn pc : Nat) (w0 : World) (Fr : Nat → Prop) (hFr : ∀ k, Fr k → k < w0.heap.size) (hp : Blk w0 p 47 (pk.cells pA pn pc)) (hr : LR.rd w0 Fr pA pn pk.b.rows) (hpn : pn ≤ 9223372036854775807) :
    DoS 82 #[.pointer (some ⟨p, 0, none⟩)] w0 Fr s 0 (ackedR s pk) noX noY := by
  intro hok w g B A n c hB hg hgB hBs hN ho
  show Calls Try.prog 82 #[.pointer (some ⟨g, 0, none⟩), .pointer (some ⟨p, 0, none⟩)] w (AckedC g B Fr A n c (ackedR s pk) w)
  have hlen := sendB_len hok
  have HFR := Lib.hid hFr
  clear hFr
  have HOK := Lib.hid hok
  have HP := Lib.hid (hp.ca hB)
  have HR := Lib.hid (Lay.rd_below hr hB)
  have HO := Lib.hid ho
  have HN := Lib.hid hN
  have HLN := Lay.own_len ho
  have hcap := Lay.own_caps ho
  have hpne : p ≠ g := by have := hp.lt; omega
  have hsent : 0 ≤ s.sent ∧ s.sent ≤ 1099511627776 ∧ s.sent ≤ s.base - 1 + (s.q.length : Int) := by
    have h := hok
    unfold sendB sendM at h
    simp only [Bool.and_eq_true, decide_eq_true_eq] at h
    omega
  clear hp hr hN ho hok
  obtain ⟨ses, base, q, sent, lim, timer, ended⟩ := s
  obtain ⟨kind, pses, seq, plim, rows, pfin, pcnt⟩ := pk
  dsimp only at *
  have hw1 : IntKind.u64.wrap (sent + 1) = sent + 1 := u64_in (by omega) (by omega)
  cases hcp : checkP ⟨kind, pses, seq, plim, ⟨rows, pfin, pcnt⟩⟩
  · have HCP := Lib.hid hcp
    have HNO := Lib.hid (show ackedB ⟨ses, base, q, sent, lim, timer, ended⟩ ⟨kind, pses, seq, plim, ⟨rows, pfin, pcnt⟩⟩ = false from by unfold ackedB; simp [hcp])
    go_enter Try.func82, Try.ntmps82
    go_wp2_with fail
    refine wp_region_ps (S := fun _ _ w' => Below w.heap.size w w') (by kernel_rfl) ?spsw1 ?ppsw1
    case spsw1 =>
      exact (Below.refl _ _).drew
    refine Ps.step (i := 0) (d := some 5) (u := ?uw1_1) rfl rfl (by kernel_rfl) (by kernel_rfl) (by kernel_rfl) (by kernel_rfl) ?yw1_1 ?rw1_1
    case yw1_1 =>
      refine StepS.read [] (by kernel_rfl) (fun _ _ _ h => h) (by rfl) (fun L9 m9 w9 hSh hAt hDn hS => ?_)
      have hT : Below _ _ w9 := hS
      have x0 : w9.cell? ⟨p, 0, none⟩ = some (.int .i64 kind) := (HP.out.ca hT).cell 0
      have x1 : w9.cell? ⟨p, 1, none⟩ = some (.int .u32 pses) := (HP.out.ca hT).cell 1
      have x2 : w9.cell? ⟨p, 2, none⟩ = some (.int .u64 seq) := (HP.out.ca hT).cell 2
      have x3 : w9.cell? ⟨p, 3, none⟩ = some (.int .u64 plim) := (HP.out.ca hT).cell 3
      have x4 : w9.cell? ⟨p, 4, none⟩ = some (.slice pA pn pc) := (HP.out.ca hT).cell 4
      have x5 : w9.cell? ⟨p, 5, none⟩ = some (.bool pfin) := (HP.out.ca hT).cell 5
      have x6 : w9.cell? ⟨p, 6, none⟩ = some (.int .u64 pcnt) := (HP.out.ca hT).cell 6
      clear hT hS
      go_simp
      try rfl
    try simp only [Act.put, List.setIfInBounds_toArray, List.set_cons_zero, List.set_cons_succ]
    refine Ps.step (i := 1) (d := some 6) (u := (.int .i64 321)) rfl rfl (by kernel_rfl) (by kernel_rfl) (by kernel_rfl) (by kernel_rfl) ?yw1_2 ?rw1_2
    case yw1_2 =>
      refine StepS.call ?fw1_2 ?aw1_2 [] (by kernel_rfl) (by rfl) (fun w9 => ?hw1_2) (fun L9 m9 w9 hSh hAt hDn hS => ?cw1_2)
      case hw1_2 => go_simp; refine ⟨?_, ?_⟩ <;> rfl
      case cw1_2 =>
        have hT : Below _ _ w9 := hS
        refine (checkp_any _ ⟨kind, pses, seq, plim, ⟨rows, pfin, pcnt⟩⟩ pA pn pc w9 (Lay.rd_below HR.out hT) hpn).mono ?_
        rintro e w8 ⟨rfl, q8⟩
        exact ⟨by rw [HCP.out]; rfl, bl_ca hT q8⟩
    try simp only [Act.put, List.setIfInBounds_toArray, List.set_cons_zero, List.set_cons_succ]
    refine Ps.step (i := 2) (d := some 7) (u := ?uw1_3) rfl rfl (by kernel_rfl) (by kernel_rfl) (by kernel_rfl) (by kernel_rfl) ?yw1_3 ?rw1_3
    case yw1_3 =>
      refine StepS.pure (fun _ _ _ h => h) (by rfl) (fun w9 => ?_)
      go_simp
      try rfl
    try simp only [Act.put, List.setIfInBounds_toArray, List.set_cons_zero, List.set_cons_succ]
    refine Ps.step (i := 3) (d := some 8) (u := ?uw1_4) rfl rfl (by kernel_rfl) (by kernel_rfl) (by kernel_rfl) (by kernel_rfl) ?yw1_4 ?rw1_4
    case yw1_4 =>
      refine StepS.pure (fun _ _ _ h => h) (by rfl) (fun w9 => ?_)
      go_simp
      try rfl
    try simp only [Act.put, List.setIfInBounds_toArray, List.set_cons_zero, List.set_cons_succ]
    refine Ps.step (i := 4) (d := some 9) (u := undef) rfl rfl (by kernel_rfl) (by kernel_rfl) (by kernel_rfl) (by kernel_rfl) ?yw1_5 ?rw1_5
    case yw1_5 =>
      exact StepS.skip (fun _ _ _ h => h) (by rfl)
    try simp only [Act.put, List.setIfInBounds_toArray, List.set_cons_zero, List.set_cons_succ]
    refine Ps.step (i := 5) (d := some 10) (u := undef) rfl rfl (by kernel_rfl) (by kernel_rfl) (by kernel_rfl) (by kernel_rfl) ?yw1_6 ?rw1_6
    case yw1_6 =>
      exact StepS.skip (fun _ _ _ h => h) (by rfl)
    try simp only [Act.put, List.setIfInBounds_toArray, List.set_cons_zero, List.set_cons_succ]
    refine Ps.step (i := 6) (d := some 11) (u := undef) rfl rfl (by kernel_rfl) (by kernel_rfl) (by kernel_rfl) (by kernel_rfl) ?yw1_7 ?rw1_7
    case yw1_7 =>
      exact StepS.skip (fun _ _ _ h => h) (by rfl)
    try simp only [Act.put, List.setIfInBounds_toArray, List.set_cons_zero, List.set_cons_succ]
    refine Ps.step (i := 7) (d := some 12) (u := ?uw1_8) rfl rfl (by kernel_rfl) (by kernel_rfl) (by kernel_rfl) (by kernel_rfl) ?yw1_8 ?rw1_8
    case yw1_8 =>
      refine StepS.pure (fun _ _ _ h => h) (by rfl) (fun w9 => ?_)
      go_simp
      try rfl
    try simp only [Act.put, List.setIfInBounds_toArray, List.set_cons_zero, List.set_cons_succ]
    refine Ps.step (i := 8) (d := some 13) (u := ?uw1_9) rfl rfl (by kernel_rfl) (by kernel_rfl) (by kernel_rfl) (by kernel_rfl) ?yw1_9 ?rw1_9
    case yw1_9 =>
      refine StepS.pure (fun _ _ _ h => h) (by rfl) (fun w9 => ?_)
      go_simp
      try rfl
    try simp only [Act.put, List.setIfInBounds_toArray, List.set_cons_zero, List.set_cons_succ]
    refine Ps.step (i := 9) (d := some 14) (u := undef) rfl rfl (by kernel_rfl) (by kernel_rfl) (by kernel_rfl) (by kernel_rfl) ?yw1_10 ?rw1_10
    case yw1_10 =>
      exact StepS.skip (fun _ _ _ h => h) (by rfl)
    try simp only [Act.put, List.setIfInBounds_toArray, List.set_cons_zero, List.set_cons_succ]
    refine Ps.step (i := 10) (d := some 15) (u := undef) rfl rfl (by kernel_rfl) (by kernel_rfl) (by kernel_rfl) (by kernel_rfl) ?yw1_11 ?rw1_11
    case yw1_11 =>
      exact StepS.skip (fun _ _ _ h => h) (by rfl)
    try simp only [Act.put, List.setIfInBounds_toArray, List.set_cons_zero, List.set_cons_succ]
    refine Ps.step (i := 11) (d := some 16) (u := undef) rfl rfl (by kernel_rfl) (by kernel_rfl) (by kernel_rfl) (by kernel_rfl) ?yw1_12 ?rw1_12
    case yw1_12 =>
      exact StepS.skip (fun _ _ _ h => h) (by rfl)
    try simp only [Act.put, List.setIfInBounds_toArray, List.set_cons_zero, List.set_cons_succ]
    refine Ps.step (i := 12) (d := some 17) (u := undef) rfl rfl (by kernel_rfl) (by kernel_rfl) (by kernel_rfl) (by kernel_rfl) ?yw1_13 ?rw1_13
    case yw1_13 =>
      exact StepS.skip (fun _ _ _ h => h) (by rfl)
    try simp only [Act.put, List.setIfInBounds_toArray, List.set_cons_zero, List.set_cons_succ]
    refine Ps.step (i := 13) (d := some 18) (u := undef) rfl rfl (by kernel_rfl) (by kernel_rfl) (by kernel_rfl) (by kernel_rfl) ?yw1_14 ?rw1_14
    case yw1_14 =>
      exact StepS.skip (fun _ _ _ h => h) (by rfl)
    try simp only [Act.put, List.setIfInBounds_toArray, List.set_cons_zero, List.set_cons_succ]
    refine Ps.step (i := 14) (d := some 19) (u := undef) rfl rfl (by kernel_rfl) (by kernel_rfl) (by kernel_rfl) (by kernel_rfl) ?yw1_15 ?rw1_15
    case yw1_15 =>
      exact StepS.skip (fun _ _ _ h => h) (by rfl)
    try simp only [Act.put, List.setIfInBounds_toArray, List.set_cons_zero, List.set_cons_succ]
    refine Ps.step (i := 15) (d := some 20) (u := undef) rfl rfl (by kernel_rfl) (by kernel_rfl) (by kernel_rfl) (by kernel_rfl) ?yw1_16 ?rw1_16
    case yw1_16 =>
      exact StepS.skip (fun _ _ _ h => h) (by rfl)
    try simp only [Act.put, List.setIfInBounds_toArray, List.set_cons_zero, List.set_cons_succ]
    refine Ps.step (i := 16) (d := some 21) (u := ?uw1_17) rfl rfl (by kernel_rfl) (by kernel_rfl) (by kernel_rfl) (by kernel_rfl) ?yw1_17 ?rw1_17
    case yw1_17 =>
      refine StepS.pure (fun _ _ _ h => h) (by rfl) (fun w9 => ?_)
      go_simp
      try rfl
    try simp only [Act.put, List.setIfInBounds_toArray, List.set_cons_zero, List.set_cons_succ]
    refine Ps.step (i := 17) (d := some 22) (u := ?uw1_18) rfl rfl (by kernel_rfl) (by kernel_rfl) (by kernel_rfl) (by kernel_rfl) ?yw1_18 ?rw1_18
    case yw1_18 =>
      refine StepS.pure (fun _ _ _ h => h) (by rfl) (fun w9 => ?_)
      go_simp
      try rfl
    try simp only [Act.put, List.setIfInBounds_toArray, List.set_cons_zero, List.set_cons_succ]
    refine Ps.step (i := 18) (d := some 23) (u := undef) rfl rfl (by kernel_rfl) (by kernel_rfl) (by kernel_rfl) (by kernel_rfl) ?yw1_19 ?rw1_19
    case yw1_19 =>
      exact StepS.skip (fun _ _ _ h => h) (by rfl)
    try simp only [Act.put, List.setIfInBounds_toArray, List.set_cons_zero, List.set_cons_succ]
    refine Ps.step (i := 19) (d := some 24) (u := undef) rfl rfl (by kernel_rfl) (by kernel_rfl) (by kernel_rfl) (by kernel_rfl) ?yw1_20 ?rw1_20
    case yw1_20 =>
      exact StepS.skip (fun _ _ _ h => h) (by rfl)
    try simp only [Act.put, List.setIfInBounds_toArray, List.set_cons_zero, List.set_cons_succ]
    refine Ps.step (i := 20) (d := some 25) (u := undef) rfl rfl (by kernel_rfl) (by kernel_rfl) (by kernel_rfl) (by kernel_rfl) ?yw1_21 ?rw1_21
    case yw1_21 =>
      exact StepS.skip (fun _ _ _ h => h) (by rfl)
    try simp only [Act.put, List.setIfInBounds_toArray, List.set_cons_zero, List.set_cons_succ]
    refine Ps.step (i := 21) (d := some 26) (u := undef) rfl rfl (by kernel_rfl) (by kernel_rfl) (by kernel_rfl) (by kernel_rfl) ?yw1_22 ?rw1_22
    case yw1_22 =>
      exact StepS.skip (fun _ _ _ h => h) (by rfl)
    try simp only [Act.put, List.setIfInBounds_toArray, List.set_cons_zero, List.set_cons_succ]
    refine Ps.step (i := 22) (d := some 27) (u := undef) rfl rfl (by kernel_rfl) (by kernel_rfl) (by kernel_rfl) (by kernel_rfl) ?yw1_23 ?rw1_23
    case yw1_23 =>
      exact StepS.skip (fun _ _ _ h => h) (by rfl)
    try simp only [Act.put, List.setIfInBounds_toArray, List.set_cons_zero, List.set_cons_succ]
    refine Ps.step (i := 23) (d := some 28) (u := undef) rfl rfl (by kernel_rfl) (by kernel_rfl) (by kernel_rfl) (by kernel_rfl) ?yw1_24 ?rw1_24
    case yw1_24 =>
      exact StepS.skip (fun _ _ _ h => h) (by rfl)
    try simp only [Act.put, List.setIfInBounds_toArray, List.set_cons_zero, List.set_cons_succ]
    refine Ps.step (i := 24) (d := some 29) (u := undef) rfl rfl (by kernel_rfl) (by kernel_rfl) (by kernel_rfl) (by kernel_rfl) ?yw1_25 ?rw1_25
    case yw1_25 =>
      exact StepS.skip (fun _ _ _ h => h) (by rfl)
    try simp only [Act.put, List.setIfInBounds_toArray, List.set_cons_zero, List.set_cons_succ]
    refine Ps.step (i := 25) (d := some 30) (u := ?uw1_26) rfl rfl (by kernel_rfl) (by kernel_rfl) (by kernel_rfl) (by kernel_rfl) ?yw1_26 ?rw1_26
    case yw1_26 =>
      refine StepS.pure (fun _ _ _ h => h) (by rfl) (fun w9 => ?_)
      go_simp
      try rfl
    try simp only [Act.put, List.setIfInBounds_toArray, List.set_cons_zero, List.set_cons_succ]
    refine Ps.step (i := 26) (d := some 31) (u := ?uw1_27) rfl rfl (by kernel_rfl) (by kernel_rfl) (by kernel_rfl) (by kernel_rfl) ?yw1_27 ?rw1_27
    case yw1_27 =>
      refine StepS.pure (fun _ _ _ h => h) (by rfl) (fun w9 => ?_)
      go_simp
      try rfl
    try simp only [Act.put, List.setIfInBounds_toArray, List.set_cons_zero, List.set_cons_succ]
    refine Ps.step (i := 27) (d := some 32) (u := undef) rfl rfl (by kernel_rfl) (by kernel_rfl) (by kernel_rfl) (by kernel_rfl) ?yw1_28 ?rw1_28
    case yw1_28 =>
      exact StepS.skip (fun _ _ _ h => h) (by rfl)
    try simp only [Act.put, List.setIfInBounds_toArray, List.set_cons_zero, List.set_cons_succ]
    refine Ps.step (i := 28) (d := some 33) (u := undef) rfl rfl (by kernel_rfl) (by kernel_rfl) (by kernel_rfl) (by kernel_rfl) ?yw1_29 ?rw1_29
    case yw1_29 =>
      exact StepS.skip (fun _ _ _ h => h) (by rfl)
    try simp only [Act.put, List.setIfInBounds_toArray, List.set_cons_zero, List.set_cons_succ]
    refine Ps.step (i := 29) (d := some 34) (u := undef) rfl rfl (by kernel_rfl) (by kernel_rfl) (by kernel_rfl) (by kernel_rfl) ?yw1_30 ?rw1_30
    case yw1_30 =>
      exact StepS.skip (fun _ _ _ h => h) (by rfl)
    try simp only [Act.put, List.setIfInBounds_toArray, List.set_cons_zero, List.set_cons_succ]
    refine Ps.step (i := 30) (d := some 35) (u := undef) rfl rfl (by kernel_rfl) (by kernel_rfl) (by kernel_rfl) (by kernel_rfl) ?yw1_31 ?rw1_31
    case yw1_31 =>
      exact StepS.skip (fun _ _ _ h => h) (by rfl)
    try simp only [Act.put, List.setIfInBounds_toArray, List.set_cons_zero, List.set_cons_succ]
    refine Ps.step (i := 31) (d := some 36) (u := undef) rfl rfl (by kernel_rfl) (by kernel_rfl) (by kernel_rfl) (by kernel_rfl) ?yw1_32 ?rw1_32
    case yw1_32 =>
      exact StepS.skip (fun _ _ _ h => h) (by rfl)
    try simp only [Act.put, List.setIfInBounds_toArray, List.set_cons_zero, List.set_cons_succ]
    refine Ps.step (i := 32) (d := some 37) (u := undef) rfl rfl (by kernel_rfl) (by kernel_rfl) (by kernel_rfl) (by kernel_rfl) ?yw1_33 ?rw1_33
    case yw1_33 =>
      exact StepS.skip (fun _ _ _ h => h) (by rfl)
    try simp only [Act.put, List.setIfInBounds_toArray, List.set_cons_zero, List.set_cons_succ]
    refine Ps.step (i := 33) (d := some 38) (u := undef) rfl rfl (by kernel_rfl) (by kernel_rfl) (by kernel_rfl) (by kernel_rfl) ?yw1_34 ?rw1_34
    case yw1_34 =>
      exact StepS.skip (fun _ _ _ h => h) (by rfl)
    try simp only [Act.put, List.setIfInBounds_toArray, List.set_cons_zero, List.set_cons_succ]
    refine Ps.step (i := 34) (d := some 39) (u := undef) rfl rfl (by kernel_rfl) (by kernel_rfl) (by kernel_rfl) (by kernel_rfl) ?yw1_35 ?rw1_35
    case yw1_35 =>
      exact StepS.skip (fun _ _ _ h => h) (by rfl)
    try simp only [Act.put, List.setIfInBounds_toArray, List.set_cons_zero, List.set_cons_succ]
    refine Ps.step (i := 35) (d := some 40) (u := ?uw1_36) rfl rfl (by kernel_rfl) (by kernel_rfl) (by kernel_rfl) (by kernel_rfl) ?yw1_36 ?rw1_36
    case yw1_36 =>
      refine StepS.pure (fun _ _ _ h => h) (by rfl) (fun w9 => ?_)
      go_simp
      try rfl
    try simp only [Act.put, List.setIfInBounds_toArray, List.set_cons_zero, List.set_cons_succ]
    refine Ps.step (i := 36) (d := some 41) (u := ?uw1_37) rfl rfl (by kernel_rfl) (by kernel_rfl) (by kernel_rfl) (by kernel_rfl) ?yw1_37 ?rw1_37
    case yw1_37 =>
      refine StepS.pure (fun _ _ _ h => h) (by rfl) (fun w9 => ?_)
      go_simp
      try rfl
    try simp only [Act.put, List.setIfInBounds_toArray, List.set_cons_zero, List.set_cons_succ]
    refine Ps.step (i := 37) (d := some 42) (u := undef) rfl rfl (by kernel_rfl) (by kernel_rfl) (by kernel_rfl) (by kernel_rfl) ?yw1_38 ?rw1_38
    case yw1_38 =>
      exact StepS.skip (fun _ _ _ h => h) (by rfl)
    try simp only [Act.put, List.setIfInBounds_toArray, List.set_cons_zero, List.set_cons_succ]
    refine Ps.step (i := 38) (d := some 43) (u := undef) rfl rfl (by kernel_rfl) (by kernel_rfl) (by kernel_rfl) (by kernel_rfl) ?yw1_39 ?rw1_39
    case yw1_39 =>
      exact StepS.skip (fun _ _ _ h => h) (by rfl)
    try simp only [Act.put, List.setIfInBounds_toArray, List.set_cons_zero, List.set_cons_succ]
    refine Ps.step (i := 39) (d := some 44) (u := undef) rfl rfl (by kernel_rfl) (by kernel_rfl) (by kernel_rfl) (by kernel_rfl) ?yw1_40 ?rw1_40
    case yw1_40 =>
      exact StepS.skip (fun _ _ _ h => h) (by rfl)
    try simp only [Act.put, List.setIfInBounds_toArray, List.set_cons_zero, List.set_cons_succ]
    refine Ps.step (i := 40) (d := some 45) (u := ?uw1_41) rfl rfl (by kernel_rfl) (by kernel_rfl) (by kernel_rfl) (by kernel_rfl) ?yw1_41 ?rw1_41
    case yw1_41 =>
      refine StepS.pure (fun _ _ _ h => h) (by rfl) (fun w9 => ?_)
      go_simp
      try rfl
    try simp only [Act.put, List.setIfInBounds_toArray, List.set_cons_zero, List.set_cons_succ]
    refine Ps.done (by kernel_rfl) (fun w1 hS => ?_) _
    have HQ := Lib.hid (show Below w.heap.size w _ from hS)
    clear hS
    obtain ⟨w7, rfl⟩ : ∃ x, x = w1 := ⟨_, rfl⟩
    go_wp2
    go_ret
    exact acked_no HNO.out rfl HQ.out HN.out HO.out
  · by_cases k2 : kind = 2
    · subst k2
      have HCP := Lib.hid hcp
      by_cases hs : pses = ses
      · obtain rfl := hs.symm
        by_cases c1 : base ≤ seq
        · have d1 : decide (seq < base) = false := by simp; omega
          by_cases c2 : seq ≤ sent + 1
          · have d2 : decide (sent + 1 < seq) = false := by simp; omega
            by_cases c3 : seq ≤ 1099511627776
            · have d3 : decide ((1099511627776 : Int) < seq) = false := by simp; omega
              obtain ⟨kk, hkk⟩ : ∃ kk : Nat, seq - base = (kk : Int) := ⟨(seq - base).toNat, by omega⟩
              have hkn : kk ≤ n := by omega
              have hn8 : n ≤ 8 := by omega
              have hkn2 : (kk : Int) ≤ (n : Int) := by omega
              have hwk : IntKind.u64.wrap (kk : Int) = (kk : Int) := u64_in (by omega) (by omega)
              have hsb : IntKind.u64.wrap (seq - base) = (kk : Int) := (u64_in (by omega) (by omega)).trans hkk
              have HKK := Lib.hid hkk
              clear hkk
              have HYES := Lib.hid (show ackedB ⟨ses, base, q, sent, lim, timer, ended⟩ ⟨2, ses, seq, plim, ⟨rows, pfin, pcnt⟩⟩ = true from by unfold ackedB; simp [HCP.out, c1, c2, c3])
              go_enter Try.func82, Try.ntmps82
              go_wp2_with fail
              refine wp_region_ps (S := fun _ _ w' => Below w.heap.size w w') (by kernel_rfl) ?spsw42 ?ppsw42
              case spsw42 =>
                exact (Below.refl _ _).drew
              refine Ps.step (i := 0) (d := some 5) (u := ?uw42_42) rfl rfl (by kernel_rfl) (by kernel_rfl) (by kernel_rfl) (by kernel_rfl) ?yw42_42 ?rw42_42
              case yw42_42 =>
                refine StepS.read [] (by kernel_rfl) (fun _ _ _ h => h) (by rfl) (fun L9 m9 w9 hSh hAt hDn hS => ?_)
                have hT : Below _ _ w9 := hS
                have x0 : w9.cell? ⟨p, 0, none⟩ = some (.int .i64 2) := (HP.out.ca hT).cell 0
                have x1 : w9.cell? ⟨p, 1, none⟩ = some (.int .u32 ses) := (HP.out.ca hT).cell 1
                have x2 : w9.cell? ⟨p, 2, none⟩ = some (.int .u64 seq) := (HP.out.ca hT).cell 2
                have x3 : w9.cell? ⟨p, 3, none⟩ = some (.int .u64 plim) := (HP.out.ca hT).cell 3
                have x4 : w9.cell? ⟨p, 4, none⟩ = some (.slice pA pn pc) := (HP.out.ca hT).cell 4
                have x5 : w9.cell? ⟨p, 5, none⟩ = some (.bool pfin) := (HP.out.ca hT).cell 5
                have x6 : w9.cell? ⟨p, 6, none⟩ = some (.int .u64 pcnt) := (HP.out.ca hT).cell 6
                clear hT hS
                go_simp
                try rfl
              try simp only [Act.put, List.setIfInBounds_toArray, List.set_cons_zero, List.set_cons_succ]
              refine Ps.step (i := 1) (d := some 6) (u := (.int .i64 0)) rfl rfl (by kernel_rfl) (by kernel_rfl) (by kernel_rfl) (by kernel_rfl) ?yw42_43 ?rw42_43
              case yw42_43 =>
                refine StepS.call ?fw42_43 ?aw42_43 [] (by kernel_rfl) (by rfl) (fun w9 => ?hw42_43) (fun L9 m9 w9 hSh hAt hDn hS => ?cw42_43)
                case hw42_43 => go_simp; refine ⟨?_, ?_⟩ <;> rfl
                case cw42_43 =>
                  have hT : Below _ _ w9 := hS
                  refine (checkp_any _ ⟨2, ses, seq, plim, ⟨rows, pfin, pcnt⟩⟩ pA pn pc w9 (Lay.rd_below HR.out hT) hpn).mono ?_
                  rintro e w8 ⟨rfl, q8⟩
                  exact ⟨by rw [HCP.out]; rfl, bl_ca hT q8⟩
              try simp only [Act.put, List.setIfInBounds_toArray, List.set_cons_zero, List.set_cons_succ]
              refine Ps.step (i := 2) (d := some 7) (u := ?uw42_44) rfl rfl (by kernel_rfl) (by kernel_rfl) (by kernel_rfl) (by kernel_rfl) ?yw42_44 ?rw42_44
              case yw42_44 =>
                refine StepS.pure (fun _ _ _ h => h) (by rfl) (fun w9 => ?_)
                go_simp
                try rfl
              try simp only [Act.put, List.setIfInBounds_toArray, List.set_cons_zero, List.set_cons_succ]
              refine Ps.step (i := 3) (d := some 8) (u := ?uw42_45) rfl rfl (by kernel_rfl) (by kernel_rfl) (by kernel_rfl) (by kernel_rfl) ?yw42_45 ?rw42_45
              case yw42_45 =>
                refine StepS.pure (fun _ _ _ h => h) (by rfl) (fun w9 => ?_)
                go_simp
                try rfl
              try simp only [Act.put, List.setIfInBounds_toArray, List.set_cons_zero, List.set_cons_succ]
              refine Ps.step (i := 4) (d := some 9) (u := ?uw42_46) rfl rfl (by kernel_rfl) (by kernel_rfl) (by kernel_rfl) (by kernel_rfl) ?yw42_46 ?rw42_46
              case yw42_46 =>
                refine StepS.pure (fun _ _ _ h => h) (by rfl) (fun w9 => ?_)
                go_simp
                try rfl
              try simp only [Act.put, List.setIfInBounds_toArray, List.set_cons_zero, List.set_cons_succ]
              refine Ps.step (i := 5) (d := some 10) (u := ?uw42_47) rfl rfl (by kernel_rfl) (by kernel_rfl) (by kernel_rfl) (by kernel_rfl) ?yw42_47 ?rw42_47
              case yw42_47 =>
                refine StepS.read [] (by kernel_rfl) (fun _ _ _ h => h) (by rfl) (fun L9 m9 w9 hSh hAt hDn hS => ?_)
                have hT : Below _ _ w9 := hS
                have x0 : w9.cell? ⟨p, 0, none⟩ = some (.int .i64 2) := (HP.out.ca hT).cell 0
                clear hT hS
                go_simp
                try rfl
              try simp only [Act.put, List.setIfInBounds_toArray, List.set_cons_zero, List.set_cons_succ]
              refine Ps.step (i := 6) (d := some 11) (u := ?uw42_48) rfl rfl (by kernel_rfl) (by kernel_rfl) (by kernel_rfl) (by kernel_rfl) ?yw42_48 ?rw42_48
              case yw42_48 =>
                refine StepS.pure (fun _ _ _ h => h) (by rfl) (fun w9 => ?_)
                go_simp
                try rfl
              try simp only [Act.put, List.setIfInBounds_toArray, List.set_cons_zero, List.set_cons_succ]
              refine Ps.step (i := 7) (d := some 12) (u := ?uw42_49) rfl rfl (by kernel_rfl) (by kernel_rfl) (by kernel_rfl) (by kernel_rfl) ?yw42_49 ?rw42_49
              case yw42_49 =>
                refine StepS.pure (fun _ _ _ h => h) (by rfl) (fun w9 => ?_)
                go_simp
                try rfl
              try simp only [Act.put, List.setIfInBounds_toArray, List.set_cons_zero, List.set_cons_succ]
              refine Ps.step (i := 8) (d := some 13) (u := ?uw42_50) rfl rfl (by kernel_rfl) (by kernel_rfl) (by kernel_rfl) (by kernel_rfl) ?yw42_50 ?rw42_50
              case yw42_50 =>
                refine StepS.pure (fun _ _ _ h => h) (by rfl) (fun w9 => ?_)
                go_simp
                try rfl
              try simp only [Act.put, List.setIfInBounds_toArray, List.set_cons_zero, List.set_cons_succ]
              refine Ps.step (i := 9) (d := some 14) (u := ?uw42_51) rfl rfl (by kernel_rfl) (by kernel_rfl) (by kernel_rfl) (by kernel_rfl) ?yw42_51 ?rw42_51
              case yw42_51 =>
                refine StepS.pure (fun _ _ _ h => h) (by rfl) (fun w9 => ?_)
                go_simp
                try rfl
              try simp only [Act.put, List.setIfInBounds_toArray, List.set_cons_zero, List.set_cons_succ]
              refine Ps.step (i := 10) (d := some 15) (u := ?uw42_52) rfl rfl (by kernel_rfl) (by kernel_rfl) (by kernel_rfl) (by kernel_rfl) ?yw42_52 ?rw42_52
              case yw42_52 =>
                refine StepS.read [] (by kernel_rfl) (fun _ _ _ h => h) (by rfl) (fun L9 m9 w9 hSh hAt hDn hS => ?_)
                have hT : Below _ _ w9 := hS
                have x1 : w9.cell? ⟨p, 1, none⟩ = some (.int .u32 ses) := (HP.out.ca hT).cell 1
                clear hT hS
                go_simp
                try rfl
              try simp only [Act.put, List.setIfInBounds_toArray, List.set_cons_zero, List.set_cons_succ]
              refine Ps.step (i := 11) (d := some 16) (u := ?uw42_53) rfl rfl (by kernel_rfl) (by kernel_rfl) (by kernel_rfl) (by kernel_rfl) ?yw42_53 ?rw42_53
              case yw42_53 =>
                refine StepS.pure (fun _ _ _ h => h) (by rfl) (fun w9 => ?_)
                go_simp
                try rfl
              try simp only [Act.put, List.setIfInBounds_toArray, List.set_cons_zero, List.set_cons_succ]
              refine Ps.step (i := 12) (d := some 17) (u := ?uw42_54) rfl rfl (by kernel_rfl) (by kernel_rfl) (by kernel_rfl) (by kernel_rfl) ?yw42_54 ?rw42_54
              case yw42_54 =>
                refine StepS.pure (fun _ _ _ h => h) (by rfl) (fun w9 => ?_)
                go_simp
                try rfl
              try simp only [Act.put, List.setIfInBounds_toArray, List.set_cons_zero, List.set_cons_succ]
              refine Ps.step (i := 13) (d := some 18) (u := ?uw42_55) rfl rfl (by kernel_rfl) (by kernel_rfl) (by kernel_rfl) (by kernel_rfl) ?yw42_55 ?rw42_55
              case yw42_55 =>
                refine StepS.pure (fun _ _ _ h => h) (by rfl) (fun w9 => ?_)
                go_simp
                try rfl
              try simp only [Act.put, List.setIfInBounds_toArray, List.set_cons_zero, List.set_cons_succ]
              refine Ps.step (i := 14) (d := some 19) (u := ?uw42_56) rfl rfl (by kernel_rfl) (by kernel_rfl) (by kernel_rfl) (by kernel_rfl) ?yw42_56 ?rw42_56
              case yw42_56 =>
                refine StepS.read [] (by kernel_rfl) (fun _ _ _ h => h) (by rfl) (fun L9 m9 w9 hSh hAt hDn hS => ?_)
                have hT : Below _ _ w9 := hS
                have y0 : w9.cell? ⟨g, 0, none⟩ = some (.int .u32 ses) := (HN.out.ca hT).cell 0
                clear hT hS
                go_simp
                try rfl
              try simp only [Act.put, List.setIfInBounds_toArray, List.set_cons_zero, List.set_cons_succ]
              refine Ps.step (i := 15) (d := some 20) (u := ?uw42_57) rfl rfl (by kernel_rfl) (by kernel_rfl) (by kernel_rfl) (by kernel_rfl) ?yw42_57 ?rw42_57
              case yw42_57 =>
                refine StepS.pure (fun _ _ _ h => h) (by rfl) (fun w9 => ?_)
                go_simp
                try rfl
              try simp only [Act.put, List.setIfInBounds_toArray, List.set_cons_zero, List.set_cons_succ]
              refine Ps.step (i := 16) (d := some 21) (u := ?uw42_58) rfl rfl (by kernel_rfl) (by kernel_rfl) (by kernel_rfl) (by kernel_rfl) ?yw42_58 ?rw42_58
              case yw42_58 =>
                refine StepS.pure (fun _ _ _ h => h) (by rfl) (fun w9 => ?_)
                go_simp
                try rfl
              try simp only [Act.put, List.setIfInBounds_toArray, List.set_cons_zero, List.set_cons_succ]
              refine Ps.step (i := 17) (d := some 22) (u := ?uw42_59) rfl rfl (by kernel_rfl) (by kernel_rfl) (by kernel_rfl) (by kernel_rfl) ?yw42_59 ?rw42_59
              case yw42_59 =>
                refine StepS.pure (fun _ _ _ h => h) (by rfl) (fun w9 => ?_)
                go_simp
                try rfl
              try simp only [Act.put, List.setIfInBounds_toArray, List.set_cons_zero, List.set_cons_succ]
              refine Ps.step (i := 18) (d := some 23) (u := ?uw42_60) rfl rfl (by kernel_rfl) (by kernel_rfl) (by kernel_rfl) (by kernel_rfl) ?yw42_60 ?rw42_60
              case yw42_60 =>
                refine StepS.pure (fun _ _ _ h => h) (by rfl) (fun w9 => ?_)
                go_simp
                try rfl
              try simp only [Act.put, List.setIfInBounds_toArray, List.set_cons_zero, List.set_cons_succ]
              refine Ps.step (i := 19) (d := some 24) (u := ?uw42_61) rfl rfl (by kernel_rfl) (by kernel_rfl) (by kernel_rfl) (by kernel_rfl) ?yw42_61 ?rw42_61
              case yw42_61 =>
                refine StepS.read [] (by kernel_rfl) (fun _ _ _ h => h) (by rfl) (fun L9 m9 w9 hSh hAt hDn hS => ?_)
                have hT : Below _ _ w9 := hS
                have x2 : w9.cell? ⟨p, 2, none⟩ = some (.int .u64 seq) := (HP.out.ca hT).cell 2
                clear hT hS
                go_simp
                try rfl
              try simp only [Act.put, List.setIfInBounds_toArray, List.set_cons_zero, List.set_cons_succ]
              refine Ps.step (i := 20) (d := some 25) (u := ?uw42_62) rfl rfl (by kernel_rfl) (by kernel_rfl) (by kernel_rfl) (by kernel_rfl) ?yw42_62 ?rw42_62
              case yw42_62 =>
                refine StepS.pure (fun _ _ _ h => h) (by rfl) (fun w9 => ?_)
                go_simp
                try rfl
              try simp only [Act.put, List.setIfInBounds_toArray, List.set_cons_zero, List.set_cons_succ]
              refine Ps.step (i := 21) (d := some 26) (u := ?uw42_63) rfl rfl (by kernel_rfl) (by kernel_rfl) (by kernel_rfl) (by kernel_rfl) ?yw42_63 ?rw42_63
              case yw42_63 =>
                refine StepS.pure (fun _ _ _ h => h) (by rfl) (fun w9 => ?_)
                go_simp
                try rfl
              try simp only [Act.put, List.setIfInBounds_toArray, List.set_cons_zero, List.set_cons_succ]
              refine Ps.step (i := 22) (d := some 27) (u := ?uw42_64) rfl rfl (by kernel_rfl) (by kernel_rfl) (by kernel_rfl) (by kernel_rfl) ?yw42_64 ?rw42_64
              case yw42_64 =>
                refine StepS.pure (fun _ _ _ h => h) (by rfl) (fun w9 => ?_)
                go_simp
                try rfl
              try simp only [Act.put, List.setIfInBounds_toArray, List.set_cons_zero, List.set_cons_succ]
              refine Ps.step (i := 23) (d := some 28) (u := ?uw42_65) rfl rfl (by kernel_rfl) (by kernel_rfl) (by kernel_rfl) (by kernel_rfl) ?yw42_65 ?rw42_65
              case yw42_65 =>
                refine StepS.read [] (by kernel_rfl) (fun _ _ _ h => h) (by rfl) (fun L9 m9 w9 hSh hAt hDn hS => ?_)
                have hT : Below _ _ w9 := hS
                have y1 : w9.cell? ⟨g, 1, none⟩ = some (.int .u64 base) := (HN.out.ca hT).cell 1
                clear hT hS
                go_simp
                try rfl
              try simp only [Act.put, List.setIfInBounds_toArray, List.set_cons_zero, List.set_cons_succ]
              refine Ps.step (i := 24) (d := some 29) (u := ?uw42_66) rfl rfl (by kernel_rfl) (by kernel_rfl) (by kernel_rfl) (by kernel_rfl) ?yw42_66 ?rw42_66
              case yw42_66 =>
                refine StepS.pure (fun _ _ _ h => h) (by rfl) (fun w9 => ?_)
                go_simp
                try rfl
              try simp only [Act.put, List.setIfInBounds_toArray, List.set_cons_zero, List.set_cons_succ]
              refine Ps.step (i := 25) (d := some 30) (u := ?uw42_67) rfl rfl (by kernel_rfl) (by kernel_rfl) (by kernel_rfl) (by kernel_rfl) ?yw42_67 ?rw42_67
              case yw42_67 =>
                refine StepS.pure (fun _ _ _ h => h) (by rfl) (fun w9 => ?_)
                go_simp
                try rfl
              try simp only [Act.put, List.setIfInBounds_toArray, List.set_cons_zero, List.set_cons_succ]
              refine Ps.step (i := 26) (d := some 31) (u := ?uw42_68) rfl rfl (by kernel_rfl) (by kernel_rfl) (by kernel_rfl) (by kernel_rfl) ?yw42_68 ?rw42_68
              case yw42_68 =>
                refine StepS.pure (fun _ _ _ h => h) (by rfl) (fun w9 => ?_)
                go_simp
                try rfl
              try simp only [Act.put, List.setIfInBounds_toArray, List.set_cons_zero, List.set_cons_succ]
              refine Ps.step (i := 27) (d := some 32) (u := ?uw42_69) rfl rfl (by kernel_rfl) (by kernel_rfl) (by kernel_rfl) (by kernel_rfl) ?yw42_69 ?rw42_69
              case yw42_69 =>
                refine StepS.pure (fun _ _ _ h => h) (by rfl) (fun w9 => ?_)
                go_simp
                try rfl
              try simp only [Act.put, List.setIfInBounds_toArray, List.set_cons_zero, List.set_cons_succ]
              refine Ps.step (i := 28) (d := some 33) (u := ?uw42_70) rfl rfl (by kernel_rfl) (by kernel_rfl) (by kernel_rfl) (by kernel_rfl) ?yw42_70 ?rw42_70
              case yw42_70 =>
                refine StepS.read [] (by kernel_rfl) (fun _ _ _ h => h) (by rfl) (fun L9 m9 w9 hSh hAt hDn hS => ?_)
                have hT : Below _ _ w9 := hS
                have x2 : w9.cell? ⟨p, 2, none⟩ = some (.int .u64 seq) := (HP.out.ca hT).cell 2
                clear hT hS
                go_simp
                try rfl
              try simp only [Act.put, List.setIfInBounds_toArray, List.set_cons_zero, List.set_cons_succ]
              refine Ps.step (i := 29) (d := some 34) (u := ?uw42_71) rfl rfl (by kernel_rfl) (by kernel_rfl) (by kernel_rfl) (by kernel_rfl) ?yw42_71 ?rw42_71
              case yw42_71 =>
                refine StepS.pure (fun _ _ _ h => h) (by rfl) (fun w9 => ?_)
                go_simp
                try rfl
              try simp only [Act.put, List.setIfInBounds_toArray, List.set_cons_zero, List.set_cons_succ]
              refine Ps.step (i := 30) (d := some 35) (u := ?uw42_72) rfl rfl (by kernel_rfl) (by kernel_rfl) (by kernel_rfl) (by kernel_rfl) ?yw42_72 ?rw42_72
              case yw42_72 =>
                refine StepS.pure (fun _ _ _ h => h) (by rfl) (fun w9 => ?_)
                go_simp
                try rfl
              try simp only [Act.put, List.setIfInBounds_toArray, List.set_cons_zero, List.set_cons_succ]
              refine Ps.step (i := 31) (d := some 36) (u := ?uw42_73) rfl rfl (by kernel_rfl) (by kernel_rfl) (by kernel_rfl) (by kernel_rfl) ?yw42_73 ?rw42_73
              case yw42_73 =>
                refine StepS.pure (fun _ _ _ h => h) (by rfl) (fun w9 => ?_)
                go_simp
                try rfl
              try simp only [Act.put, List.setIfInBounds_toArray, List.set_cons_zero, List.set_cons_succ]
              refine Ps.step (i := 32) (d := some 37) (u := ?uw42_74) rfl rfl (by kernel_rfl) (by kernel_rfl) (by kernel_rfl) (by kernel_rfl) ?yw42_74 ?rw42_74
              case yw42_74 =>
                refine StepS.read [] (by kernel_rfl) (fun _ _ _ h => h) (by rfl) (fun L9 m9 w9 hSh hAt hDn hS => ?_)
                have hT : Below _ _ w9 := hS
                have y3 : w9.cell? ⟨g, 3, none⟩ = some (.int .u64 sent) := (HN.out.ca hT).cell 3
                clear hT hS
                go_simp
                try rfl
              try simp only [Act.put, List.setIfInBounds_toArray, List.set_cons_zero, List.set_cons_succ]
              refine Ps.step (i := 33) (d := some 38) (u := ?uw42_75) rfl rfl (by kernel_rfl) (by kernel_rfl) (by kernel_rfl) (by kernel_rfl) ?yw42_75 ?rw42_75
              case yw42_75 =>
                refine StepS.pure (fun _ _ _ h => h) (by rfl) (fun w9 => ?_)
                go_simp
                try rfl
              try simp only [Act.put, List.setIfInBounds_toArray, List.set_cons_zero, List.set_cons_succ]
              refine Ps.step (i := 34) (d := some 39) (u := ?uw42_76) rfl rfl (by kernel_rfl) (by kernel_rfl) (by kernel_rfl) (by kernel_rfl) ?yw42_76 ?rw42_76
              case yw42_76 =>
                refine StepS.pure (fun _ _ _ h => h) (by rfl) (fun w9 => ?_)
                go_simp
                try rfl
              try simp only [Act.put, List.setIfInBounds_toArray, List.set_cons_zero, List.set_cons_succ]
              refine Ps.step (i := 35) (d := some 40) (u := ?uw42_77) rfl rfl (by kernel_rfl) (by kernel_rfl) (by kernel_rfl) (by kernel_rfl) ?yw42_77 ?rw42_77
              case yw42_77 =>
                refine StepS.pure (fun _ _ _ h => h) (by rfl) (fun w9 => ?_)
                go_simp
                try rfl
              try simp only [Act.put, List.setIfInBounds_toArray, List.set_cons_zero, List.set_cons_succ]
              refine Ps.step (i := 36) (d := some 41) (u := ?uw42_78) rfl rfl (by kernel_rfl) (by kernel_rfl) (by kernel_rfl) (by kernel_rfl) ?yw42_78 ?rw42_78
              case yw42_78 =>
                refine StepS.pure (fun _ _ _ h => h) (by rfl) (fun w9 => ?_)
                go_simp
                try rfl
              try simp only [Act.put, List.setIfInBounds_toArray, List.set_cons_zero, List.set_cons_succ]
              refine Ps.step (i := 37) (d := some 42) (u := ?uw42_79) rfl rfl (by kernel_rfl) (by kernel_rfl) (by kernel_rfl) (by kernel_rfl) ?yw42_79 ?rw42_79
              case yw42_79 =>
                refine StepS.pure (fun _ _ _ h => h) (by rfl) (fun w9 => ?_)
                go_simp
                try rfl
              try simp only [Act.put, List.setIfInBounds_toArray, List.set_cons_zero, List.set_cons_succ]
              refine Ps.step (i := 38) (d := some 43) (u := ?uw42_80) rfl rfl (by kernel_rfl) (by kernel_rfl) (by kernel_rfl) (by kernel_rfl) ?yw42_80 ?rw42_80
              case yw42_80 =>
                refine StepS.read [] (by kernel_rfl) (fun _ _ _ h => h) (by rfl) (fun L9 m9 w9 hSh hAt hDn hS => ?_)
                have hT : Below _ _ w9 := hS
                have x2 : w9.cell? ⟨p, 2, none⟩ = some (.int .u64 seq) := (HP.out.ca hT).cell 2
                clear hT hS
                go_simp
                try rfl
              try simp only [Act.put, List.setIfInBounds_toArray, List.set_cons_zero, List.set_cons_succ]
              refine Ps.step (i := 39) (d := some 44) (u := ?uw42_81) rfl rfl (by kernel_rfl) (by kernel_rfl) (by kernel_rfl) (by kernel_rfl) ?yw42_81 ?rw42_81
              case yw42_81 =>
                refine StepS.pure (fun _ _ _ h => h) (by rfl) (fun w9 => ?_)
                go_simp
                try rfl
              try simp only [Act.put, List.setIfInBounds_toArray, List.set_cons_zero, List.set_cons_succ]
              refine Ps.step (i := 40) (d := some 45) (u := ?uw42_82) rfl rfl (by kernel_rfl) (by kernel_rfl) (by kernel_rfl) (by kernel_rfl) ?yw42_82 ?rw42_82
              case yw42_82 =>
                refine StepS.pure (fun _ _ _ h => h) (by rfl) (fun w9 => ?_)
                go_simp
                try rfl
              try simp only [Act.put, List.setIfInBounds_toArray, List.set_cons_zero, List.set_cons_succ]
              refine Ps.done (by kernel_rfl) (fun w42 hS => ?_) _
              have HQ := Lib.hid (show Below w.heap.size w _ from hS)
              clear hS
              obtain ⟨w7, rfl⟩ : ∃ x, x = w42 := ⟨_, rfl⟩
              have HP7 := Lib.hid (HP.out.ca HQ.out)
              have HN7 := Lib.hid (HN.out.ca HQ.out)
              have HO7 := Lib.hid (Lay.own_below HO.out HQ.out)
              go_wp2_with fail
              refine wp_region_ps (S := fun _ _ w' => Below w7.heap.size w7 w') (by kernel_rfl) ?spsw83 ?ppsw83
              case spsw83 =>
                exact (Below.refl _ _).drew
              refine Ps.step (i := 0) (d := some 46) (u := ?uw83_83) rfl rfl (by kernel_rfl) (by kernel_rfl) (by kernel_rfl) (by kernel_rfl) ?yw83_83 ?rw83_83
              case yw83_83 =>
                refine StepS.pure (fun _ _ _ h => h) (by rfl) (fun w9 => ?_)
                go_simp
                try rfl
              try simp only [Act.put, List.setIfInBounds_toArray, List.set_cons_zero, List.set_cons_succ]
              refine Ps.step (i := 1) (d := some 47) (u := ?uw83_84) rfl rfl (by kernel_rfl) (by kernel_rfl) (by kernel_rfl) (by kernel_rfl) ?yw83_84 ?rw83_84
              case yw83_84 =>
                refine StepS.read [] (by kernel_rfl) (fun _ _ _ h => h) (by rfl) (fun L9 m9 w9 hSh hAt hDn hS => ?_)
                have hT : Below _ _ w9 := hS
                have x2 : w9.cell? ⟨p, 2, none⟩ = some (.int .u64 seq) := (HP7.out.ca hT).cell 2
                clear hT hS
                go_simp
                try rfl
              try simp only [Act.put, List.setIfInBounds_toArray, List.set_cons_zero, List.set_cons_succ]
              refine Ps.step (i := 2) (d := some 48) (u := ?uw83_85) rfl rfl (by kernel_rfl) (by kernel_rfl) (by kernel_rfl) (by kernel_rfl) ?yw83_85 ?rw83_85
              case yw83_85 =>
                refine StepS.pure (fun _ _ _ h => h) (by rfl) (fun w9 => ?_)
                go_simp
                try rfl
              try simp only [Act.put, List.setIfInBounds_toArray, List.set_cons_zero, List.set_cons_succ]
              refine Ps.step (i := 3) (d := some 49) (u := ?uw83_86) rfl rfl (by kernel_rfl) (by kernel_rfl) (by kernel_rfl) (by kernel_rfl) ?yw83_86 ?rw83_86
              case yw83_86 =>
                refine StepS.pure (fun _ _ _ h => h) (by rfl) (fun w9 => ?_)
                go_simp
                try rfl
              try simp only [Act.put, List.setIfInBounds_toArray, List.set_cons_zero, List.set_cons_succ]
              refine Ps.step (i := 4) (d := some 50) (u := ?uw83_87) rfl rfl (by kernel_rfl) (by kernel_rfl) (by kernel_rfl) (by kernel_rfl) ?yw83_87 ?rw83_87
              case yw83_87 =>
                refine StepS.pure (fun _ _ _ h => h) (by rfl) (fun w9 => ?_)
                go_simp
                try rfl
              try simp only [Act.put, List.setIfInBounds_toArray, List.set_cons_zero, List.set_cons_succ]
              refine Ps.step (i := 5) (d := some 51) (u := ?uw83_88) rfl rfl (by kernel_rfl) (by kernel_rfl) (by kernel_rfl) (by kernel_rfl) ?yw83_88 ?rw83_88
              case yw83_88 =>
                refine StepS.read [] (by kernel_rfl) (fun _ _ _ h => h) (by rfl) (fun L9 m9 w9 hSh hAt hDn hS => ?_)
                have hT : Below _ _ w9 := hS
                have x1 : w9.cell? ⟨g, 1, none⟩ = some (.int .u64 base) := (HN7.out.ca hT).cell 1
                clear hT hS
                go_simp
                try rfl
              try simp only [Act.put, List.setIfInBounds_toArray, List.set_cons_zero, List.set_cons_succ]
              refine Ps.step (i := 6) (d := some 52) (u := ?uw83_89) rfl rfl (by kernel_rfl) (by kernel_rfl) (by kernel_rfl) (by kernel_rfl) ?yw83_89 ?rw83_89
              case yw83_89 =>
                refine StepS.pure (fun _ _ _ h => h) (by rfl) (fun w9 => ?_)
                go_simp
                try rfl
              try simp only [Act.put, List.setIfInBounds_toArray, List.set_cons_zero, List.set_cons_succ]
              refine Ps.step (i := 7) (d := some 4) (u := ?uw83_90) rfl rfl (by kernel_rfl) (by kernel_rfl) (by kernel_rfl) (by kernel_rfl) ?yw83_90 ?rw83_90
              case yw83_90 =>
                refine StepS.pure (fun _ _ _ h => h) (by rfl) (fun w9 => ?_)
                go_simp
                try rfl
              try simp only [Act.put, List.setIfInBounds_toArray, List.set_cons_zero, List.set_cons_succ]
              refine Ps.done (by kernel_rfl) (fun w83 hS => ?_) _
              have HQ8 := Lib.hid (show Below w7.heap.size w7 _ from hS)
              clear hS
              obtain ⟨w8, rfl⟩ : ∃ x, x = w83 := ⟨_, rfl⟩
              go_wp2_with fail
              obtain ⟨mx, hmx⟩ : ∃ mx, mx = (if lim ≤ plim then plim else lim) := ⟨_, rfl⟩
              have hsz7 := HQ.out.size
              have hsz8 := HQ8.out.size
              have HMX := Lib.hid hmx
              have hmax : max lim plim = mx := by rw [hmx]; split <;> omega
              clear hmx
              have HP8 := Lib.hid (HP7.out.ca HQ8.out)
              have HN8 := Lib.hid (HN7.out.ca HQ8.out)
              have HO8 := Lib.hid (Lay.own_below HO7.out HQ8.out)
              have HCAP := Lib.hid hcap
              have hpg : ¬ (fun k => k = g) p := fun h => hpne h
              refine wp_region_ps (S := SeqN [9, 21, 24, 27] (fun z m w' => match z with | 0 => Below w8.heap.size w8 w' | 1 => Below w8.heap.size w8 w' ∧ ∃ A2 c2, m 9 = .slice A2 (n - kk) c2 ∧ LB3.own 45 w' B (fun k => Fr k ∨ B ≤ k) A2 (n - kk) c2 (q.drop kk) | 2 => Chg (fun k => k = g) w8 w' ∧ ∃ A2 c2, m 9 = .slice A2 (n - kk) c2 ∧ LB3.own 45 w' B (fun k => Fr k ∨ B ≤ k) A2 (n - kk) c2 (q.drop kk) ∧ Blk w' g 29 #[.int .u32 ses, .int .u64 base, .slice A2 (n - kk) c2, .int .u64 sent, .int .u64 lim, .int .i64 timer, .bool ended] | 3 => Chg (fun k => k = g) w8 w' ∧ ∃ A2 c2, m 9 = .slice A2 (n - kk) c2 ∧ LB3.own 45 w' B (fun k => Fr k ∨ B ≤ k) A2 (n - kk) c2 (q.drop kk) ∧ Blk w' g 29 #[.int .u32 ses, .int .u64 seq, .slice A2 (n - kk) c2, .int .u64 sent, .int .u64 lim, .int .i64 timer, .bool ended] | _ => Chg (fun k => k = g) w8 w' ∧ ∃ A2 c2, m 9 = .slice A2 (n - kk) c2 ∧ LB3.own 45 w' B (fun k => Fr k ∨ B ≤ k) A2 (n - kk) c2 (q.drop kk) ∧ Blk w' g 29 #[.int .u32 ses, .int .u64 seq, .slice A2 (n - kk) c2, .int .u64 sent, .int .u64 mx, .int .i64 timer, .bool ended])) (by kernel_rfl) ?spsw91 ?ppsw91
              case spsw91 =>
                exact SeqN.start (by decide) (Below.refl _ _).drew
              refine Ps.step (i := 0) (d := some 53) (u := ?uw91_91) rfl rfl (by kernel_rfl) (by kernel_rfl) (by kernel_rfl) (by kernel_rfl) ?yw91_91 ?rw91_91
              case yw91_91 =>
                refine StepS.pure (SeqN.pass (by decide)) (by rfl) (fun w9 => ?_)
                go_simp
                try rfl
              try simp only [Act.put, List.setIfInBounds_toArray, List.set_cons_zero, List.set_cons_succ]
              refine Ps.step (i := 1) (d := some 54) (u := ?uw91_92) rfl rfl (by kernel_rfl) (by kernel_rfl) (by kernel_rfl) (by kernel_rfl) ?yw91_92 ?rw91_92
              case yw91_92 =>
                refine StepS.pure (SeqN.pass (by decide)) (by rfl) (fun w9 => ?_)
                go_simp
                try rfl
              try simp only [Act.put, List.setIfInBounds_toArray, List.set_cons_zero, List.set_cons_succ]
              refine Ps.step (i := 2) (d := some 55) (u := ?uw91_93) rfl rfl (by kernel_rfl) (by kernel_rfl) (by kernel_rfl) (by kernel_rfl) ?yw91_93 ?rw91_93
              case yw91_93 =>
                refine StepS.pure (SeqN.pass (by decide)) (by rfl) (fun w9 => ?_)
                go_simp
                try rfl
              try simp only [Act.put, List.setIfInBounds_toArray, List.set_cons_zero, List.set_cons_succ]
              refine Ps.step (i := 3) (d := some 56) (u := ?uw91_94) rfl rfl (by kernel_rfl) (by kernel_rfl) (by kernel_rfl) (by kernel_rfl) ?yw91_94 ?rw91_94
              case yw91_94 =>
                refine StepS.pure (SeqN.pass (by decide)) (by rfl) (fun w9 => ?_)
                go_simp
                try rfl
              try simp only [Act.put, List.setIfInBounds_toArray, List.set_cons_zero, List.set_cons_succ]
              refine Ps.step (i := 4) (d := some 57) (u := ?uw91_95) rfl rfl (by kernel_rfl) (by kernel_rfl) (by kernel_rfl) (by kernel_rfl) ?yw91_95 ?rw91_95
              case yw91_95 =>
                refine StepS.pure (SeqN.pass (by decide)) (by rfl) (fun w9 => ?_)
                go_simp
                try rfl
              try simp only [Act.put, List.setIfInBounds_toArray, List.set_cons_zero, List.set_cons_succ]
              refine Ps.step (i := 5) (d := some 58) (u := ?uw91_96) rfl rfl (by kernel_rfl) (by kernel_rfl) (by kernel_rfl) (by kernel_rfl) ?yw91_96 ?rw91_96
              case yw91_96 =>
                refine StepS.pure (SeqN.pass (by decide)) (by rfl) (fun w9 => ?_)
                go_simp
                try rfl
              try simp only [Act.put, List.setIfInBounds_toArray, List.set_cons_zero, List.set_cons_succ]
              refine Ps.step (i := 6) (d := some 59) (u := ?uw91_97) rfl rfl (by kernel_rfl) (by kernel_rfl) (by kernel_rfl) (by kernel_rfl) ?yw91_97 ?rw91_97
              case yw91_97 =>
                refine StepS.read [] (by kernel_rfl) (SeqN.pass (by decide)) (by rfl) (fun L9 m9 w9 hSh hAt hDn hS => ?_)
                have hT : Below w8.heap.size w8 w9 := SeqN.zero (post_no hSh hDn (by kernel_rfl)) hS
                have x2 : w9.cell? ⟨g, 2, none⟩ = some (.slice A n c) := (HN8.out.ca hT).cell 2
                clear hT hS
                go_simp
                try rfl
              try simp only [Act.put, List.setIfInBounds_toArray, List.set_cons_zero, List.set_cons_succ]
              refine Ps.step (i := 7) (d := some 60) (u := ?uw91_98) rfl rfl (by kernel_rfl) (by kernel_rfl) (by kernel_rfl) (by kernel_rfl) ?yw91_98 ?rw91_98
              case yw91_98 =>
                refine StepS.pure (SeqN.pass (by decide)) (by rfl) (fun w9 => ?_)
                go_simp
                try rfl
              try simp only [Act.put, List.setIfInBounds_toArray, List.set_cons_zero, List.set_cons_succ]
              refine Ps.step (i := 8) (d := some 61) (u := ?uw91_99) rfl rfl (by kernel_rfl) (by kernel_rfl) (by kernel_rfl) (by kernel_rfl) ?yw91_99 ?rw91_99
              case yw91_99 =>
                refine StepS.pure (SeqN.pass (by decide)) (by rfl) (fun w9 => ?_)
                go_simp
                try rfl
              try simp only [Act.put, List.setIfInBounds_toArray, List.set_cons_zero, List.set_cons_succ]
              refine Ps.step (i := 10) (d := some 63) (u := ?uw91_100) rfl rfl (by kernel_rfl) (by kernel_rfl) (by kernel_rfl) (by kernel_rfl) ?yw91_100 ?rw91_100
              case yw91_100 =>
                refine StepS.pure (SeqN.pass (by decide)) (by rfl) (fun w9 => ?_)
                go_simp
                try rfl
              try simp only [Act.put, List.setIfInBounds_toArray, List.set_cons_zero, List.set_cons_succ]
              refine Ps.step (i := 11) (d := some 64) (u := ?uw91_101) rfl rfl (by kernel_rfl) (by kernel_rfl) (by kernel_rfl) (by kernel_rfl) ?yw91_101 ?rw91_101
              case yw91_101 =>
                refine StepS.read [] (by kernel_rfl) (SeqN.pass (by decide)) (by rfl) (fun L9 m9 w9 hSh hAt hDn hS => ?_)
                have hT : Blk w9 p 47 #[.int .i64 2, .int .u32 ses, .int .u64 seq, .int .u64 plim, .slice pA pn pc, .bool pfin, .int .u64 pcnt] := SeqN.any (T := fun w9 => Blk w9 p 47 #[.int .i64 2, .int .u32 ses, .int .u64 seq, .int .u64 plim, .slice pA pn pc, .bool pfin, .int .u64 pcnt]) (fun z _ _ h => by match z, h with | 0, h => exact HP8.out.ca h | 1, h => exact HP8.out.ca h.1 | 2, h => exact HP8.out.chg h.1 hpg | 3, h => exact HP8.out.chg h.1 hpg | _ + 4, h => exact HP8.out.chg h.1 hpg) hS
                have x2 : w9.cell? ⟨p, 2, none⟩ = some (.int .u64 seq) := hT.cell 2
                clear hT hS
                go_simp
                try rfl
              try simp only [Act.put, List.setIfInBounds_toArray, List.set_cons_zero, List.set_cons_succ]
              refine Ps.step (i := 12) (d := some 65) (u := ?uw91_102) rfl rfl (by kernel_rfl) (by kernel_rfl) (by kernel_rfl) (by kernel_rfl) ?yw91_102 ?rw91_102
              case yw91_102 =>
                refine StepS.pure (SeqN.pass (by decide)) (by rfl) (fun w9 => ?_)
                go_simp
                try rfl
              try simp only [Act.put, List.setIfInBounds_toArray, List.set_cons_zero, List.set_cons_succ]
              refine Ps.step (i := 13) (d := some 66) (u := ?uw91_103) rfl rfl (by kernel_rfl) (by kernel_rfl) (by kernel_rfl) (by kernel_rfl) ?yw91_103 ?rw91_103
              case yw91_103 =>
                refine StepS.pure (SeqN.pass (by decide)) (by rfl) (fun w9 => ?_)
                go_simp
                try rfl
              try simp only [Act.put, List.setIfInBounds_toArray, List.set_cons_zero, List.set_cons_succ]
              refine Ps.step (i := 14) (d := some 67) (u := ?uw91_104) rfl rfl (by kernel_rfl) (by kernel_rfl) (by kernel_rfl) (by kernel_rfl) ?yw91_104 ?rw91_104
              case yw91_104 =>
                refine StepS.pure (SeqN.pass (by decide)) (by rfl) (fun w9 => ?_)
                go_simp
                try rfl
              try simp only [Act.put, List.setIfInBounds_toArray, List.set_cons_zero, List.set_cons_succ]
              refine Ps.step (i := 15) (d := some 68) (u := ?uw91_105) rfl rfl (by kernel_rfl) (by kernel_rfl) (by kernel_rfl) (by kernel_rfl) ?yw91_105 ?rw91_105
              case yw91_105 =>
                refine StepS.read [] (by kernel_rfl) (SeqN.pass (by decide)) (by rfl) (fun L9 m9 w9 hSh hAt hDn hS => ?_)
                have hT : w9.cell? ⟨g, 4, none⟩ = some (.int .u64 lim) := SeqN.lt (T := fun w9 => w9.cell? ⟨g, 4, none⟩ = some (.int .u64 lim)) (k := 27) (by decide) (reach_no hSh (f := 30) (j := 27) (by kernel_rfl) hDn) (fun z _ _ hz h => by match z, hz, h with | 0, _, h => exact (HN8.out.ca h).cell 4 | 1, _, h => exact (HN8.out.ca h.1).cell 4 | 2, _, h => obtain ⟨_, _, _, _, _, hb⟩ := h; exact hb.cell 4 | 3, _, h => obtain ⟨_, _, _, _, _, hb⟩ := h; exact hb.cell 4 | _ + 4, hz, _ => exact absurd hz (by simp)) hS
                clear hS
                go_simp
                try rfl
              try simp only [Act.put, List.setIfInBounds_toArray, List.set_cons_zero, List.set_cons_succ]
              refine Ps.step (i := 16) (d := some 69) (u := ?uw91_106) rfl rfl (by kernel_rfl) (by kernel_rfl) (by kernel_rfl) (by kernel_rfl) ?yw91_106 ?rw91_106
              case yw91_106 =>
                refine StepS.pure (SeqN.pass (by decide)) (by rfl) (fun w9 => ?_)
                go_simp
                try rfl
              try simp only [Act.put, List.setIfInBounds_toArray, List.set_cons_zero, List.set_cons_succ]
              refine Ps.step (i := 17) (d := some 70) (u := ?uw91_107) rfl rfl (by kernel_rfl) (by kernel_rfl) (by kernel_rfl) (by kernel_rfl) ?yw91_107 ?rw91_107
              case yw91_107 =>
                refine StepS.read [] (by kernel_rfl) (SeqN.pass (by decide)) (by rfl) (fun L9 m9 w9 hSh hAt hDn hS => ?_)
                have hT : Blk w9 p 47 #[.int .i64 2, .int .u32 ses, .int .u64 seq, .int .u64 plim, .slice pA pn pc, .bool pfin, .int .u64 pcnt] := SeqN.any (T := fun w9 => Blk w9 p 47 #[.int .i64 2, .int .u32 ses, .int .u64 seq, .int .u64 plim, .slice pA pn pc, .bool pfin, .int .u64 pcnt]) (fun z _ _ h => by match z, h with | 0, h => exact HP8.out.ca h | 1, h => exact HP8.out.ca h.1 | 2, h => exact HP8.out.chg h.1 hpg | 3, h => exact HP8.out.chg h.1 hpg | _ + 4, h => exact HP8.out.chg h.1 hpg) hS
                have x3 : w9.cell? ⟨p, 3, none⟩ = some (.int .u64 plim) := hT.cell 3
                clear hT hS
                go_simp
                try rfl
              try simp only [Act.put, List.setIfInBounds_toArray, List.set_cons_zero, List.set_cons_succ]
              refine Ps.step (i := 18) (d := some 71) (u := (.int .u64 mx)) rfl rfl (by kernel_rfl) (by kernel_rfl) (by kernel_rfl) (by kernel_rfl) ?yw91_108 ?rw91_108
              case yw91_108 =>
                refine StepS.pure (SeqN.pass (by decide)) (by rfl) (fun w9 => ?_)
                skip
                go_simp
                try rfl
              try simp only [Act.put, List.setIfInBounds_toArray, List.set_cons_zero, List.set_cons_succ]
              refine Ps.one (k := 9) (d := some 62) rfl rfl (by kernel_rfl) (TurnS.call (V := fun v => ∃ A2 c2, v = .slice A2 (n - kk) c2) ?fw91_109 ?aw91_109 [] (by kernel_rfl) (by rfl) (fun w9 => ?hw91_109) (fun L9 m9 w9 hSh hAt hDn hS => ?cw91_109)) (fun v9 hVv9 => ?rw91_109)
              case hw91_109 => go_simp; refine ⟨?_, ?_⟩ <;> rfl
              case cw91_109 =>
                have hT : Below w8.heap.size w8 w9 := SeqN.at_ (m0 := m9) (m1 := m9) [] [21, 24, 27] hSh (fun d hd => by cases hd) hDn (by kernel_rfl) hS
                have hsz := hT.size
                refine (cloneB (fun k => Fr k ∨ B ≤ k) _ _ _ (q.drop kk) w9 (Lay.rd_cut (Lay.own_rd (F := fun k => Fr k ∨ B ≤ k) (Lay.own_below HO8.out hT) (fun b hb _ => .inr hb) (fun b hb _ => .inl hb)) hkn HCAP.out.1) (by omega)).mono ?_
                rintro e w6 ⟨A2, c2, rfl, ho, q6⟩
                exact ⟨_, rfl, ⟨A2, c2, rfl⟩, SeqN.set_ (m0 := m9) (m1 := m9) [] [21, 24, 27] hSh (fun d hd => by cases hd) hDn (by kernel_rfl) (by decide) (by decide) ⟨bl_ca hT q6, A2, c2, upd_same _ _ _, Lay.own_lessB (Lay.own_weak (fun k hk _ => hk.1) ho) (by omega)⟩⟩
              try simp only [Act.put, List.setIfInBounds_toArray, List.set_cons_zero, List.set_cons_succ]
              obtain ⟨A2, c2, rfl⟩ := hVv9
              refine Ps.step (i := 19) (d := some 72) (u := ?uw91_110) rfl rfl (by kernel_rfl) (by kernel_rfl) (by kernel_rfl) (by kernel_rfl) ?yw91_110 ?rw91_110
              case yw91_110 =>
                refine StepS.pure (SeqN.pass (by decide)) (by rfl) (fun w9 => ?_)
                go_simp
                try rfl
              try simp only [Act.put, List.setIfInBounds_toArray, List.set_cons_zero, List.set_cons_succ]
              refine Ps.step (i := 20) (d := some 73) (u := ?uw91_111) rfl rfl (by kernel_rfl) (by kernel_rfl) (by kernel_rfl) (by kernel_rfl) ?yw91_111 ?rw91_111
              case yw91_111 =>
                refine StepS.pure (SeqN.pass (by decide)) (by rfl) (fun w9 => ?_)
                go_simp
                try rfl
              try simp only [Act.put, List.setIfInBounds_toArray, List.set_cons_zero, List.set_cons_succ]
              refine Ps.step (i := 21) (d := none) (u := undef) rfl rfl (by kernel_rfl) (by kernel_rfl) (by kernel_rfl) (by kernel_rfl) ?yw91_112 ?rw91_112
              case yw91_112 =>
                refine StepS.store [9] (by kernel_rfl) (by rfl) (fun L9 m9 w9 hSh hAt hDn hS => ?_)
                obtain ⟨hb8, A3, c3, hv, ho⟩ := SeqN.at_ [9] [24, 27] hSh hAt hDn (by kernel_rfl) hS
                have hch : Chg (fun k => k = g) w8 w9 := Chg.of_below hb8
                have hN := HN8.out.ca hb8
                obtain ⟨rfl, rfl⟩ : A2 = A3 ∧ c2 = c3 := by have h9 : Value.slice A2 (n - kk) c2 = .slice A3 (n - kk) c3 := (hAt 9 (by simp)).2.symm.trans hv; simpa using h9
                have hN2 : Blk (w9.setCell ⟨g, 2, none⟩ (.slice A2 (n - kk) c2)) g 29 #[.int .u32 ses, .int .u64 base, .slice A2 (n - kk) c2, .int .u64 sent, .int .u64 lim, .int .i64 timer, .bool ended] := by simpa using hN.set_ 2 (.slice A2 (n - kk) c2)
                have hg2 : w9.grownBy (w9.setCell ⟨g, 2, none⟩ (.slice A2 (n - kk) c2)) (some g) := only_setCell (World.grownBy.refl _ _) (.inl rfl) _
                have x2 : w9.cell? ⟨g, 2, none⟩ = some (.slice A n c) := hN.cell 2
                have fx : w9.frozen? ⟨g, 2, none⟩ = false := hN.frozen 2
                refine ⟨w9.setCell ⟨g, 2, none⟩ (.slice A2 (n - kk) c2), ?_, SeqN.set_ [9] [24, 27] hSh hAt hDn (by kernel_rfl) (by decide) (by decide) ⟨hch.grown hg2 (fun k e => .inl (by injection e with e; exact e.symm)), A2, c2, hv, ?_, hN2⟩⟩
                · clear hv ho hN hN2 hg2 hch hb8 hS
                  go_simp
                · exact Lay.own_same ho (fun k e => hg2.block k (Lay.own_base ho k e).2 (fun e2 => by injection e2 with e2; have := (Lay.own_base ho k e).1; omega)) (fun b hb _ hl => hg2.block b hl (fun e2 => by injection e2 with e2; exact hb.elim (fun h => by have := HFR.out b h; omega) (fun h => by omega)))
              try simp only [Act.put]
              refine Ps.step (i := 22) (d := some 74) (u := ?uw91_113) rfl rfl (by kernel_rfl) (by kernel_rfl) (by kernel_rfl) (by kernel_rfl) ?yw91_113 ?rw91_113
              case yw91_113 =>
                refine StepS.pure (SeqN.pass (by decide)) (by rfl) (fun w9 => ?_)
                go_simp
                try rfl
              try simp only [Act.put, List.setIfInBounds_toArray, List.set_cons_zero, List.set_cons_succ]
              refine Ps.step (i := 23) (d := some 75) (u := ?uw91_114) rfl rfl (by kernel_rfl) (by kernel_rfl) (by kernel_rfl) (by kernel_rfl) ?yw91_114 ?rw91_114
              case yw91_114 =>
                refine StepS.pure (SeqN.pass (by decide)) (by rfl) (fun w9 => ?_)
                go_simp
                try rfl
              try simp only [Act.put, List.setIfInBounds_toArray, List.set_cons_zero, List.set_cons_succ]
              refine Ps.step (i := 24) (d := none) (u := undef) rfl rfl (by kernel_rfl) (by kernel_rfl) (by kernel_rfl) (by kernel_rfl) ?yw91_115 ?rw91_115
              case yw91_115 =>
                refine StepS.store [9, 21] (by kernel_rfl) (by rfl) (fun L9 m9 w9 hSh hAt hDn hS => ?_)
                obtain ⟨hch, A3, c3, hv, ho, hN⟩ := SeqN.at_ [9, 21] [27] hSh hAt hDn (by kernel_rfl) hS
                obtain ⟨rfl, rfl⟩ : A2 = A3 ∧ c2 = c3 := by have h9 : Value.slice A2 (n - kk) c2 = .slice A3 (n - kk) c3 := (hAt 9 (by simp)).2.symm.trans hv; simpa using h9
                have hN2 : Blk (w9.setCell ⟨g, 1, none⟩ (.int .u64 seq)) g 29 #[.int .u32 ses, .int .u64 seq, .slice A2 (n - kk) c2, .int .u64 sent, .int .u64 lim, .int .i64 timer, .bool ended] := by simpa using hN.set_ 1 (.int .u64 seq)
                have hg2 : w9.grownBy (w9.setCell ⟨g, 1, none⟩ (.int .u64 seq)) (some g) := only_setCell (World.grownBy.refl _ _) (.inl rfl) _
                have x2 : w9.cell? ⟨g, 1, none⟩ = some (.int .u64 base) := hN.cell 1
                have fx : w9.frozen? ⟨g, 1, none⟩ = false := hN.frozen 1
                refine ⟨w9.setCell ⟨g, 1, none⟩ (.int .u64 seq), ?_, SeqN.set_ [9, 21] [27] hSh hAt hDn (by kernel_rfl) (by decide) (by decide) ⟨hch.grown hg2 (fun k e => .inl (by injection e with e; exact e.symm)), A2, c2, hv, ?_, hN2⟩⟩
                · clear hv ho hN hN2 hg2 hch hS
                  go_simp
                · exact Lay.own_same ho (fun k e => hg2.block k (Lay.own_base ho k e).2 (fun e2 => by injection e2 with e2; have := (Lay.own_base ho k e).1; omega)) (fun b hb _ hl => hg2.block b hl (fun e2 => by injection e2 with e2; exact hb.elim (fun h => by have := HFR.out b h; omega) (fun h => by omega)))
              try simp only [Act.put]
              refine Ps.step (i := 25) (d := some 76) (u := ?uw91_116) rfl rfl (by kernel_rfl) (by kernel_rfl) (by kernel_rfl) (by kernel_rfl) ?yw91_116 ?rw91_116
              case yw91_116 =>
                refine StepS.pure (SeqN.pass (by decide)) (by rfl) (fun w9 => ?_)
                go_simp
                try rfl
              try simp only [Act.put, List.setIfInBounds_toArray, List.set_cons_zero, List.set_cons_succ]
              refine Ps.step (i := 26) (d := some 77) (u := ?uw91_117) rfl rfl (by kernel_rfl) (by kernel_rfl) (by kernel_rfl) (by kernel_rfl) ?yw91_117 ?rw91_117
              case yw91_117 =>
                refine StepS.pure (SeqN.pass (by decide)) (by rfl) (fun w9 => ?_)
                go_simp
                try rfl
              try simp only [Act.put, List.setIfInBounds_toArray, List.set_cons_zero, List.set_cons_succ]
              refine Ps.step (i := 27) (d := none) (u := undef) rfl rfl (by kernel_rfl) (by kernel_rfl) (by kernel_rfl) (by kernel_rfl) ?yw91_118 ?rw91_118
              case yw91_118 =>
                refine StepS.store [9, 21, 24] (by kernel_rfl) (by rfl) (fun L9 m9 w9 hSh hAt hDn hS => ?_)
                obtain ⟨hch, A3, c3, hv, ho, hN⟩ := SeqN.at_ [9, 21, 24] [] hSh hAt hDn (by kernel_rfl) hS
                obtain ⟨rfl, rfl⟩ : A2 = A3 ∧ c2 = c3 := by have h9 : Value.slice A2 (n - kk) c2 = .slice A3 (n - kk) c3 := (hAt 9 (by simp)).2.symm.trans hv; simpa using h9
                have hN2 : Blk (w9.setCell ⟨g, 4, none⟩ (.int .u64 mx)) g 29 #[.int .u32 ses, .int .u64 seq, .slice A2 (n - kk) c2, .int .u64 sent, .int .u64 mx, .int .i64 timer, .bool ended] := by simpa using hN.set_ 4 (.int .u64 mx)
                have hg2 : w9.grownBy (w9.setCell ⟨g, 4, none⟩ (.int .u64 mx)) (some g) := only_setCell (World.grownBy.refl _ _) (.inl rfl) _
                have x2 : w9.cell? ⟨g, 4, none⟩ = some (.int .u64 lim) := hN.cell 4
                have fx : w9.frozen? ⟨g, 4, none⟩ = false := hN.frozen 4
                refine ⟨w9.setCell ⟨g, 4, none⟩ (.int .u64 mx), ?_, SeqN.set_ [9, 21, 24] [] hSh hAt hDn (by kernel_rfl) (by decide) (by decide) ⟨hch.grown hg2 (fun k e => .inl (by injection e with e; exact e.symm)), A2, c2, hv, ?_, hN2⟩⟩
                · clear hv ho hN hN2 hg2 hch hS
                  go_simp
                · exact Lay.own_same ho (fun k e => hg2.block k (Lay.own_base ho k e).2 (fun e2 => by injection e2 with e2; have := (Lay.own_base ho k e).1; omega)) (fun b hb _ hl => hg2.block b hl (fun e2 => by injection e2 with e2; exact hb.elim (fun h => by have := HFR.out b h; omega) (fun h => by omega)))
              try simp only [Act.put]
              refine Ps.done (by kernel_rfl) (fun w91 hS => ?_) _
              obtain ⟨hch, A3, c3, hv, ho, hN⟩ := SeqN.fin (by rfl) hS
              clear hS
              obtain ⟨rfl, rfl⟩ : A2 = A3 ∧ c2 = c3 := by have h9 : Value.slice A2 (n - kk) c2 = .slice A3 (n - kk) c3 := hv; simpa using h9
              clear hv
              have HCH := Lib.hid hch
              have HOO := Lib.hid ho
              have HNN := Lib.hid hN
              clear hch ho hN
              obtain ⟨wa, rfl⟩ : ∃ x, x = w91 := ⟨_, rfl⟩
              generalize (if c = kk then A else Option.map (fun x => x.add (kk * 3)) A) = AQ
              by_cases hk0 : 0 < kk
              · have d4 : decide ((0 : Int) < (kk : Int)) = true := by simp; omega
                go_wp2_with fail
                refine wp_region_ps (S := fun _ _ w' => Below wa.heap.size wa w') (by kernel_rfl) ?spsw119 ?ppsw119
                case spsw119 =>
                  exact (Below.refl _ _).drew
                refine Ps.step (i := 0) (d := some 78) (u := ?uw119_119) rfl rfl (by kernel_rfl) (by kernel_rfl) (by kernel_rfl) (by kernel_rfl) ?yw119_119 ?rw119_119
                case yw119_119 =>
                  refine StepS.pure (fun _ _ _ h => h) (by rfl) (fun w9 => ?_)
                  go_simp
                  try rfl
                try simp only [Act.put, List.setIfInBounds_toArray, List.set_cons_zero, List.set_cons_succ]
                refine Ps.step (i := 1) (d := some 79) (u := ?uw119_120) rfl rfl (by kernel_rfl) (by kernel_rfl) (by kernel_rfl) (by kernel_rfl) ?yw119_120 ?rw119_120
                case yw119_120 =>
                  refine StepS.pure (fun _ _ _ h => h) (by rfl) (fun w9 => ?_)
                  go_simp
                  try rfl
                try simp only [Act.put, List.setIfInBounds_toArray, List.set_cons_zero, List.set_cons_succ]
                refine Ps.step (i := 2) (d := some 80) (u := ?uw119_121) rfl rfl (by kernel_rfl) (by kernel_rfl) (by kernel_rfl) (by kernel_rfl) ?yw119_121 ?rw119_121
                case yw119_121 =>
                  refine StepS.pure (fun _ _ _ h => h) (by rfl) (fun w9 => ?_)
                  go_simp
                  try rfl
                try simp only [Act.put, List.setIfInBounds_toArray, List.set_cons_zero, List.set_cons_succ]
                refine Ps.step (i := 3) (d := some 81) (u := undef) rfl rfl (by kernel_rfl) (by kernel_rfl) (by kernel_rfl) (by kernel_rfl) ?yw119_122 ?rw119_122
                case yw119_122 =>
                  exact StepS.skip (fun _ _ _ h => h) (by rfl)
                try simp only [Act.put, List.setIfInBounds_toArray, List.set_cons_zero, List.set_cons_succ]
                refine Ps.step (i := 4) (d := some 82) (u := undef) rfl rfl (by kernel_rfl) (by kernel_rfl) (by kernel_rfl) (by kernel_rfl) ?yw119_123 ?rw119_123
                case yw119_123 =>
                  exact StepS.skip (fun _ _ _ h => h) (by rfl)
                try simp only [Act.put, List.setIfInBounds_toArray, List.set_cons_zero, List.set_cons_succ]
                refine Ps.step (i := 5) (d := some 83) (u := undef) rfl rfl (by kernel_rfl) (by kernel_rfl) (by kernel_rfl) (by kernel_rfl) ?yw119_124 ?rw119_124
                case yw119_124 =>
                  exact StepS.skip (fun _ _ _ h => h) (by rfl)
                try simp only [Act.put, List.setIfInBounds_toArray, List.set_cons_zero, List.set_cons_succ]
                refine Ps.step (i := 6) (d := some 84) (u := undef) rfl rfl (by kernel_rfl) (by kernel_rfl) (by kernel_rfl) (by kernel_rfl) ?yw119_125 ?rw119_125
                case yw119_125 =>
                  exact StepS.skip (fun _ _ _ h => h) (by rfl)
                try simp only [Act.put, List.setIfInBounds_toArray, List.set_cons_zero, List.set_cons_succ]
                refine Ps.step (i := 7) (d := some 85) (u := undef) rfl rfl (by kernel_rfl) (by kernel_rfl) (by kernel_rfl) (by kernel_rfl) ?yw119_126 ?rw119_126
                case yw119_126 =>
                  exact StepS.skip (fun _ _ _ h => h) (by rfl)
                try simp only [Act.put, List.setIfInBounds_toArray, List.set_cons_zero, List.set_cons_succ]
                refine Ps.step (i := 8) (d := some 86) (u := undef) rfl rfl (by kernel_rfl) (by kernel_rfl) (by kernel_rfl) (by kernel_rfl) ?yw119_127 ?rw119_127
                case yw119_127 =>
                  exact StepS.skip (fun _ _ _ h => h) (by rfl)
                try simp only [Act.put, List.setIfInBounds_toArray, List.set_cons_zero, List.set_cons_succ]
                refine Ps.step (i := 9) (d := some 87) (u := undef) rfl rfl (by kernel_rfl) (by kernel_rfl) (by kernel_rfl) (by kernel_rfl) ?yw119_128 ?rw119_128
                case yw119_128 =>
                  exact StepS.skip (fun _ _ _ h => h) (by rfl)
                try simp only [Act.put, List.setIfInBounds_toArray, List.set_cons_zero, List.set_cons_succ]
                refine Ps.step (i := 10) (d := some 88) (u := undef) rfl rfl (by kernel_rfl) (by kernel_rfl) (by kernel_rfl) (by kernel_rfl) ?yw119_129 ?rw119_129
                case yw119_129 =>
                  exact StepS.skip (fun _ _ _ h => h) (by rfl)
                try simp only [Act.put, List.setIfInBounds_toArray, List.set_cons_zero, List.set_cons_succ]
                refine Ps.step (i := 11) (d := some 89) (u := undef) rfl rfl (by kernel_rfl) (by kernel_rfl) (by kernel_rfl) (by kernel_rfl) ?yw119_130 ?rw119_130
                case yw119_130 =>
                  exact StepS.skip (fun _ _ _ h => h) (by rfl)
                try simp only [Act.put, List.setIfInBounds_toArray, List.set_cons_zero, List.set_cons_succ]
                refine Ps.step (i := 12) (d := some 90) (u := ?uw119_131) rfl rfl (by kernel_rfl) (by kernel_rfl) (by kernel_rfl) (by kernel_rfl) ?yw119_131 ?rw119_131
                case yw119_131 =>
                  refine StepS.pure (fun _ _ _ h => h) (by rfl) (fun w9 => ?_)
                  go_simp
                  try rfl
                try simp only [Act.put, List.setIfInBounds_toArray, List.set_cons_zero, List.set_cons_succ]
                refine Ps.done (by kernel_rfl) (fun w119 hS => ?_) _
                have HQ9 := Lib.hid (show Below wa.heap.size wa _ from hS)
                clear hS
                obtain ⟨wb, rfl⟩ : ∃ x, x = w119 := ⟨_, rfl⟩
                have hs9 := HQ9.out.size
                have HN9 := Lib.hid (HNN.out.ca HQ9.out)
                have HO9 := Lib.hid (Lay.own_below HOO.out HQ9.out)
                have HC9 := Lib.hid (HCH.out.trans (Chg.of_below HQ9.out))
                clear HNN HOO HCH
                have y5 : wb.cell? ⟨g, 5, none⟩ = some (.int .i64 timer) := HN9.out.cell 5
                have f5 : wb.frozen? ⟨g, 5, none⟩ = false := HN9.out.frozen 5
                have hg9 : wb.grownBy (wb.setCell ⟨g, 5, none⟩ (.int .i64 0)) (some g) := only_setCell (World.grownBy.refl _ _) (.inl rfl) _
                have HG9 := Lib.hid hg9
                have HN10 := Lib.hid (show Blk (wb.setCell ⟨g, 5, none⟩ (.int .i64 0)) g 29 #[.int .u32 ses, .int .u64 seq, .slice A2 (n - kk) c2, .int .u64 sent, .int .u64 mx, .int .i64 0, .bool ended] from by simpa using HN9.out.set_ 5 (.int .i64 0))
                have ho9 := HO9.out
                have HO10 := Lib.hid (Lay.own_same ho9 (fun k e => hg9.block k (Lay.own_base ho9 k e).2 (fun e2 => by injection e2 with e2; have := (Lay.own_base ho9 k e).1; omega)) (fun b hb _ hl => hg9.block b hl (fun e2 => by injection e2 with e2; exact hb.elim (fun h => by have := HFR.out b h; omega) (fun h => by omega))))
                clear hg9 ho9
                go_wp2
                go_ret
                exact acked_yes HYES.out rfl (bl_ca HQ.out HQ8.out) (HC9.out.grown HG9.out (fun k e => .inl (by injection e with e; exact e.symm))) HN10.out HO10.out HKK.out HMX.out (if_pos (by rw [HKK.out]; omega)).symm
              · have d4 : decide ((0 : Int) < (kk : Int)) = false := by simp; omega
                by_cases hss : sent < seq
                · have d5 : decide (sent < seq) = true := by simp; omega
                  go_wp2_with fail
                  refine wp_region_ps (S := fun _ _ w' => Below wa.heap.size wa w') (by kernel_rfl) ?spsw132 ?ppsw132
                  case spsw132 =>
                    exact (Below.refl _ _).drew
                  refine Ps.step (i := 0) (d := some 78) (u := ?uw132_132) rfl rfl (by kernel_rfl) (by kernel_rfl) (by kernel_rfl) (by kernel_rfl) ?yw132_132 ?rw132_132
                  case yw132_132 =>
                    refine StepS.pure (fun _ _ _ h => h) (by rfl) (fun w9 => ?_)
                    go_simp
                    try rfl
                  try simp only [Act.put, List.setIfInBounds_toArray, List.set_cons_zero, List.set_cons_succ]
                  refine Ps.step (i := 1) (d := some 79) (u := ?uw132_133) rfl rfl (by kernel_rfl) (by kernel_rfl) (by kernel_rfl) (by kernel_rfl) ?yw132_133 ?rw132_133
                  case yw132_133 =>
                    refine StepS.pure (fun _ _ _ h => h) (by rfl) (fun w9 => ?_)
                    go_simp
                    try rfl
                  try simp only [Act.put, List.setIfInBounds_toArray, List.set_cons_zero, List.set_cons_succ]
                  refine Ps.step (i := 2) (d := some 80) (u := ?uw132_134) rfl rfl (by kernel_rfl) (by kernel_rfl) (by kernel_rfl) (by kernel_rfl) ?yw132_134 ?rw132_134
                  case yw132_134 =>
                    refine StepS.pure (fun _ _ _ h => h) (by rfl) (fun w9 => ?_)
                    go_simp
                    try rfl
                  try simp only [Act.put, List.setIfInBounds_toArray, List.set_cons_zero, List.set_cons_succ]
                  refine Ps.step (i := 3) (d := some 81) (u := ?uw132_135) rfl rfl (by kernel_rfl) (by kernel_rfl) (by kernel_rfl) (by kernel_rfl) ?yw132_135 ?rw132_135
                  case yw132_135 =>
                    refine StepS.pure (fun _ _ _ h => h) (by rfl) (fun w9 => ?_)
                    go_simp
                    try rfl
                  try simp only [Act.put, List.setIfInBounds_toArray, List.set_cons_zero, List.set_cons_succ]
                  refine Ps.step (i := 4) (d := some 82) (u := ?uw132_136) rfl rfl (by kernel_rfl) (by kernel_rfl) (by kernel_rfl) (by kernel_rfl) ?yw132_136 ?rw132_136
                  case yw132_136 =>
                    refine StepS.pure (fun _ _ _ h => h) (by rfl) (fun w9 => ?_)
                    go_simp
                    try rfl
                  try simp only [Act.put, List.setIfInBounds_toArray, List.set_cons_zero, List.set_cons_succ]
                  refine Ps.step (i := 5) (d := some 83) (u := ?uw132_137) rfl rfl (by kernel_rfl) (by kernel_rfl) (by kernel_rfl) (by kernel_rfl) ?yw132_137 ?rw132_137
                  case yw132_137 =>
                    refine StepS.pure (fun _ _ _ h => h) (by rfl) (fun w9 => ?_)
                    go_simp
                    try rfl
                  try simp only [Act.put, List.setIfInBounds_toArray, List.set_cons_zero, List.set_cons_succ]
                  refine Ps.step (i := 6) (d := some 84) (u := ?uw132_138) rfl rfl (by kernel_rfl) (by kernel_rfl) (by kernel_rfl) (by kernel_rfl) ?yw132_138 ?rw132_138
                  case yw132_138 =>
                    refine StepS.read [] (by kernel_rfl) (fun _ _ _ h => h) (by rfl) (fun L9 m9 w9 hSh hAt hDn hS => ?_)
                    have hT : Below _ _ w9 := hS
                    have x3 : w9.cell? ⟨g, 3, none⟩ = some (.int .u64 sent) := (HNN.out.ca hT).cell 3
                    clear hT hS
                    go_simp
                    try rfl
                  try simp only [Act.put, List.setIfInBounds_toArray, List.set_cons_zero, List.set_cons_succ]
                  refine Ps.step (i := 7) (d := some 85) (u := ?uw132_139) rfl rfl (by kernel_rfl) (by kernel_rfl) (by kernel_rfl) (by kernel_rfl) ?yw132_139 ?rw132_139
                  case yw132_139 =>
                    refine StepS.pure (fun _ _ _ h => h) (by rfl) (fun w9 => ?_)
                    go_simp
                    try rfl
                  try simp only [Act.put, List.setIfInBounds_toArray, List.set_cons_zero, List.set_cons_succ]
                  refine Ps.step (i := 8) (d := some 86) (u := ?uw132_140) rfl rfl (by kernel_rfl) (by kernel_rfl) (by kernel_rfl) (by kernel_rfl) ?yw132_140 ?rw132_140
                  case yw132_140 =>
                    refine StepS.pure (fun _ _ _ h => h) (by rfl) (fun w9 => ?_)
                    go_simp
                    try rfl
                  try simp only [Act.put, List.setIfInBounds_toArray, List.set_cons_zero, List.set_cons_succ]
                  refine Ps.step (i := 9) (d := some 87) (u := ?uw132_141) rfl rfl (by kernel_rfl) (by kernel_rfl) (by kernel_rfl) (by kernel_rfl) ?yw132_141 ?rw132_141
                  case yw132_141 =>
                    refine StepS.pure (fun _ _ _ h => h) (by rfl) (fun w9 => ?_)
                    go_simp
                    try rfl
                  try simp only [Act.put, List.setIfInBounds_toArray, List.set_cons_zero, List.set_cons_succ]
                  refine Ps.step (i := 10) (d := some 88) (u := ?uw132_142) rfl rfl (by kernel_rfl) (by kernel_rfl) (by kernel_rfl) (by kernel_rfl) ?yw132_142 ?rw132_142
                  case yw132_142 =>
                    refine StepS.read [] (by kernel_rfl) (fun _ _ _ h => h) (by rfl) (fun L9 m9 w9 hSh hAt hDn hS => ?_)
                    have hT : Below _ _ w9 := hS
                    have x1 : w9.cell? ⟨g, 1, none⟩ = some (.int .u64 seq) := (HNN.out.ca hT).cell 1
                    clear hT hS
                    go_simp
                    try rfl
                  try simp only [Act.put, List.setIfInBounds_toArray, List.set_cons_zero, List.set_cons_succ]
                  refine Ps.step (i := 11) (d := some 89) (u := ?uw132_143) rfl rfl (by kernel_rfl) (by kernel_rfl) (by kernel_rfl) (by kernel_rfl) ?yw132_143 ?rw132_143
                  case yw132_143 =>
                    refine StepS.pure (fun _ _ _ h => h) (by rfl) (fun w9 => ?_)
                    go_simp
                    try rfl
                  try simp only [Act.put, List.setIfInBounds_toArray, List.set_cons_zero, List.set_cons_succ]
                  refine Ps.step (i := 12) (d := some 90) (u := ?uw132_144) rfl rfl (by kernel_rfl) (by kernel_rfl) (by kernel_rfl) (by kernel_rfl) ?yw132_144 ?rw132_144
                  case yw132_144 =>
                    refine StepS.pure (fun _ _ _ h => h) (by rfl) (fun w9 => ?_)
                    go_simp
                    try rfl
                  try simp only [Act.put, List.setIfInBounds_toArray, List.set_cons_zero, List.set_cons_succ]
                  refine Ps.done (by kernel_rfl) (fun w132 hS => ?_) _
                  have HQ9 := Lib.hid (show Below wa.heap.size wa _ from hS)
                  clear hS
                  obtain ⟨wb, rfl⟩ : ∃ x, x = w132 := ⟨_, rfl⟩
                  have hs9 := HQ9.out.size
                  have HN9 := Lib.hid (HNN.out.ca HQ9.out)
                  have HO9 := Lib.hid (Lay.own_below HOO.out HQ9.out)
                  have HC9 := Lib.hid (HCH.out.trans (Chg.of_below HQ9.out))
                  clear HNN HOO HCH
                  have y5 : wb.cell? ⟨g, 5, none⟩ = some (.int .i64 timer) := HN9.out.cell 5
                  have f5 : wb.frozen? ⟨g, 5, none⟩ = false := HN9.out.frozen 5
                  have hg9 : wb.grownBy (wb.setCell ⟨g, 5, none⟩ (.int .i64 0)) (some g) := only_setCell (World.grownBy.refl _ _) (.inl rfl) _
                  have HG9 := Lib.hid hg9
                  have HN10 := Lib.hid (show Blk (wb.setCell ⟨g, 5, none⟩ (.int .i64 0)) g 29 #[.int .u32 ses, .int .u64 seq, .slice A2 (n - kk) c2, .int .u64 sent, .int .u64 mx, .int .i64 0, .bool ended] from by simpa using HN9.out.set_ 5 (.int .i64 0))
                  have ho9 := HO9.out
                  have HO10 := Lib.hid (Lay.own_same ho9 (fun k e => hg9.block k (Lay.own_base ho9 k e).2 (fun e2 => by injection e2 with e2; have := (Lay.own_base ho9 k e).1; omega)) (fun b hb _ hl => hg9.block b hl (fun e2 => by injection e2 with e2; exact hb.elim (fun h => by have := HFR.out b h; omega) (fun h => by omega))))
                  clear hg9 ho9
                  go_wp2
                  go_ret
                  exact acked_yes HYES.out rfl (bl_ca HQ.out HQ8.out) (HC9.out.grown HG9.out (fun k e => .inl (by injection e with e; exact e.symm))) HN10.out HO10.out HKK.out HMX.out (if_pos (by rw [HKK.out]; omega)).symm
                · have d5 : decide (sent < seq) = false := by simp; omega
                  go_wp2_with fail
                  refine wp_region_ps (S := fun _ _ w' => Below wa.heap.size wa w') (by kernel_rfl) ?spsw145 ?ppsw145
                  case spsw145 =>
                    exact (Below.refl _ _).drew
                  refine Ps.step (i := 0) (d := some 78) (u := ?uw145_145) rfl rfl (by kernel_rfl) (by kernel_rfl) (by kernel_rfl) (by kernel_rfl) ?yw145_145 ?rw145_145
                  case yw145_145 =>
                    refine StepS.pure (fun _ _ _ h => h) (by rfl) (fun w9 => ?_)
                    go_simp
                    try rfl
                  try simp only [Act.put, List.setIfInBounds_toArray, List.set_cons_zero, List.set_cons_succ]
                  refine Ps.step (i := 1) (d := some 79) (u := ?uw145_146) rfl rfl (by kernel_rfl) (by kernel_rfl) (by kernel_rfl) (by kernel_rfl) ?yw145_146 ?rw145_146
                  case yw145_146 =>
                    refine StepS.pure (fun _ _ _ h => h) (by rfl) (fun w9 => ?_)
                    go_simp
                    try rfl
                  try simp only [Act.put, List.setIfInBounds_toArray, List.set_cons_zero, List.set_cons_succ]
                  refine Ps.step (i := 2) (d := some 80) (u := ?uw145_147) rfl rfl (by kernel_rfl) (by kernel_rfl) (by kernel_rfl) (by kernel_rfl) ?yw145_147 ?rw145_147
                  case yw145_147 =>
                    refine StepS.pure (fun _ _ _ h => h) (by rfl) (fun w9 => ?_)
                    go_simp
                    try rfl
                  try simp only [Act.put, List.setIfInBounds_toArray, List.set_cons_zero, List.set_cons_succ]
                  refine Ps.step (i := 3) (d := some 81) (u := ?uw145_148) rfl rfl (by kernel_rfl) (by kernel_rfl) (by kernel_rfl) (by kernel_rfl) ?yw145_148 ?rw145_148
                  case yw145_148 =>
                    refine StepS.pure (fun _ _ _ h => h) (by rfl) (fun w9 => ?_)
                    go_simp
                    try rfl
                  try simp only [Act.put, List.setIfInBounds_toArray, List.set_cons_zero, List.set_cons_succ]
                  refine Ps.step (i := 4) (d := some 82) (u := ?uw145_149) rfl rfl (by kernel_rfl) (by kernel_rfl) (by kernel_rfl) (by kernel_rfl) ?yw145_149 ?rw145_149
                  case yw145_149 =>
                    refine StepS.pure (fun _ _ _ h => h) (by rfl) (fun w9 => ?_)
                    go_simp
                    try rfl
                  try simp only [Act.put, List.setIfInBounds_toArray, List.set_cons_zero, List.set_cons_succ]
                  refine Ps.step (i := 5) (d := some 83) (u := ?uw145_150) rfl rfl (by kernel_rfl) (by kernel_rfl) (by kernel_rfl) (by kernel_rfl) ?yw145_150 ?rw145_150
                  case yw145_150 =>
                    refine StepS.pure (fun _ _ _ h => h) (by rfl) (fun w9 => ?_)
                    go_simp
                    try rfl
                  try simp only [Act.put, List.setIfInBounds_toArray, List.set_cons_zero, List.set_cons_succ]
                  refine Ps.step (i := 6) (d := some 84) (u := ?uw145_151) rfl rfl (by kernel_rfl) (by kernel_rfl) (by kernel_rfl) (by kernel_rfl) ?yw145_151 ?rw145_151
                  case yw145_151 =>
                    refine StepS.read [] (by kernel_rfl) (fun _ _ _ h => h) (by rfl) (fun L9 m9 w9 hSh hAt hDn hS => ?_)
                    have hT : Below _ _ w9 := hS
                    have x3 : w9.cell? ⟨g, 3, none⟩ = some (.int .u64 sent) := (HNN.out.ca hT).cell 3
                    clear hT hS
                    go_simp
                    try rfl
                  try simp only [Act.put, List.setIfInBounds_toArray, List.set_cons_zero, List.set_cons_succ]
                  refine Ps.step (i := 7) (d := some 85) (u := ?uw145_152) rfl rfl (by kernel_rfl) (by kernel_rfl) (by kernel_rfl) (by kernel_rfl) ?yw145_152 ?rw145_152
                  case yw145_152 =>
                    refine StepS.pure (fun _ _ _ h => h) (by rfl) (fun w9 => ?_)
                    go_simp
                    try rfl
                  try simp only [Act.put, List.setIfInBounds_toArray, List.set_cons_zero, List.set_cons_succ]
                  refine Ps.step (i := 8) (d := some 86) (u := ?uw145_153) rfl rfl (by kernel_rfl) (by kernel_rfl) (by kernel_rfl) (by kernel_rfl) ?yw145_153 ?rw145_153
                  case yw145_153 =>
                    refine StepS.pure (fun _ _ _ h => h) (by rfl) (fun w9 => ?_)
                    go_simp
                    try rfl
                  try simp only [Act.put, List.setIfInBounds_toArray, List.set_cons_zero, List.set_cons_succ]
                  refine Ps.step (i := 9) (d := some 87) (u := ?uw145_154) rfl rfl (by kernel_rfl) (by kernel_rfl) (by kernel_rfl) (by kernel_rfl) ?yw145_154 ?rw145_154
                  case yw145_154 =>
                    refine StepS.pure (fun _ _ _ h => h) (by rfl) (fun w9 => ?_)
                    go_simp
                    try rfl
                  try simp only [Act.put, List.setIfInBounds_toArray, List.set_cons_zero, List.set_cons_succ]
                  refine Ps.step (i := 10) (d := some 88) (u := ?uw145_155) rfl rfl (by kernel_rfl) (by kernel_rfl) (by kernel_rfl) (by kernel_rfl) ?yw145_155 ?rw145_155
                  case yw145_155 =>
                    refine StepS.read [] (by kernel_rfl) (fun _ _ _ h => h) (by rfl) (fun L9 m9 w9 hSh hAt hDn hS => ?_)
                    have hT : Below _ _ w9 := hS
                    have x1 : w9.cell? ⟨g, 1, none⟩ = some (.int .u64 seq) := (HNN.out.ca hT).cell 1
                    clear hT hS
                    go_simp
                    try rfl
                  try simp only [Act.put, List.setIfInBounds_toArray, List.set_cons_zero, List.set_cons_succ]
                  refine Ps.step (i := 11) (d := some 89) (u := ?uw145_156) rfl rfl (by kernel_rfl) (by kernel_rfl) (by kernel_rfl) (by kernel_rfl) ?yw145_156 ?rw145_156
                  case yw145_156 =>
                    refine StepS.pure (fun _ _ _ h => h) (by rfl) (fun w9 => ?_)
                    go_simp
                    try rfl
                  try simp only [Act.put, List.setIfInBounds_toArray, List.set_cons_zero, List.set_cons_succ]
                  refine Ps.step (i := 12) (d := some 90) (u := ?uw145_157) rfl rfl (by kernel_rfl) (by kernel_rfl) (by kernel_rfl) (by kernel_rfl) ?yw145_157 ?rw145_157
                  case yw145_157 =>
                    refine StepS.pure (fun _ _ _ h => h) (by rfl) (fun w9 => ?_)
                    go_simp
                    try rfl
                  try simp only [Act.put, List.setIfInBounds_toArray, List.set_cons_zero, List.set_cons_succ]
                  refine Ps.done (by kernel_rfl) (fun w145 hS => ?_) _
                  have HQ9 := Lib.hid (show Below wa.heap.size wa _ from hS)
                  clear hS
                  obtain ⟨wb, rfl⟩ : ∃ x, x = w145 := ⟨_, rfl⟩
                  have hs9 := HQ9.out.size
                  have HN9 := Lib.hid (HNN.out.ca HQ9.out)
                  have HO9 := Lib.hid (Lay.own_below HOO.out HQ9.out)
                  have HC9 := Lib.hid (HCH.out.trans (Chg.of_below HQ9.out))
                  clear HNN HOO HCH
                  go_wp2
                  go_ret
                  exact acked_yes HYES.out rfl (bl_ca HQ.out HQ8.out) HC9.out HN9.out HO9.out HKK.out HMX.out (if_neg (by rw [HKK.out]; omega)).symm
            · have d3 : decide ((1099511627776 : Int) < seq) = true := by simp; omega
              have HNO := Lib.hid (show ackedB ⟨ses, base, q, sent, lim, timer, ended⟩ ⟨2, ses, seq, plim, ⟨rows, pfin, pcnt⟩⟩ = false from by unfold ackedB; simp [c3])
              go_enter Try.func82, Try.ntmps82
              go_wp2_with fail
              refine wp_region_ps (S := fun _ _ w' => Below w.heap.size w w') (by kernel_rfl) ?spsw158 ?ppsw158
              case spsw158 =>
                exact (Below.refl _ _).drew
              refine Ps.step (i := 0) (d := some 5) (u := ?uw158_158) rfl rfl (by kernel_rfl) (by kernel_rfl) (by kernel_rfl) (by kernel_rfl) ?yw158_158 ?rw158_158
              case yw158_158 =>
                refine StepS.read [] (by kernel_rfl) (fun _ _ _ h => h) (by rfl) (fun L9 m9 w9 hSh hAt hDn hS => ?_)
                have hT : Below _ _ w9 := hS
                have x0 : w9.cell? ⟨p, 0, none⟩ = some (.int .i64 2) := (HP.out.ca hT).cell 0
                have x1 : w9.cell? ⟨p, 1, none⟩ = some (.int .u32 ses) := (HP.out.ca hT).cell 1
                have x2 : w9.cell? ⟨p, 2, none⟩ = some (.int .u64 seq) := (HP.out.ca hT).cell 2
                have x3 : w9.cell? ⟨p, 3, none⟩ = some (.int .u64 plim) := (HP.out.ca hT).cell 3
                have x4 : w9.cell? ⟨p, 4, none⟩ = some (.slice pA pn pc) := (HP.out.ca hT).cell 4
                have x5 : w9.cell? ⟨p, 5, none⟩ = some (.bool pfin) := (HP.out.ca hT).cell 5
                have x6 : w9.cell? ⟨p, 6, none⟩ = some (.int .u64 pcnt) := (HP.out.ca hT).cell 6
                clear hT hS
                go_simp
                try rfl
              try simp only [Act.put, List.setIfInBounds_toArray, List.set_cons_zero, List.set_cons_succ]
              refine Ps.step (i := 1) (d := some 6) (u := (.int .i64 0)) rfl rfl (by kernel_rfl) (by kernel_rfl) (by kernel_rfl) (by kernel_rfl) ?yw158_159 ?rw158_159
              case yw158_159 =>
                refine StepS.call ?fw158_159 ?aw158_159 [] (by kernel_rfl) (by rfl) (fun w9 => ?hw158_159) (fun L9 m9 w9 hSh hAt hDn hS => ?cw158_159)
                case hw158_159 => go_simp; refine ⟨?_, ?_⟩ <;> rfl
                case cw158_159 =>
                  have hT : Below _ _ w9 := hS
                  refine (checkp_any _ ⟨2, ses, seq, plim, ⟨rows, pfin, pcnt⟩⟩ pA pn pc w9 (Lay.rd_below HR.out hT) hpn).mono ?_
                  rintro e w8 ⟨rfl, q8⟩
                  exact ⟨by rw [HCP.out]; rfl, bl_ca hT q8⟩
              try simp only [Act.put, List.setIfInBounds_toArray, List.set_cons_zero, List.set_cons_succ]
              refine Ps.step (i := 2) (d := some 7) (u := ?uw158_160) rfl rfl (by kernel_rfl) (by kernel_rfl) (by kernel_rfl) (by kernel_rfl) ?yw158_160 ?rw158_160
              case yw158_160 =>
                refine StepS.pure (fun _ _ _ h => h) (by rfl) (fun w9 => ?_)
                go_simp
                try rfl
              try simp only [Act.put, List.setIfInBounds_toArray, List.set_cons_zero, List.set_cons_succ]
              refine Ps.step (i := 3) (d := some 8) (u := ?uw158_161) rfl rfl (by kernel_rfl) (by kernel_rfl) (by kernel_rfl) (by kernel_rfl) ?yw158_161 ?rw158_161
              case yw158_161 =>
                refine StepS.pure (fun _ _ _ h => h) (by rfl) (fun w9 => ?_)
                go_simp
                try rfl
              try simp only [Act.put, List.setIfInBounds_toArray, List.set_cons_zero, List.set_cons_succ]
              refine Ps.step (i := 4) (d := some 9) (u := ?uw158_162) rfl rfl (by kernel_rfl) (by kernel_rfl) (by kernel_rfl) (by kernel_rfl) ?yw158_162 ?rw158_162
              case yw158_162 =>
                refine StepS.pure (fun _ _ _ h => h) (by rfl) (fun w9 => ?_)
                go_simp
                try rfl
              try simp only [Act.put, List.setIfInBounds_toArray, List.set_cons_zero, List.set_cons_succ]
              refine Ps.step (i := 5) (d := some 10) (u := ?uw158_163) rfl rfl (by kernel_rfl) (by kernel_rfl) (by kernel_rfl) (by kernel_rfl) ?yw158_163 ?rw158_163
              case yw158_163 =>
                refine StepS.read [] (by kernel_rfl) (fun _ _ _ h => h) (by rfl) (fun L9 m9 w9 hSh hAt hDn hS => ?_)
                have hT : Below _ _ w9 := hS
                have x0 : w9.cell? ⟨p, 0, none⟩ = some (.int .i64 2) := (HP.out.ca hT).cell 0
                clear hT hS
                go_simp
                try rfl
              try simp only [Act.put, List.setIfInBounds_toArray, List.set_cons_zero, List.set_cons_succ]
              refine Ps.step (i := 6) (d := some 11) (u := ?uw158_164) rfl rfl (by kernel_rfl) (by kernel_rfl) (by kernel_rfl) (by kernel_rfl) ?yw158_164 ?rw158_164
              case yw158_164 =>
                refine StepS.pure (fun _ _ _ h => h) (by rfl) (fun w9 => ?_)
                go_simp
                try rfl
              try simp only [Act.put, List.setIfInBounds_toArray, List.set_cons_zero, List.set_cons_succ]
              refine Ps.step (i := 7) (d := some 12) (u := ?uw158_165) rfl rfl (by kernel_rfl) (by kernel_rfl) (by kernel_rfl) (by kernel_rfl) ?yw158_165 ?rw158_165
              case yw158_165 =>
                refine StepS.pure (fun _ _ _ h => h) (by rfl) (fun w9 => ?_)
                go_simp
                try rfl
              try simp only [Act.put, List.setIfInBounds_toArray, List.set_cons_zero, List.set_cons_succ]
              refine Ps.step (i := 8) (d := some 13) (u := ?uw158_166) rfl rfl (by kernel_rfl) (by kernel_rfl) (by kernel_rfl) (by kernel_rfl) ?yw158_166 ?rw158_166
              case yw158_166 =>
                refine StepS.pure (fun _ _ _ h => h) (by rfl) (fun w9 => ?_)
                go_simp
                try rfl
              try simp only [Act.put, List.setIfInBounds_toArray, List.set_cons_zero, List.set_cons_succ]
              refine Ps.step (i := 9) (d := some 14) (u := ?uw158_167) rfl rfl (by kernel_rfl) (by kernel_rfl) (by kernel_rfl) (by kernel_rfl) ?yw158_167 ?rw158_167
              case yw158_167 =>
                refine StepS.pure (fun _ _ _ h => h) (by rfl) (fun w9 => ?_)
                go_simp
                try rfl
              try simp only [Act.put, List.setIfInBounds_toArray, List.set_cons_zero, List.set_cons_succ]
              refine Ps.step (i := 10) (d := some 15) (u := ?uw158_168) rfl rfl (by kernel_rfl) (by kernel_rfl) (by kernel_rfl) (by kernel_rfl) ?yw158_168 ?rw158_168
              case yw158_168 =>
                refine StepS.read [] (by kernel_rfl) (fun _ _ _ h => h) (by rfl) (fun L9 m9 w9 hSh hAt hDn hS => ?_)
                have hT : Below _ _ w9 := hS
                have x1 : w9.cell? ⟨p, 1, none⟩ = some (.int .u32 ses) := (HP.out.ca hT).cell 1
                clear hT hS
                go_simp
                try rfl
              try simp only [Act.put, List.setIfInBounds_toArray, List.set_cons_zero, List.set_cons_succ]
              refine Ps.step (i := 11) (d := some 16) (u := ?uw158_169) rfl rfl (by kernel_rfl) (by kernel_rfl) (by kernel_rfl) (by kernel_rfl) ?yw158_169 ?rw158_169
              case yw158_169 =>
                refine StepS.pure (fun _ _ _ h => h) (by rfl) (fun w9 => ?_)
                go_simp
                try rfl
              try simp only [Act.put, List.setIfInBounds_toArray, List.set_cons_zero, List.set_cons_succ]
              refine Ps.step (i := 12) (d := some 17) (u := ?uw158_170) rfl rfl (by kernel_rfl) (by kernel_rfl) (by kernel_rfl) (by kernel_rfl) ?yw158_170 ?rw158_170
              case yw158_170 =>
                refine StepS.pure (fun _ _ _ h => h) (by rfl) (fun w9 => ?_)
                go_simp
                try rfl
              try simp only [Act.put, List.setIfInBounds_toArray, List.set_cons_zero, List.set_cons_succ]
              refine Ps.step (i := 13) (d := some 18) (u := ?uw158_171) rfl rfl (by kernel_rfl) (by kernel_rfl) (by kernel_rfl) (by kernel_rfl) ?yw158_171 ?rw158_171
              case yw158_171 =>
                refine StepS.pure (fun _ _ _ h => h) (by rfl) (fun w9 => ?_)
                go_simp
                try rfl
              try simp only [Act.put, List.setIfInBounds_toArray, List.set_cons_zero, List.set_cons_succ]
              refine Ps.step (i := 14) (d := some 19) (u := ?uw158_172) rfl rfl (by kernel_rfl) (by kernel_rfl) (by kernel_rfl) (by kernel_rfl) ?yw158_172 ?rw158_172
              case yw158_172 =>
                refine StepS.read [] (by kernel_rfl) (fun _ _ _ h => h) (by rfl) (fun L9 m9 w9 hSh hAt hDn hS => ?_)
                have hT : Below _ _ w9 := hS
                have y0 : w9.cell? ⟨g, 0, none⟩ = some (.int .u32 ses) := (HN.out.ca hT).cell 0
                clear hT hS
                go_simp
                try rfl
              try simp only [Act.put, List.setIfInBounds_toArray, List.set_cons_zero, List.set_cons_succ]
              refine Ps.step (i := 15) (d := some 20) (u := ?uw158_173) rfl rfl (by kernel_rfl) (by kernel_rfl) (by kernel_rfl) (by kernel_rfl) ?yw158_173 ?rw158_173
              case yw158_173 =>
                refine StepS.pure (fun _ _ _ h => h) (by rfl) (fun w9 => ?_)
                go_simp
                try rfl
              try simp only [Act.put, List.setIfInBounds_toArray, List.set_cons_zero, List.set_cons_succ]
              refine Ps.step (i := 16) (d := some 21) (u := ?uw158_174) rfl rfl (by kernel_rfl) (by kernel_rfl) (by kernel_rfl) (by kernel_rfl) ?yw158_174 ?rw158_174
              case yw158_174 =>
                refine StepS.pure (fun _ _ _ h => h) (by rfl) (fun w9 => ?_)
                go_simp
                try rfl
              try simp only [Act.put, List.setIfInBounds_toArray, List.set_cons_zero, List.set_cons_succ]
              refine Ps.step (i := 17) (d := some 22) (u := ?uw158_175) rfl rfl (by kernel_rfl) (by kernel_rfl) (by kernel_rfl) (by kernel_rfl) ?yw158_175 ?rw158_175
              case yw158_175 =>
                refine StepS.pure (fun _ _ _ h => h) (by rfl) (fun w9 => ?_)
                go_simp
                try rfl
              try simp only [Act.put, List.setIfInBounds_toArray, List.set_cons_zero, List.set_cons_succ]
              refine Ps.step (i := 18) (d := some 23) (u := ?uw158_176) rfl rfl (by kernel_rfl) (by kernel_rfl) (by kernel_rfl) (by kernel_rfl) ?yw158_176 ?rw158_176
              case yw158_176 =>
                refine StepS.pure (fun _ _ _ h => h) (by rfl) (fun w9 => ?_)
                go_simp
                try rfl
              try simp only [Act.put, List.setIfInBounds_toArray, List.set_cons_zero, List.set_cons_succ]
              refine Ps.step (i := 19) (d := some 24) (u := ?uw158_177) rfl rfl (by kernel_rfl) (by kernel_rfl) (by kernel_rfl) (by kernel_rfl) ?yw158_177 ?rw158_177
              case yw158_177 =>
                refine StepS.read [] (by kernel_rfl) (fun _ _ _ h => h) (by rfl) (fun L9 m9 w9 hSh hAt hDn hS => ?_)
                have hT : Below _ _ w9 := hS
                have x2 : w9.cell? ⟨p, 2, none⟩ = some (.int .u64 seq) := (HP.out.ca hT).cell 2
                clear hT hS
                go_simp
                try rfl
              try simp only [Act.put, List.setIfInBounds_toArray, List.set_cons_zero, List.set_cons_succ]
              refine Ps.step (i := 20) (d := some 25) (u := ?uw158_178) rfl rfl (by kernel_rfl) (by kernel_rfl) (by kernel_rfl) (by kernel_rfl) ?yw158_178 ?rw158_178
              case yw158_178 =>
                refine StepS.pure (fun _ _ _ h => h) (by rfl) (fun w9 => ?_)
                go_simp
                try rfl
              try simp only [Act.put, List.setIfInBounds_toArray, List.set_cons_zero, List.set_cons_succ]
              refine Ps.step (i := 21) (d := some 26) (u := ?uw158_179) rfl rfl (by kernel_rfl) (by kernel_rfl) (by kernel_rfl) (by kernel_rfl) ?yw158_179 ?rw158_179
              case yw158_179 =>
                refine StepS.pure (fun _ _ _ h => h) (by rfl) (fun w9 => ?_)
                go_simp
                try rfl
              try simp only [Act.put, List.setIfInBounds_toArray, List.set_cons_zero, List.set_cons_succ]
              refine Ps.step (i := 22) (d := some 27) (u := ?uw158_180) rfl rfl (by kernel_rfl) (by kernel_rfl) (by kernel_rfl) (by kernel_rfl) ?yw158_180 ?rw158_180
              case yw158_180 =>
                refine StepS.pure (fun _ _ _ h => h) (by rfl) (fun w9 => ?_)
                go_simp
                try rfl
              try simp only [Act.put, List.setIfInBounds_toArray, List.set_cons_zero, List.set_cons_succ]
              refine Ps.step (i := 23) (d := some 28) (u := ?uw158_181) rfl rfl (by kernel_rfl) (by kernel_rfl) (by kernel_rfl) (by kernel_rfl) ?yw158_181 ?rw158_181
              case yw158_181 =>
                refine StepS.read [] (by kernel_rfl) (fun _ _ _ h => h) (by rfl) (fun L9 m9 w9 hSh hAt hDn hS => ?_)
                have hT : Below _ _ w9 := hS
                have y1 : w9.cell? ⟨g, 1, none⟩ = some (.int .u64 base) := (HN.out.ca hT).cell 1
                clear hT hS
                go_simp
                try rfl
              try simp only [Act.put, List.setIfInBounds_toArray, List.set_cons_zero, List.set_cons_succ]
              refine Ps.step (i := 24) (d := some 29) (u := ?uw158_182) rfl rfl (by kernel_rfl) (by kernel_rfl) (by kernel_rfl) (by kernel_rfl) ?yw158_182 ?rw158_182
              case yw158_182 =>
                refine StepS.pure (fun _ _ _ h => h) (by rfl) (fun w9 => ?_)
                go_simp
                try rfl
              try simp only [Act.put, List.setIfInBounds_toArray, List.set_cons_zero, List.set_cons_succ]
              refine Ps.step (i := 25) (d := some 30) (u := ?uw158_183) rfl rfl (by kernel_rfl) (by kernel_rfl) (by kernel_rfl) (by kernel_rfl) ?yw158_183 ?rw158_183
              case yw158_183 =>
                refine StepS.pure (fun _ _ _ h => h) (by rfl) (fun w9 => ?_)
                go_simp
                try rfl
              try simp only [Act.put, List.setIfInBounds_toArray, List.set_cons_zero, List.set_cons_succ]
              refine Ps.step (i := 26) (d := some 31) (u := ?uw158_184) rfl rfl (by kernel_rfl) (by kernel_rfl) (by kernel_rfl) (by kernel_rfl) ?yw158_184 ?rw158_184
              case yw158_184 =>
                refine StepS.pure (fun _ _ _ h => h) (by rfl) (fun w9 => ?_)
                go_simp
                try rfl
              try simp only [Act.put, List.setIfInBounds_toArray, List.set_cons_zero, List.set_cons_succ]
              refine Ps.step (i := 27) (d := some 32) (u := ?uw158_185) rfl rfl (by kernel_rfl) (by kernel_rfl) (by kernel_rfl) (by kernel_rfl) ?yw158_185 ?rw158_185
              case yw158_185 =>
                refine StepS.pure (fun _ _ _ h => h) (by rfl) (fun w9 => ?_)
                go_simp
                try rfl
              try simp only [Act.put, List.setIfInBounds_toArray, List.set_cons_zero, List.set_cons_succ]
              refine Ps.step (i := 28) (d := some 33) (u := ?uw158_186) rfl rfl (by kernel_rfl) (by kernel_rfl) (by kernel_rfl) (by kernel_rfl) ?yw158_186 ?rw158_186
              case yw158_186 =>
                refine StepS.read [] (by kernel_rfl) (fun _ _ _ h => h) (by rfl) (fun L9 m9 w9 hSh hAt hDn hS => ?_)
                have hT : Below _ _ w9 := hS
                have x2 : w9.cell? ⟨p, 2, none⟩ = some (.int .u64 seq) := (HP.out.ca hT).cell 2
                clear hT hS
                go_simp
                try rfl
              try simp only [Act.put, List.setIfInBounds_toArray, List.set_cons_zero, List.set_cons_succ]
              refine Ps.step (i := 29) (d := some 34) (u := ?uw158_187) rfl rfl (by kernel_rfl) (by kernel_rfl) (by kernel_rfl) (by kernel_rfl) ?yw158_187 ?rw158_187
              case yw158_187 =>
                refine StepS.pure (fun _ _ _ h => h) (by rfl) (fun w9 => ?_)
                go_simp
                try rfl
              try simp only [Act.put, List.setIfInBounds_toArray, List.set_cons_zero, List.set_cons_succ]
              refine Ps.step (i := 30) (d := some 35) (u := ?uw158_188) rfl rfl (by kernel_rfl) (by kernel_rfl) (by kernel_rfl) (by kernel_rfl) ?yw158_188 ?rw158_188
              case yw158_188 =>
                refine StepS.pure (fun _ _ _ h => h) (by rfl) (fun w9 => ?_)
                go_simp
                try rfl
              try simp only [Act.put, List.setIfInBounds_toArray, List.set_cons_zero, List.set_cons_succ]
              refine Ps.step (i := 31) (d := some 36) (u := ?uw158_189) rfl rfl (by kernel_rfl) (by kernel_rfl) (by kernel_rfl) (by kernel_rfl) ?yw158_189 ?rw158_189
              case yw158_189 =>
                refine StepS.pure (fun _ _ _ h => h) (by rfl) (fun w9 => ?_)
                go_simp
                try rfl
              try simp only [Act.put, List.setIfInBounds_toArray, List.set_cons_zero, List.set_cons_succ]
              refine Ps.step (i := 32) (d := some 37) (u := ?uw158_190) rfl rfl (by kernel_rfl) (by kernel_rfl) (by kernel_rfl) (by kernel_rfl) ?yw158_190 ?rw158_190
              case yw158_190 =>
                refine StepS.read [] (by kernel_rfl) (fun _ _ _ h => h) (by rfl) (fun L9 m9 w9 hSh hAt hDn hS => ?_)
                have hT : Below _ _ w9 := hS
                have y3 : w9.cell? ⟨g, 3, none⟩ = some (.int .u64 sent) := (HN.out.ca hT).cell 3
                clear hT hS
                go_simp
                try rfl
              try simp only [Act.put, List.setIfInBounds_toArray, List.set_cons_zero, List.set_cons_succ]
              refine Ps.step (i := 33) (d := some 38) (u := ?uw158_191) rfl rfl (by kernel_rfl) (by kernel_rfl) (by kernel_rfl) (by kernel_rfl) ?yw158_191 ?rw158_191
              case yw158_191 =>
                refine StepS.pure (fun _ _ _ h => h) (by rfl) (fun w9 => ?_)
                go_simp
                try rfl
              try simp only [Act.put, List.setIfInBounds_toArray, List.set_cons_zero, List.set_cons_succ]
              refine Ps.step (i := 34) (d := some 39) (u := ?uw158_192) rfl rfl (by kernel_rfl) (by kernel_rfl) (by kernel_rfl) (by kernel_rfl) ?yw158_192 ?rw158_192
              case yw158_192 =>
                refine StepS.pure (fun _ _ _ h => h) (by rfl) (fun w9 => ?_)
                go_simp
                try rfl
              try simp only [Act.put, List.setIfInBounds_toArray, List.set_cons_zero, List.set_cons_succ]
              refine Ps.step (i := 35) (d := some 40) (u := ?uw158_193) rfl rfl (by kernel_rfl) (by kernel_rfl) (by kernel_rfl) (by kernel_rfl) ?yw158_193 ?rw158_193
              case yw158_193 =>
                refine StepS.pure (fun _ _ _ h => h) (by rfl) (fun w9 => ?_)
                go_simp
                try rfl
              try simp only [Act.put, List.setIfInBounds_toArray, List.set_cons_zero, List.set_cons_succ]
              refine Ps.step (i := 36) (d := some 41) (u := ?uw158_194) rfl rfl (by kernel_rfl) (by kernel_rfl) (by kernel_rfl) (by kernel_rfl) ?yw158_194 ?rw158_194
              case yw158_194 =>
                refine StepS.pure (fun _ _ _ h => h) (by rfl) (fun w9 => ?_)
                go_simp
                try rfl
              try simp only [Act.put, List.setIfInBounds_toArray, List.set_cons_zero, List.set_cons_succ]
              refine Ps.step (i := 37) (d := some 42) (u := ?uw158_195) rfl rfl (by kernel_rfl) (by kernel_rfl) (by kernel_rfl) (by kernel_rfl) ?yw158_195 ?rw158_195
              case yw158_195 =>
                refine StepS.pure (fun _ _ _ h => h) (by rfl) (fun w9 => ?_)
                go_simp
                try rfl
              try simp only [Act.put, List.setIfInBounds_toArray, List.set_cons_zero, List.set_cons_succ]
              refine Ps.step (i := 38) (d := some 43) (u := ?uw158_196) rfl rfl (by kernel_rfl) (by kernel_rfl) (by kernel_rfl) (by kernel_rfl) ?yw158_196 ?rw158_196
              case yw158_196 =>
                refine StepS.read [] (by kernel_rfl) (fun _ _ _ h => h) (by rfl) (fun L9 m9 w9 hSh hAt hDn hS => ?_)
                have hT : Below _ _ w9 := hS
                have x2 : w9.cell? ⟨p, 2, none⟩ = some (.int .u64 seq) := (HP.out.ca hT).cell 2
                clear hT hS
                go_simp
                try rfl
              try simp only [Act.put, List.setIfInBounds_toArray, List.set_cons_zero, List.set_cons_succ]
              refine Ps.step (i := 39) (d := some 44) (u := ?uw158_197) rfl rfl (by kernel_rfl) (by kernel_rfl) (by kernel_rfl) (by kernel_rfl) ?yw158_197 ?rw158_197
              case yw158_197 =>
                refine StepS.pure (fun _ _ _ h => h) (by rfl) (fun w9 => ?_)
                go_simp
                try rfl
              try simp only [Act.put, List.setIfInBounds_toArray, List.set_cons_zero, List.set_cons_succ]
              refine Ps.step (i := 40) (d := some 45) (u := ?uw158_198) rfl rfl (by kernel_rfl) (by kernel_rfl) (by kernel_rfl) (by kernel_rfl) ?yw158_198 ?rw158_198
              case yw158_198 =>
                refine StepS.pure (fun _ _ _ h => h) (by rfl) (fun w9 => ?_)
                go_simp
                try rfl
              try simp only [Act.put, List.setIfInBounds_toArray, List.set_cons_zero, List.set_cons_succ]
              refine Ps.done (by kernel_rfl) (fun w158 hS => ?_) _
              have HQ := Lib.hid (show Below w.heap.size w _ from hS)
              clear hS
              obtain ⟨w7, rfl⟩ : ∃ x, x = w158 := ⟨_, rfl⟩
              go_wp2
              go_ret
              exact acked_no HNO.out rfl HQ.out HN.out HO.out
          · have d2 : decide (sent + 1 < seq) = true := by simp; omega
            have HNO := Lib.hid (show ackedB ⟨ses, base, q, sent, lim, timer, ended⟩ ⟨2, ses, seq, plim, ⟨rows, pfin, pcnt⟩⟩ = false from by unfold ackedB; simp [c2])
            go_enter Try.func82, Try.ntmps82
            go_wp2_with fail
            refine wp_region_ps (S := fun _ _ w' => Below w.heap.size w w') (by kernel_rfl) ?spsw199 ?ppsw199
            case spsw199 =>
              exact (Below.refl _ _).drew
            refine Ps.step (i := 0) (d := some 5) (u := ?uw199_199) rfl rfl (by kernel_rfl) (by kernel_rfl) (by kernel_rfl) (by kernel_rfl) ?yw199_199 ?rw199_199
            case yw199_199 =>
              refine StepS.read [] (by kernel_rfl) (fun _ _ _ h => h) (by rfl) (fun L9 m9 w9 hSh hAt hDn hS => ?_)
              have hT : Below _ _ w9 := hS
              have x0 : w9.cell? ⟨p, 0, none⟩ = some (.int .i64 2) := (HP.out.ca hT).cell 0
              have x1 : w9.cell? ⟨p, 1, none⟩ = some (.int .u32 ses) := (HP.out.ca hT).cell 1
              have x2 : w9.cell? ⟨p, 2, none⟩ = some (.int .u64 seq) := (HP.out.ca hT).cell 2
              have x3 : w9.cell? ⟨p, 3, none⟩ = some (.int .u64 plim) := (HP.out.ca hT).cell 3
              have x4 : w9.cell? ⟨p, 4, none⟩ = some (.slice pA pn pc) := (HP.out.ca hT).cell 4
              have x5 : w9.cell? ⟨p, 5, none⟩ = some (.bool pfin) := (HP.out.ca hT).cell 5
              have x6 : w9.cell? ⟨p, 6, none⟩ = some (.int .u64 pcnt) := (HP.out.ca hT).cell 6
              clear hT hS
              go_simp
              try rfl
            try simp only [Act.put, List.setIfInBounds_toArray, List.set_cons_zero, List.set_cons_succ]
            refine Ps.step (i := 1) (d := some 6) (u := (.int .i64 0)) rfl rfl (by kernel_rfl) (by kernel_rfl) (by kernel_rfl) (by kernel_rfl) ?yw199_200 ?rw199_200
            case yw199_200 =>
              refine StepS.call ?fw199_200 ?aw199_200 [] (by kernel_rfl) (by rfl) (fun w9 => ?hw199_200) (fun L9 m9 w9 hSh hAt hDn hS => ?cw199_200)
              case hw199_200 => go_simp; refine ⟨?_, ?_⟩ <;> rfl
              case cw199_200 =>
                have hT : Below _ _ w9 := hS
                refine (checkp_any _ ⟨2, ses, seq, plim, ⟨rows, pfin, pcnt⟩⟩ pA pn pc w9 (Lay.rd_below HR.out hT) hpn).mono ?_
                rintro e w8 ⟨rfl, q8⟩
                exact ⟨by rw [HCP.out]; rfl, bl_ca hT q8⟩
            try simp only [Act.put, List.setIfInBounds_toArray, List.set_cons_zero, List.set_cons_succ]
            refine Ps.step (i := 2) (d := some 7) (u := ?uw199_201) rfl rfl (by kernel_rfl) (by kernel_rfl) (by kernel_rfl) (by kernel_rfl) ?yw199_201 ?rw199_201
            case yw199_201 =>
              refine StepS.pure (fun _ _ _ h => h) (by rfl) (fun w9 => ?_)
              go_simp
              try rfl
            try simp only [Act.put, List.setIfInBounds_toArray, List.set_cons_zero, List.set_cons_succ]
            refine Ps.step (i := 3) (d := some 8) (u := ?uw199_202) rfl rfl (by kernel_rfl) (by kernel_rfl) (by kernel_rfl) (by kernel_rfl) ?yw199_202 ?rw199_202
            case yw199_202 =>
              refine StepS.pure (fun _ _ _ h => h) (by rfl) (fun w9 => ?_)
              go_simp
              try rfl
            try simp only [Act.put, List.setIfInBounds_toArray, List.set_cons_zero, List.set_cons_succ]
            refine Ps.step (i := 4) (d := some 9) (u := ?uw199_203) rfl rfl (by kernel_rfl) (by kernel_rfl) (by kernel_rfl) (by kernel_rfl) ?yw199_203 ?rw199_203
            case yw199_203 =>
              refine StepS.pure (fun _ _ _ h => h) (by rfl) (fun w9 => ?_)
              go_simp
              try rfl
            try simp only [Act.put, List.setIfInBounds_toArray, List.set_cons_zero, List.set_cons_succ]
            refine Ps.step (i := 5) (d := some 10) (u := ?uw199_204) rfl rfl (by kernel_rfl) (by kernel_rfl) (by kernel_rfl) (by kernel_rfl) ?yw199_204 ?rw199_204
            case yw199_204 =>
              refine StepS.read [] (by kernel_rfl) (fun _ _ _ h => h) (by rfl) (fun L9 m9 w9 hSh hAt hDn hS => ?_)
              have hT : Below _ _ w9 := hS
              have x0 : w9.cell? ⟨p, 0, none⟩ = some (.int .i64 2) := (HP.out.ca hT).cell 0
              clear hT hS
              go_simp
              try rfl
            try simp only [Act.put, List.setIfInBounds_toArray, List.set_cons_zero, List.set_cons_succ]
            refine Ps.step (i := 6) (d := some 11) (u := ?uw199_205) rfl rfl (by kernel_rfl) (by kernel_rfl) (by kernel_rfl) (by kernel_rfl) ?yw199_205 ?rw199_205
            case yw199_205 =>
              refine StepS.pure (fun _ _ _ h => h) (by rfl) (fun w9 => ?_)
              go_simp
              try rfl
            try simp only [Act.put, List.setIfInBounds_toArray, List.set_cons_zero, List.set_cons_succ]
            refine Ps.step (i := 7) (d := some 12) (u := ?uw199_206) rfl rfl (by kernel_rfl) (by kernel_rfl) (by kernel_rfl) (by kernel_rfl) ?yw199_206 ?rw199_206
            case yw199_206 =>
              refine StepS.pure (fun _ _ _ h => h) (by rfl) (fun w9 => ?_)
              go_simp
              try rfl
            try simp only [Act.put, List.setIfInBounds_toArray, List.set_cons_zero, List.set_cons_succ]
            refine Ps.step (i := 8) (d := some 13) (u := ?uw199_207) rfl rfl (by kernel_rfl) (by kernel_rfl) (by kernel_rfl) (by kernel_rfl) ?yw199_207 ?rw199_207
            case yw199_207 =>
              refine StepS.pure (fun _ _ _ h => h) (by rfl) (fun w9 => ?_)
              go_simp
              try rfl
            try simp only [Act.put, List.setIfInBounds_toArray, List.set_cons_zero, List.set_cons_succ]
            refine Ps.step (i := 9) (d := some 14) (u := ?uw199_208) rfl rfl (by kernel_rfl) (by kernel_rfl) (by kernel_rfl) (by kernel_rfl) ?yw199_208 ?rw199_208
            case yw199_208 =>
              refine StepS.pure (fun _ _ _ h => h) (by rfl) (fun w9 => ?_)
              go_simp
              try rfl
            try simp only [Act.put, List.setIfInBounds_toArray, List.set_cons_zero, List.set_cons_succ]
            refine Ps.step (i := 10) (d := some 15) (u := ?uw199_209) rfl rfl (by kernel_rfl) (by kernel_rfl) (by kernel_rfl) (by kernel_rfl) ?yw199_209 ?rw199_209
            case yw199_209 =>
              refine StepS.read [] (by kernel_rfl) (fun _ _ _ h => h) (by rfl) (fun L9 m9 w9 hSh hAt hDn hS => ?_)
              have hT : Below _ _ w9 := hS
              have x1 : w9.cell? ⟨p, 1, none⟩ = some (.int .u32 ses) := (HP.out.ca hT).cell 1
              clear hT hS
              go_simp
              try rfl
            try simp only [Act.put, List.setIfInBounds_toArray, List.set_cons_zero, List.set_cons_succ]
            refine Ps.step (i := 11) (d := some 16) (u := ?uw199_210) rfl rfl (by kernel_rfl) (by kernel_rfl) (by kernel_rfl) (by kernel_rfl) ?yw199_210 ?rw199_210
            case yw199_210 =>
              refine StepS.pure (fun _ _ _ h => h) (by rfl) (fun w9 => ?_)
              go_simp
              try rfl
            try simp only [Act.put, List.setIfInBounds_toArray, List.set_cons_zero, List.set_cons_succ]
            refine Ps.step (i := 12) (d := some 17) (u := ?uw199_211) rfl rfl (by kernel_rfl) (by kernel_rfl) (by kernel_rfl) (by kernel_rfl) ?yw199_211 ?rw199_211
            case yw199_211 =>
              refine StepS.pure (fun _ _ _ h => h) (by rfl) (fun w9 => ?_)
              go_simp
              try rfl
            try simp only [Act.put, List.setIfInBounds_toArray, List.set_cons_zero, List.set_cons_succ]
            refine Ps.step (i := 13) (d := some 18) (u := ?uw199_212) rfl rfl (by kernel_rfl) (by kernel_rfl) (by kernel_rfl) (by kernel_rfl) ?yw199_212 ?rw199_212
            case yw199_212 =>
              refine StepS.pure (fun _ _ _ h => h) (by rfl) (fun w9 => ?_)
              go_simp
              try rfl
            try simp only [Act.put, List.setIfInBounds_toArray, List.set_cons_zero, List.set_cons_succ]
            refine Ps.step (i := 14) (d := some 19) (u := ?uw199_213) rfl rfl (by kernel_rfl) (by kernel_rfl) (by kernel_rfl) (by kernel_rfl) ?yw199_213 ?rw199_213
            case yw199_213 =>
              refine StepS.read [] (by kernel_rfl) (fun _ _ _ h => h) (by rfl) (fun L9 m9 w9 hSh hAt hDn hS => ?_)
              have hT : Below _ _ w9 := hS
              have y0 : w9.cell? ⟨g, 0, none⟩ = some (.int .u32 ses) := (HN.out.ca hT).cell 0
              clear hT hS
              go_simp
              try rfl
            try simp only [Act.put, List.setIfInBounds_toArray, List.set_cons_zero, List.set_cons_succ]
            refine Ps.step (i := 15) (d := some 20) (u := ?uw199_214) rfl rfl (by kernel_rfl) (by kernel_rfl) (by kernel_rfl) (by kernel_rfl) ?yw199_214 ?rw199_214
            case yw199_214 =>
              refine StepS.pure (fun _ _ _ h => h) (by rfl) (fun w9 => ?_)
              go_simp
              try rfl
            try simp only [Act.put, List.setIfInBounds_toArray, List.set_cons_zero, List.set_cons_succ]
            refine Ps.step (i := 16) (d := some 21) (u := ?uw199_215) rfl rfl (by kernel_rfl) (by kernel_rfl) (by kernel_rfl) (by kernel_rfl) ?yw199_215 ?rw199_215
            case yw199_215 =>
              refine StepS.pure (fun _ _ _ h => h) (by rfl) (fun w9 => ?_)
              go_simp
              try rfl
            try simp only [Act.put, List.setIfInBounds_toArray, List.set_cons_zero, List.set_cons_succ]
            refine Ps.step (i := 17) (d := some 22) (u := ?uw199_216) rfl rfl (by kernel_rfl) (by kernel_rfl) (by kernel_rfl) (by kernel_rfl) ?yw199_216 ?rw199_216
            case yw199_216 =>
              refine StepS.pure (fun _ _ _ h => h) (by rfl) (fun w9 => ?_)
              go_simp
              try rfl
            try simp only [Act.put, List.setIfInBounds_toArray, List.set_cons_zero, List.set_cons_succ]
            refine Ps.step (i := 18) (d := some 23) (u := ?uw199_217) rfl rfl (by kernel_rfl) (by kernel_rfl) (by kernel_rfl) (by kernel_rfl) ?yw199_217 ?rw199_217
            case yw199_217 =>
              refine StepS.pure (fun _ _ _ h => h) (by rfl) (fun w9 => ?_)
              go_simp
              try rfl
            try simp only [Act.put, List.setIfInBounds_toArray, List.set_cons_zero, List.set_cons_succ]
            refine Ps.step (i := 19) (d := some 24) (u := ?uw199_218) rfl rfl (by kernel_rfl) (by kernel_rfl) (by kernel_rfl) (by kernel_rfl) ?yw199_218 ?rw199_218
            case yw199_218 =>
              refine StepS.read [] (by kernel_rfl) (fun _ _ _ h => h) (by rfl) (fun L9 m9 w9 hSh hAt hDn hS => ?_)
              have hT : Below _ _ w9 := hS
              have x2 : w9.cell? ⟨p, 2, none⟩ = some (.int .u64 seq) := (HP.out.ca hT).cell 2
              clear hT hS
              go_simp
              try rfl
            try simp only [Act.put, List.setIfInBounds_toArray, List.set_cons_zero, List.set_cons_succ]
            refine Ps.step (i := 20) (d := some 25) (u := ?uw199_219) rfl rfl (by kernel_rfl) (by kernel_rfl) (by kernel_rfl) (by kernel_rfl) ?yw199_219 ?rw199_219
            case yw199_219 =>
              refine StepS.pure (fun _ _ _ h => h) (by rfl) (fun w9 => ?_)
              go_simp
              try rfl
            try simp only [Act.put, List.setIfInBounds_toArray, List.set_cons_zero, List.set_cons_succ]
            refine Ps.step (i := 21) (d := some 26) (u := ?uw199_220) rfl rfl (by kernel_rfl) (by kernel_rfl) (by kernel_rfl) (by kernel_rfl) ?yw199_220 ?rw199_220
            case yw199_220 =>
              refine StepS.pure (fun _ _ _ h => h) (by rfl) (fun w9 => ?_)
              go_simp
              try rfl
            try simp only [Act.put, List.setIfInBounds_toArray, List.set_cons_zero, List.set_cons_succ]
            refine Ps.step (i := 22) (d := some 27) (u := ?uw199_221) rfl rfl (by kernel_rfl) (by kernel_rfl) (by kernel_rfl) (by kernel_rfl) ?yw199_221 ?rw199_221
            case yw199_221 =>
              refine StepS.pure (fun _ _ _ h => h) (by rfl) (fun w9 => ?_)
              go_simp
              try rfl
            try simp only [Act.put, List.setIfInBounds_toArray, List.set_cons_zero, List.set_cons_succ]
            refine Ps.step (i := 23) (d := some 28) (u := ?uw199_222) rfl rfl (by kernel_rfl) (by kernel_rfl) (by kernel_rfl) (by kernel_rfl) ?yw199_222 ?rw199_222
            case yw199_222 =>
              refine StepS.read [] (by kernel_rfl) (fun _ _ _ h => h) (by rfl) (fun L9 m9 w9 hSh hAt hDn hS => ?_)
              have hT : Below _ _ w9 := hS
              have y1 : w9.cell? ⟨g, 1, none⟩ = some (.int .u64 base) := (HN.out.ca hT).cell 1
              clear hT hS
              go_simp
              try rfl
            try simp only [Act.put, List.setIfInBounds_toArray, List.set_cons_zero, List.set_cons_succ]
            refine Ps.step (i := 24) (d := some 29) (u := ?uw199_223) rfl rfl (by kernel_rfl) (by kernel_rfl) (by kernel_rfl) (by kernel_rfl) ?yw199_223 ?rw199_223
            case yw199_223 =>
              refine StepS.pure (fun _ _ _ h => h) (by rfl) (fun w9 => ?_)
              go_simp
              try rfl
            try simp only [Act.put, List.setIfInBounds_toArray, List.set_cons_zero, List.set_cons_succ]
            refine Ps.step (i := 25) (d := some 30) (u := ?uw199_224) rfl rfl (by kernel_rfl) (by kernel_rfl) (by kernel_rfl) (by kernel_rfl) ?yw199_224 ?rw199_224
            case yw199_224 =>
              refine StepS.pure (fun _ _ _ h => h) (by rfl) (fun w9 => ?_)
              go_simp
              try rfl
            try simp only [Act.put, List.setIfInBounds_toArray, List.set_cons_zero, List.set_cons_succ]
            refine Ps.step (i := 26) (d := some 31) (u := ?uw199_225) rfl rfl (by kernel_rfl) (by kernel_rfl) (by kernel_rfl) (by kernel_rfl) ?yw199_225 ?rw199_225
            case yw199_225 =>
              refine StepS.pure (fun _ _ _ h => h) (by rfl) (fun w9 => ?_)
              go_simp
              try rfl
            try simp only [Act.put, List.setIfInBounds_toArray, List.set_cons_zero, List.set_cons_succ]
            refine Ps.step (i := 27) (d := some 32) (u := ?uw199_226) rfl rfl (by kernel_rfl) (by kernel_rfl) (by kernel_rfl) (by kernel_rfl) ?yw199_226 ?rw199_226
            case yw199_226 =>
              refine StepS.pure (fun _ _ _ h => h) (by rfl) (fun w9 => ?_)
              go_simp
              try rfl
            try simp only [Act.put, List.setIfInBounds_toArray, List.set_cons_zero, List.set_cons_succ]
            refine Ps.step (i := 28) (d := some 33) (u := ?uw199_227) rfl rfl (by kernel_rfl) (by kernel_rfl) (by kernel_rfl) (by kernel_rfl) ?yw199_227 ?rw199_227
            case yw199_227 =>
              refine StepS.read [] (by kernel_rfl) (fun _ _ _ h => h) (by rfl) (fun L9 m9 w9 hSh hAt hDn hS => ?_)
              have hT : Below _ _ w9 := hS
              have x2 : w9.cell? ⟨p, 2, none⟩ = some (.int .u64 seq) := (HP.out.ca hT).cell 2
              clear hT hS
              go_simp
              try rfl
            try simp only [Act.put, List.setIfInBounds_toArray, List.set_cons_zero, List.set_cons_succ]
            refine Ps.step (i := 29) (d := some 34) (u := ?uw199_228) rfl rfl (by kernel_rfl) (by kernel_rfl) (by kernel_rfl) (by kernel_rfl) ?yw199_228 ?rw199_228
            case yw199_228 =>
              refine StepS.pure (fun _ _ _ h => h) (by rfl) (fun w9 => ?_)
              go_simp
              try rfl
            try simp only [Act.put, List.setIfInBounds_toArray, List.set_cons_zero, List.set_cons_succ]
            refine Ps.step (i := 30) (d := some 35) (u := ?uw199_229) rfl rfl (by kernel_rfl) (by kernel_rfl) (by kernel_rfl) (by kernel_rfl) ?yw199_229 ?rw199_229
            case yw199_229 =>
              refine StepS.pure (fun _ _ _ h => h) (by rfl) (fun w9 => ?_)
              go_simp
              try rfl
            try simp only [Act.put, List.setIfInBounds_toArray, List.set_cons_zero, List.set_cons_succ]
            refine Ps.step (i := 31) (d := some 36) (u := ?uw199_230) rfl rfl (by kernel_rfl) (by kernel_rfl) (by kernel_rfl) (by kernel_rfl) ?yw199_230 ?rw199_230
            case yw199_230 =>
              refine StepS.pure (fun _ _ _ h => h) (by rfl) (fun w9 => ?_)
              go_simp
              try rfl
            try simp only [Act.put, List.setIfInBounds_toArray, List.set_cons_zero, List.set_cons_succ]
            refine Ps.step (i := 32) (d := some 37) (u := ?uw199_231) rfl rfl (by kernel_rfl) (by kernel_rfl) (by kernel_rfl) (by kernel_rfl) ?yw199_231 ?rw199_231
            case yw199_231 =>
              refine StepS.read [] (by kernel_rfl) (fun _ _ _ h => h) (by rfl) (fun L9 m9 w9 hSh hAt hDn hS => ?_)
              have hT : Below _ _ w9 := hS
              have y3 : w9.cell? ⟨g, 3, none⟩ = some (.int .u64 sent) := (HN.out.ca hT).cell 3
              clear hT hS
              go_simp
              try rfl
            try simp only [Act.put, List.setIfInBounds_toArray, List.set_cons_zero, List.set_cons_succ]
            refine Ps.step (i := 33) (d := some 38) (u := ?uw199_232) rfl rfl (by kernel_rfl) (by kernel_rfl) (by kernel_rfl) (by kernel_rfl) ?yw199_232 ?rw199_232
            case yw199_232 =>
              refine StepS.pure (fun _ _ _ h => h) (by rfl) (fun w9 => ?_)
              go_simp
              try rfl
            try simp only [Act.put, List.setIfInBounds_toArray, List.set_cons_zero, List.set_cons_succ]
            refine Ps.step (i := 34) (d := some 39) (u := ?uw199_233) rfl rfl (by kernel_rfl) (by kernel_rfl) (by kernel_rfl) (by kernel_rfl) ?yw199_233 ?rw199_233
            case yw199_233 =>
              refine StepS.pure (fun _ _ _ h => h) (by rfl) (fun w9 => ?_)
              go_simp
              try rfl
            try simp only [Act.put, List.setIfInBounds_toArray, List.set_cons_zero, List.set_cons_succ]
            refine Ps.step (i := 35) (d := some 40) (u := ?uw199_234) rfl rfl (by kernel_rfl) (by kernel_rfl) (by kernel_rfl) (by kernel_rfl) ?yw199_234 ?rw199_234
            case yw199_234 =>
              refine StepS.pure (fun _ _ _ h => h) (by rfl) (fun w9 => ?_)
              go_simp
              try rfl
            try simp only [Act.put, List.setIfInBounds_toArray, List.set_cons_zero, List.set_cons_succ]
            refine Ps.step (i := 36) (d := some 41) (u := ?uw199_235) rfl rfl (by kernel_rfl) (by kernel_rfl) (by kernel_rfl) (by kernel_rfl) ?yw199_235 ?rw199_235
            case yw199_235 =>
              refine StepS.pure (fun _ _ _ h => h) (by rfl) (fun w9 => ?_)
              go_simp
              try rfl
            try simp only [Act.put, List.setIfInBounds_toArray, List.set_cons_zero, List.set_cons_succ]
            refine Ps.step (i := 37) (d := some 42) (u := undef) rfl rfl (by kernel_rfl) (by kernel_rfl) (by kernel_rfl) (by kernel_rfl) ?yw199_236 ?rw199_236
            case yw199_236 =>
              exact StepS.skip (fun _ _ _ h => h) (by rfl)
            try simp only [Act.put, List.setIfInBounds_toArray, List.set_cons_zero, List.set_cons_succ]
            refine Ps.step (i := 38) (d := some 43) (u := undef) rfl rfl (by kernel_rfl) (by kernel_rfl) (by kernel_rfl) (by kernel_rfl) ?yw199_237 ?rw199_237
            case yw199_237 =>
              exact StepS.skip (fun _ _ _ h => h) (by rfl)
            try simp only [Act.put, List.setIfInBounds_toArray, List.set_cons_zero, List.set_cons_succ]
            refine Ps.step (i := 39) (d := some 44) (u := undef) rfl rfl (by kernel_rfl) (by kernel_rfl) (by kernel_rfl) (by kernel_rfl) ?yw199_238 ?rw199_238
            case yw199_238 =>
              exact StepS.skip (fun _ _ _ h => h) (by rfl)
            try simp only [Act.put, List.setIfInBounds_toArray, List.set_cons_zero, List.set_cons_succ]
            refine Ps.step (i := 40) (d := some 45) (u := ?uw199_239) rfl rfl (by kernel_rfl) (by kernel_rfl) (by kernel_rfl) (by kernel_rfl) ?yw199_239 ?rw199_239
            case yw199_239 =>
              refine StepS.pure (fun _ _ _ h => h) (by rfl) (fun w9 => ?_)
              go_simp
              try rfl
            try simp only [Act.put, List.setIfInBounds_toArray, List.set_cons_zero, List.set_cons_succ]
            refine Ps.done (by kernel_rfl) (fun w199 hS => ?_) _
            have HQ := Lib.hid (show Below w.heap.size w _ from hS)
            clear hS
            obtain ⟨w7, rfl⟩ : ∃ x, x = w199 := ⟨_, rfl⟩
            go_wp2
            go_ret
            exact acked_no HNO.out rfl HQ.out HN.out HO.out
        · have d1 : decide (seq < base) = true := by simp; omega
          have HNO := Lib.hid (show ackedB ⟨ses, base, q, sent, lim, timer, ended⟩ ⟨2, ses, seq, plim, ⟨rows, pfin, pcnt⟩⟩ = false from by unfold ackedB; simp [c1])
          go_enter Try.func82, Try.ntmps82
          go_wp2_with fail
          refine wp_region_ps (S := fun _ _ w' => Below w.heap.size w w') (by kernel_rfl) ?spsw240 ?ppsw240
          case spsw240 =>
            exact (Below.refl _ _).drew
          refine Ps.step (i := 0) (d := some 5) (u := ?uw240_240) rfl rfl (by kernel_rfl) (by kernel_rfl) (by kernel_rfl) (by kernel_rfl) ?yw240_240 ?rw240_240
          case yw240_240 =>
            refine StepS.read [] (by kernel_rfl) (fun _ _ _ h => h) (by rfl) (fun L9 m9 w9 hSh hAt hDn hS => ?_)
            have hT : Below _ _ w9 := hS
            have x0 : w9.cell? ⟨p, 0, none⟩ = some (.int .i64 2) := (HP.out.ca hT).cell 0
            have x1 : w9.cell? ⟨p, 1, none⟩ = some (.int .u32 ses) := (HP.out.ca hT).cell 1
            have x2 : w9.cell? ⟨p, 2, none⟩ = some (.int .u64 seq) := (HP.out.ca hT).cell 2
            have x3 : w9.cell? ⟨p, 3, none⟩ = some (.int .u64 plim) := (HP.out.ca hT).cell 3
            have x4 : w9.cell? ⟨p, 4, none⟩ = some (.slice pA pn pc) := (HP.out.ca hT).cell 4
            have x5 : w9.cell? ⟨p, 5, none⟩ = some (.bool pfin) := (HP.out.ca hT).cell 5
            have x6 : w9.cell? ⟨p, 6, none⟩ = some (.int .u64 pcnt) := (HP.out.ca hT).cell 6
            clear hT hS
            go_simp
            try rfl
          try simp only [Act.put, List.setIfInBounds_toArray, List.set_cons_zero, List.set_cons_succ]
          refine Ps.step (i := 1) (d := some 6) (u := (.int .i64 0)) rfl rfl (by kernel_rfl) (by kernel_rfl) (by kernel_rfl) (by kernel_rfl) ?yw240_241 ?rw240_241
          case yw240_241 =>
            refine StepS.call ?fw240_241 ?aw240_241 [] (by kernel_rfl) (by rfl) (fun w9 => ?hw240_241) (fun L9 m9 w9 hSh hAt hDn hS => ?cw240_241)
            case hw240_241 => go_simp; refine ⟨?_, ?_⟩ <;> rfl
            case cw240_241 =>
              have hT : Below _ _ w9 := hS
              refine (checkp_any _ ⟨2, ses, seq, plim, ⟨rows, pfin, pcnt⟩⟩ pA pn pc w9 (Lay.rd_below HR.out hT) hpn).mono ?_
              rintro e w8 ⟨rfl, q8⟩
              exact ⟨by rw [HCP.out]; rfl, bl_ca hT q8⟩
          try simp only [Act.put, List.setIfInBounds_toArray, List.set_cons_zero, List.set_cons_succ]
          refine Ps.step (i := 2) (d := some 7) (u := ?uw240_242) rfl rfl (by kernel_rfl) (by kernel_rfl) (by kernel_rfl) (by kernel_rfl) ?yw240_242 ?rw240_242
          case yw240_242 =>
            refine StepS.pure (fun _ _ _ h => h) (by rfl) (fun w9 => ?_)
            go_simp
            try rfl
          try simp only [Act.put, List.setIfInBounds_toArray, List.set_cons_zero, List.set_cons_succ]
          refine Ps.step (i := 3) (d := some 8) (u := ?uw240_243) rfl rfl (by kernel_rfl) (by kernel_rfl) (by kernel_rfl) (by kernel_rfl) ?yw240_243 ?rw240_243
          case yw240_243 =>
            refine StepS.pure (fun _ _ _ h => h) (by rfl) (fun w9 => ?_)
            go_simp
            try rfl
          try simp only [Act.put, List.setIfInBounds_toArray, List.set_cons_zero, List.set_cons_succ]
          refine Ps.step (i := 4) (d := some 9) (u := ?uw240_244) rfl rfl (by kernel_rfl) (by kernel_rfl) (by kernel_rfl) (by kernel_rfl) ?yw240_244 ?rw240_244
          case yw240_244 =>
            refine StepS.pure (fun _ _ _ h => h) (by rfl) (fun w9 => ?_)
            go_simp
            try rfl
          try simp only [Act.put, List.setIfInBounds_toArray, List.set_cons_zero, List.set_cons_succ]
          refine Ps.step (i := 5) (d := some 10) (u := ?uw240_245) rfl rfl (by kernel_rfl) (by kernel_rfl) (by kernel_rfl) (by kernel_rfl) ?yw240_245 ?rw240_245
          case yw240_245 =>
            refine StepS.read [] (by kernel_rfl) (fun _ _ _ h => h) (by rfl) (fun L9 m9 w9 hSh hAt hDn hS => ?_)
            have hT : Below _ _ w9 := hS
            have x0 : w9.cell? ⟨p, 0, none⟩ = some (.int .i64 2) := (HP.out.ca hT).cell 0
            clear hT hS
            go_simp
            try rfl
          try simp only [Act.put, List.setIfInBounds_toArray, List.set_cons_zero, List.set_cons_succ]
          refine Ps.step (i := 6) (d := some 11) (u := ?uw240_246) rfl rfl (by kernel_rfl) (by kernel_rfl) (by kernel_rfl) (by kernel_rfl) ?yw240_246 ?rw240_246
          case yw240_246 =>
            refine StepS.pure (fun _ _ _ h => h) (by rfl) (fun w9 => ?_)
            go_simp
            try rfl
          try simp only [Act.put, List.setIfInBounds_toArray, List.set_cons_zero, List.set_cons_succ]
          refine Ps.step (i := 7) (d := some 12) (u := ?uw240_247) rfl rfl (by kernel_rfl) (by kernel_rfl) (by kernel_rfl) (by kernel_rfl) ?yw240_247 ?rw240_247
          case yw240_247 =>
            refine StepS.pure (fun _ _ _ h => h) (by rfl) (fun w9 => ?_)
            go_simp
            try rfl
          try simp only [Act.put, List.setIfInBounds_toArray, List.set_cons_zero, List.set_cons_succ]
          refine Ps.step (i := 8) (d := some 13) (u := ?uw240_248) rfl rfl (by kernel_rfl) (by kernel_rfl) (by kernel_rfl) (by kernel_rfl) ?yw240_248 ?rw240_248
          case yw240_248 =>
            refine StepS.pure (fun _ _ _ h => h) (by rfl) (fun w9 => ?_)
            go_simp
            try rfl
          try simp only [Act.put, List.setIfInBounds_toArray, List.set_cons_zero, List.set_cons_succ]
          refine Ps.step (i := 9) (d := some 14) (u := ?uw240_249) rfl rfl (by kernel_rfl) (by kernel_rfl) (by kernel_rfl) (by kernel_rfl) ?yw240_249 ?rw240_249
          case yw240_249 =>
            refine StepS.pure (fun _ _ _ h => h) (by rfl) (fun w9 => ?_)
            go_simp
            try rfl
          try simp only [Act.put, List.setIfInBounds_toArray, List.set_cons_zero, List.set_cons_succ]
          refine Ps.step (i := 10) (d := some 15) (u := ?uw240_250) rfl rfl (by kernel_rfl) (by kernel_rfl) (by kernel_rfl) (by kernel_rfl) ?yw240_250 ?rw240_250
          case yw240_250 =>
            refine StepS.read [] (by kernel_rfl) (fun _ _ _ h => h) (by rfl) (fun L9 m9 w9 hSh hAt hDn hS => ?_)
            have hT : Below _ _ w9 := hS
            have x1 : w9.cell? ⟨p, 1, none⟩ = some (.int .u32 ses) := (HP.out.ca hT).cell 1
            clear hT hS
            go_simp
            try rfl
          try simp only [Act.put, List.setIfInBounds_toArray, List.set_cons_zero, List.set_cons_succ]
          refine Ps.step (i := 11) (d := some 16) (u := ?uw240_251) rfl rfl (by kernel_rfl) (by kernel_rfl) (by kernel_rfl) (by kernel_rfl) ?yw240_251 ?rw240_251
          case yw240_251 =>
            refine StepS.pure (fun _ _ _ h => h) (by rfl) (fun w9 => ?_)
            go_simp
            try rfl
          try simp only [Act.put, List.setIfInBounds_toArray, List.set_cons_zero, List.set_cons_succ]
          refine Ps.step (i := 12) (d := some 17) (u := ?uw240_252) rfl rfl (by kernel_rfl) (by kernel_rfl) (by kernel_rfl) (by kernel_rfl) ?yw240_252 ?rw240_252
          case yw240_252 =>
            refine StepS.pure (fun _ _ _ h => h) (by rfl) (fun w9 => ?_)
            go_simp
            try rfl
          try simp only [Act.put, List.setIfInBounds_toArray, List.set_cons_zero, List.set_cons_succ]
          refine Ps.step (i := 13) (d := some 18) (u := ?uw240_253) rfl rfl (by kernel_rfl) (by kernel_rfl) (by kernel_rfl) (by kernel_rfl) ?yw240_253 ?rw240_253
          case yw240_253 =>
            refine StepS.pure (fun _ _ _ h => h) (by rfl) (fun w9 => ?_)
            go_simp
            try rfl
          try simp only [Act.put, List.setIfInBounds_toArray, List.set_cons_zero, List.set_cons_succ]
          refine Ps.step (i := 14) (d := some 19) (u := ?uw240_254) rfl rfl (by kernel_rfl) (by kernel_rfl) (by kernel_rfl) (by kernel_rfl) ?yw240_254 ?rw240_254
          case yw240_254 =>
            refine StepS.read [] (by kernel_rfl) (fun _ _ _ h => h) (by rfl) (fun L9 m9 w9 hSh hAt hDn hS => ?_)
            have hT : Below _ _ w9 := hS
            have y0 : w9.cell? ⟨g, 0, none⟩ = some (.int .u32 ses) := (HN.out.ca hT).cell 0
            clear hT hS
            go_simp
            try rfl
          try simp only [Act.put, List.setIfInBounds_toArray, List.set_cons_zero, List.set_cons_succ]
          refine Ps.step (i := 15) (d := some 20) (u := ?uw240_255) rfl rfl (by kernel_rfl) (by kernel_rfl) (by kernel_rfl) (by kernel_rfl) ?yw240_255 ?rw240_255
          case yw240_255 =>
            refine StepS.pure (fun _ _ _ h => h) (by rfl) (fun w9 => ?_)
            go_simp
            try rfl
          try simp only [Act.put, List.setIfInBounds_toArray, List.set_cons_zero, List.set_cons_succ]
          refine Ps.step (i := 16) (d := some 21) (u := ?uw240_256) rfl rfl (by kernel_rfl) (by kernel_rfl) (by kernel_rfl) (by kernel_rfl) ?yw240_256 ?rw240_256
          case yw240_256 =>
            refine StepS.pure (fun _ _ _ h => h) (by rfl) (fun w9 => ?_)
            go_simp
            try rfl
          try simp only [Act.put, List.setIfInBounds_toArray, List.set_cons_zero, List.set_cons_succ]
          refine Ps.step (i := 17) (d := some 22) (u := ?uw240_257) rfl rfl (by kernel_rfl) (by kernel_rfl) (by kernel_rfl) (by kernel_rfl) ?yw240_257 ?rw240_257
          case yw240_257 =>
            refine StepS.pure (fun _ _ _ h => h) (by rfl) (fun w9 => ?_)
            go_simp
            try rfl
          try simp only [Act.put, List.setIfInBounds_toArray, List.set_cons_zero, List.set_cons_succ]
          refine Ps.step (i := 18) (d := some 23) (u := ?uw240_258) rfl rfl (by kernel_rfl) (by kernel_rfl) (by kernel_rfl) (by kernel_rfl) ?yw240_258 ?rw240_258
          case yw240_258 =>
            refine StepS.pure (fun _ _ _ h => h) (by rfl) (fun w9 => ?_)
            go_simp
            try rfl
          try simp only [Act.put, List.setIfInBounds_toArray, List.set_cons_zero, List.set_cons_succ]
          refine Ps.step (i := 19) (d := some 24) (u := ?uw240_259) rfl rfl (by kernel_rfl) (by kernel_rfl) (by kernel_rfl) (by kernel_rfl) ?yw240_259 ?rw240_259
          case yw240_259 =>
            refine StepS.read [] (by kernel_rfl) (fun _ _ _ h => h) (by rfl) (fun L9 m9 w9 hSh hAt hDn hS => ?_)
            have hT : Below _ _ w9 := hS
            have x2 : w9.cell? ⟨p, 2, none⟩ = some (.int .u64 seq) := (HP.out.ca hT).cell 2
            clear hT hS
            go_simp
            try rfl
          try simp only [Act.put, List.setIfInBounds_toArray, List.set_cons_zero, List.set_cons_succ]
          refine Ps.step (i := 20) (d := some 25) (u := ?uw240_260) rfl rfl (by kernel_rfl) (by kernel_rfl) (by kernel_rfl) (by kernel_rfl) ?yw240_260 ?rw240_260
          case yw240_260 =>
            refine StepS.pure (fun _ _ _ h => h) (by rfl) (fun w9 => ?_)
            go_simp
            try rfl
          try simp only [Act.put, List.setIfInBounds_toArray, List.set_cons_zero, List.set_cons_succ]
          refine Ps.step (i := 21) (d := some 26) (u := ?uw240_261) rfl rfl (by kernel_rfl) (by kernel_rfl) (by kernel_rfl) (by kernel_rfl) ?yw240_261 ?rw240_261
          case yw240_261 =>
            refine StepS.pure (fun _ _ _ h => h) (by rfl) (fun w9 => ?_)
            go_simp
            try rfl
          try simp only [Act.put, List.setIfInBounds_toArray, List.set_cons_zero, List.set_cons_succ]
          refine Ps.step (i := 22) (d := some 27) (u := ?uw240_262) rfl rfl (by kernel_rfl) (by kernel_rfl) (by kernel_rfl) (by kernel_rfl) ?yw240_262 ?rw240_262
          case yw240_262 =>
            refine StepS.pure (fun _ _ _ h => h) (by rfl) (fun w9 => ?_)
            go_simp
            try rfl
          try simp only [Act.put, List.setIfInBounds_toArray, List.set_cons_zero, List.set_cons_succ]
          refine Ps.step (i := 23) (d := some 28) (u := ?uw240_263) rfl rfl (by kernel_rfl) (by kernel_rfl) (by kernel_rfl) (by kernel_rfl) ?yw240_263 ?rw240_263
          case yw240_263 =>
            refine StepS.read [] (by kernel_rfl) (fun _ _ _ h => h) (by rfl) (fun L9 m9 w9 hSh hAt hDn hS => ?_)
            have hT : Below _ _ w9 := hS
            have y1 : w9.cell? ⟨g, 1, none⟩ = some (.int .u64 base) := (HN.out.ca hT).cell 1
            clear hT hS
            go_simp
            try rfl
          try simp only [Act.put, List.setIfInBounds_toArray, List.set_cons_zero, List.set_cons_succ]
          refine Ps.step (i := 24) (d := some 29) (u := ?uw240_264) rfl rfl (by kernel_rfl) (by kernel_rfl) (by kernel_rfl) (by kernel_rfl) ?yw240_264 ?rw240_264
          case yw240_264 =>
            refine StepS.pure (fun _ _ _ h => h) (by rfl) (fun w9 => ?_)
            go_simp
            try rfl
          try simp only [Act.put, List.setIfInBounds_toArray, List.set_cons_zero, List.set_cons_succ]
          refine Ps.step (i := 25) (d := some 30) (u := ?uw240_265) rfl rfl (by kernel_rfl) (by kernel_rfl) (by kernel_rfl) (by kernel_rfl) ?yw240_265 ?rw240_265
          case yw240_265 =>
            refine StepS.pure (fun _ _ _ h => h) (by rfl) (fun w9 => ?_)
            go_simp
            try rfl
          try simp only [Act.put, List.setIfInBounds_toArray, List.set_cons_zero, List.set_cons_succ]
          refine Ps.step (i := 26) (d := some 31) (u := ?uw240_266) rfl rfl (by kernel_rfl) (by kernel_rfl) (by kernel_rfl) (by kernel_rfl) ?yw240_266 ?rw240_266
          case yw240_266 =>
            refine StepS.pure (fun _ _ _ h => h) (by rfl) (fun w9 => ?_)
            go_simp
            try rfl
          try simp only [Act.put, List.setIfInBounds_toArray, List.set_cons_zero, List.set_cons_succ]
          refine Ps.step (i := 27) (d := some 32) (u := undef) rfl rfl (by kernel_rfl) (by kernel_rfl) (by kernel_rfl) (by kernel_rfl) ?yw240_267 ?rw240_267
          case yw240_267 =>
            exact StepS.skip (fun _ _ _ h => h) (by rfl)
          try simp only [Act.put, List.setIfInBounds_toArray, List.set_cons_zero, List.set_cons_succ]
          refine Ps.step (i := 28) (d := some 33) (u := undef) rfl rfl (by kernel_rfl) (by kernel_rfl) (by kernel_rfl) (by kernel_rfl) ?yw240_268 ?rw240_268
          case yw240_268 =>
            exact StepS.skip (fun _ _ _ h => h) (by rfl)
          try simp only [Act.put, List.setIfInBounds_toArray, List.set_cons_zero, List.set_cons_succ]
          refine Ps.step (i := 29) (d := some 34) (u := undef) rfl rfl (by kernel_rfl) (by kernel_rfl) (by kernel_rfl) (by kernel_rfl) ?yw240_269 ?rw240_269
          case yw240_269 =>
            exact StepS.skip (fun _ _ _ h => h) (by rfl)
          try simp only [Act.put, List.setIfInBounds_toArray, List.set_cons_zero, List.set_cons_succ]
          refine Ps.step (i := 30) (d := some 35) (u := undef) rfl rfl (by kernel_rfl) (by kernel_rfl) (by kernel_rfl) (by kernel_rfl) ?yw240_270 ?rw240_270
          case yw240_270 =>
            exact StepS.skip (fun _ _ _ h => h) (by rfl)
          try simp only [Act.put, List.setIfInBounds_toArray, List.set_cons_zero, List.set_cons_succ]
          refine Ps.step (i := 31) (d := some 36) (u := undef) rfl rfl (by kernel_rfl) (by kernel_rfl) (by kernel_rfl) (by kernel_rfl) ?yw240_271 ?rw240_271
          case yw240_271 =>
            exact StepS.skip (fun _ _ _ h => h) (by rfl)
          try simp only [Act.put, List.setIfInBounds_toArray, List.set_cons_zero, List.set_cons_succ]
          refine Ps.step (i := 32) (d := some 37) (u := undef) rfl rfl (by kernel_rfl) (by kernel_rfl) (by kernel_rfl) (by kernel_rfl) ?yw240_272 ?rw240_272
          case yw240_272 =>
            exact StepS.skip (fun _ _ _ h => h) (by rfl)
          try simp only [Act.put, List.setIfInBounds_toArray, List.set_cons_zero, List.set_cons_succ]
          refine Ps.step (i := 33) (d := some 38) (u := undef) rfl rfl (by kernel_rfl) (by kernel_rfl) (by kernel_rfl) (by kernel_rfl) ?yw240_273 ?rw240_273
          case yw240_273 =>
            exact StepS.skip (fun _ _ _ h => h) (by rfl)
          try simp only [Act.put, List.setIfInBounds_toArray, List.set_cons_zero, List.set_cons_succ]
          refine Ps.step (i := 34) (d := some 39) (u := undef) rfl rfl (by kernel_rfl) (by kernel_rfl) (by kernel_rfl) (by kernel_rfl) ?yw240_274 ?rw240_274
          case yw240_274 =>
            exact StepS.skip (fun _ _ _ h => h) (by rfl)
          try simp only [Act.put, List.setIfInBounds_toArray, List.set_cons_zero, List.set_cons_succ]
          refine Ps.step (i := 35) (d := some 40) (u := ?uw240_275) rfl rfl (by kernel_rfl) (by kernel_rfl) (by kernel_rfl) (by kernel_rfl) ?yw240_275 ?rw240_275
          case yw240_275 =>
            refine StepS.pure (fun _ _ _ h => h) (by rfl) (fun w9 => ?_)
            go_simp
            try rfl
          try simp only [Act.put, List.setIfInBounds_toArray, List.set_cons_zero, List.set_cons_succ]
          refine Ps.step (i := 36) (d := some 41) (u := ?uw240_276) rfl rfl (by kernel_rfl) (by kernel_rfl) (by kernel_rfl) (by kernel_rfl) ?yw240_276 ?rw240_276
          case yw240_276 =>
            refine StepS.pure (fun _ _ _ h => h) (by rfl) (fun w9 => ?_)
            go_simp
            try rfl
          try simp only [Act.put, List.setIfInBounds_toArray, List.set_cons_zero, List.set_cons_succ]
          refine Ps.step (i := 37) (d := some 42) (u := undef) rfl rfl (by kernel_rfl) (by kernel_rfl) (by kernel_rfl) (by kernel_rfl) ?yw240_277 ?rw240_277
          case yw240_277 =>
            exact StepS.skip (fun _ _ _ h => h) (by rfl)
          try simp only [Act.put, List.setIfInBounds_toArray, List.set_cons_zero, List.set_cons_succ]
          refine Ps.step (i := 38) (d := some 43) (u := undef) rfl rfl (by kernel_rfl) (by kernel_rfl) (by kernel_rfl) (by kernel_rfl) ?yw240_278 ?rw240_278
          case yw240_278 =>
            exact StepS.skip (fun _ _ _ h => h) (by rfl)
          try simp only [Act.put, List.setIfInBounds_toArray, List.set_cons_zero, List.set_cons_succ]
          refine Ps.step (i := 39) (d := some 44) (u := undef) rfl rfl (by kernel_rfl) (by kernel_rfl) (by kernel_rfl) (by kernel_rfl) ?yw240_279 ?rw240_279
          case yw240_279 =>
            exact StepS.skip (fun _ _ _ h => h) (by rfl)
          try simp only [Act.put, List.setIfInBounds_toArray, List.set_cons_zero, List.set_cons_succ]
          refine Ps.step (i := 40) (d := some 45) (u := ?uw240_280) rfl rfl (by kernel_rfl) (by kernel_rfl) (by kernel_rfl) (by kernel_rfl) ?yw240_280 ?rw240_280
          case yw240_280 =>
            refine StepS.pure (fun _ _ _ h => h) (by rfl) (fun w9 => ?_)
            go_simp
            try rfl
          try simp only [Act.put, List.setIfInBounds_toArray, List.set_cons_zero, List.set_cons_succ]
          refine Ps.done (by kernel_rfl) (fun w240 hS => ?_) _
          have HQ := Lib.hid (show Below w.heap.size w _ from hS)
          clear hS
          obtain ⟨w7, rfl⟩ : ∃ x, x = w240 := ⟨_, rfl⟩
          go_wp2
          go_ret
          exact acked_no HNO.out rfl HQ.out HN.out HO.out
      · have e1 : (pses != ses) = true := by simpa using hs
        have HNO := Lib.hid (show ackedB ⟨ses, base, q, sent, lim, timer, ended⟩ ⟨2, pses, seq, plim, ⟨rows, pfin, pcnt⟩⟩ = false from by unfold ackedB; simp [hs])
        go_enter Try.func82, Try.ntmps82
        go_wp2_with fail
        refine wp_region_ps (S := fun _ _ w' => Below w.heap.size w w') (by kernel_rfl) ?spsw281 ?ppsw281
        case spsw281 =>
          exact (Below.refl _ _).drew
        refine Ps.step (i := 0) (d := some 5) (u := ?uw281_281) rfl rfl (by kernel_rfl) (by kernel_rfl) (by kernel_rfl) (by kernel_rfl) ?yw281_281 ?rw281_281
        case yw281_281 =>
          refine StepS.read [] (by kernel_rfl) (fun _ _ _ h => h) (by rfl) (fun L9 m9 w9 hSh hAt hDn hS => ?_)
          have hT : Below _ _ w9 := hS
          have x0 : w9.cell? ⟨p, 0, none⟩ = some (.int .i64 2) := (HP.out.ca hT).cell 0
          have x1 : w9.cell? ⟨p, 1, none⟩ = some (.int .u32 pses) := (HP.out.ca hT).cell 1
          have x2 : w9.cell? ⟨p, 2, none⟩ = some (.int .u64 seq) := (HP.out.ca hT).cell 2
          have x3 : w9.cell? ⟨p, 3, none⟩ = some (.int .u64 plim) := (HP.out.ca hT).cell 3
          have x4 : w9.cell? ⟨p, 4, none⟩ = some (.slice pA pn pc) := (HP.out.ca hT).cell 4
          have x5 : w9.cell? ⟨p, 5, none⟩ = some (.bool pfin) := (HP.out.ca hT).cell 5
          have x6 : w9.cell? ⟨p, 6, none⟩ = some (.int .u64 pcnt) := (HP.out.ca hT).cell 6
          clear hT hS
          go_simp
          try rfl
        try simp only [Act.put, List.setIfInBounds_toArray, List.set_cons_zero, List.set_cons_succ]
        refine Ps.step (i := 1) (d := some 6) (u := (.int .i64 0)) rfl rfl (by kernel_rfl) (by kernel_rfl) (by kernel_rfl) (by kernel_rfl) ?yw281_282 ?rw281_282
        case yw281_282 =>
          refine StepS.call ?fw281_282 ?aw281_282 [] (by kernel_rfl) (by rfl) (fun w9 => ?hw281_282) (fun L9 m9 w9 hSh hAt hDn hS => ?cw281_282)
          case hw281_282 => go_simp; refine ⟨?_, ?_⟩ <;> rfl
          case cw281_282 =>
            have hT : Below _ _ w9 := hS
            refine (checkp_any _ ⟨2, pses, seq, plim, ⟨rows, pfin, pcnt⟩⟩ pA pn pc w9 (Lay.rd_below HR.out hT) hpn).mono ?_
            rintro e w8 ⟨rfl, q8⟩
            exact ⟨by rw [HCP.out]; rfl, bl_ca hT q8⟩
        try simp only [Act.put, List.setIfInBounds_toArray, List.set_cons_zero, List.set_cons_succ]
        refine Ps.step (i := 2) (d := some 7) (u := ?uw281_283) rfl rfl (by kernel_rfl) (by kernel_rfl) (by kernel_rfl) (by kernel_rfl) ?yw281_283 ?rw281_283
        case yw281_283 =>
          refine StepS.pure (fun _ _ _ h => h) (by rfl) (fun w9 => ?_)
          go_simp
          try rfl
        try simp only [Act.put, List.setIfInBounds_toArray, List.set_cons_zero, List.set_cons_succ]
        refine Ps.step (i := 3) (d := some 8) (u := ?uw281_284) rfl rfl (by kernel_rfl) (by kernel_rfl) (by kernel_rfl) (by kernel_rfl) ?yw281_284 ?rw281_284
        case yw281_284 =>
          refine StepS.pure (fun _ _ _ h => h) (by rfl) (fun w9 => ?_)
          go_simp
          try rfl
        try simp only [Act.put, List.setIfInBounds_toArray, List.set_cons_zero, List.set_cons_succ]
        refine Ps.step (i := 4) (d := some 9) (u := ?uw281_285) rfl rfl (by kernel_rfl) (by kernel_rfl) (by kernel_rfl) (by kernel_rfl) ?yw281_285 ?rw281_285
        case yw281_285 =>
          refine StepS.pure (fun _ _ _ h => h) (by rfl) (fun w9 => ?_)
          go_simp
          try rfl
        try simp only [Act.put, List.setIfInBounds_toArray, List.set_cons_zero, List.set_cons_succ]
        refine Ps.step (i := 5) (d := some 10) (u := ?uw281_286) rfl rfl (by kernel_rfl) (by kernel_rfl) (by kernel_rfl) (by kernel_rfl) ?yw281_286 ?rw281_286
        case yw281_286 =>
          refine StepS.read [] (by kernel_rfl) (fun _ _ _ h => h) (by rfl) (fun L9 m9 w9 hSh hAt hDn hS => ?_)
          have hT : Below _ _ w9 := hS
          have x0 : w9.cell? ⟨p, 0, none⟩ = some (.int .i64 2) := (HP.out.ca hT).cell 0
          clear hT hS
          go_simp
          try rfl
        try simp only [Act.put, List.setIfInBounds_toArray, List.set_cons_zero, List.set_cons_succ]
        refine Ps.step (i := 6) (d := some 11) (u := ?uw281_287) rfl rfl (by kernel_rfl) (by kernel_rfl) (by kernel_rfl) (by kernel_rfl) ?yw281_287 ?rw281_287
        case yw281_287 =>
          refine StepS.pure (fun _ _ _ h => h) (by rfl) (fun w9 => ?_)
          go_simp
          try rfl
        try simp only [Act.put, List.setIfInBounds_toArray, List.set_cons_zero, List.set_cons_succ]
        refine Ps.step (i := 7) (d := some 12) (u := ?uw281_288) rfl rfl (by kernel_rfl) (by kernel_rfl) (by kernel_rfl) (by kernel_rfl) ?yw281_288 ?rw281_288
        case yw281_288 =>
          refine StepS.pure (fun _ _ _ h => h) (by rfl) (fun w9 => ?_)
          go_simp
          try rfl
        try simp only [Act.put, List.setIfInBounds_toArray, List.set_cons_zero, List.set_cons_succ]
        refine Ps.step (i := 8) (d := some 13) (u := ?uw281_289) rfl rfl (by kernel_rfl) (by kernel_rfl) (by kernel_rfl) (by kernel_rfl) ?yw281_289 ?rw281_289
        case yw281_289 =>
          refine StepS.pure (fun _ _ _ h => h) (by rfl) (fun w9 => ?_)
          go_simp
          try rfl
        try simp only [Act.put, List.setIfInBounds_toArray, List.set_cons_zero, List.set_cons_succ]
        refine Ps.step (i := 9) (d := some 14) (u := ?uw281_290) rfl rfl (by kernel_rfl) (by kernel_rfl) (by kernel_rfl) (by kernel_rfl) ?yw281_290 ?rw281_290
        case yw281_290 =>
          refine StepS.pure (fun _ _ _ h => h) (by rfl) (fun w9 => ?_)
          go_simp
          try rfl
        try simp only [Act.put, List.setIfInBounds_toArray, List.set_cons_zero, List.set_cons_succ]
        refine Ps.step (i := 10) (d := some 15) (u := ?uw281_291) rfl rfl (by kernel_rfl) (by kernel_rfl) (by kernel_rfl) (by kernel_rfl) ?yw281_291 ?rw281_291
        case yw281_291 =>
          refine StepS.read [] (by kernel_rfl) (fun _ _ _ h => h) (by rfl) (fun L9 m9 w9 hSh hAt hDn hS => ?_)
          have hT : Below _ _ w9 := hS
          have x1 : w9.cell? ⟨p, 1, none⟩ = some (.int .u32 pses) := (HP.out.ca hT).cell 1
          clear hT hS
          go_simp
          try rfl
        try simp only [Act.put, List.setIfInBounds_toArray, List.set_cons_zero, List.set_cons_succ]
        refine Ps.step (i := 11) (d := some 16) (u := ?uw281_292) rfl rfl (by kernel_rfl) (by kernel_rfl) (by kernel_rfl) (by kernel_rfl) ?yw281_292 ?rw281_292
        case yw281_292 =>
          refine StepS.pure (fun _ _ _ h => h) (by rfl) (fun w9 => ?_)
          go_simp
          try rfl
        try simp only [Act.put, List.setIfInBounds_toArray, List.set_cons_zero, List.set_cons_succ]
        refine Ps.step (i := 12) (d := some 17) (u := ?uw281_293) rfl rfl (by kernel_rfl) (by kernel_rfl) (by kernel_rfl) (by kernel_rfl) ?yw281_293 ?rw281_293
        case yw281_293 =>
          refine StepS.pure (fun _ _ _ h => h) (by rfl) (fun w9 => ?_)
          go_simp
          try rfl
        try simp only [Act.put, List.setIfInBounds_toArray, List.set_cons_zero, List.set_cons_succ]
        refine Ps.step (i := 13) (d := some 18) (u := ?uw281_294) rfl rfl (by kernel_rfl) (by kernel_rfl) (by kernel_rfl) (by kernel_rfl) ?yw281_294 ?rw281_294
        case yw281_294 =>
          refine StepS.pure (fun _ _ _ h => h) (by rfl) (fun w9 => ?_)
          go_simp
          try rfl
        try simp only [Act.put, List.setIfInBounds_toArray, List.set_cons_zero, List.set_cons_succ]
        refine Ps.step (i := 14) (d := some 19) (u := ?uw281_295) rfl rfl (by kernel_rfl) (by kernel_rfl) (by kernel_rfl) (by kernel_rfl) ?yw281_295 ?rw281_295
        case yw281_295 =>
          refine StepS.read [] (by kernel_rfl) (fun _ _ _ h => h) (by rfl) (fun L9 m9 w9 hSh hAt hDn hS => ?_)
          have hT : Below _ _ w9 := hS
          have y0 : w9.cell? ⟨g, 0, none⟩ = some (.int .u32 ses) := (HN.out.ca hT).cell 0
          clear hT hS
          go_simp
          try rfl
        try simp only [Act.put, List.setIfInBounds_toArray, List.set_cons_zero, List.set_cons_succ]
        refine Ps.step (i := 15) (d := some 20) (u := ?uw281_296) rfl rfl (by kernel_rfl) (by kernel_rfl) (by kernel_rfl) (by kernel_rfl) ?yw281_296 ?rw281_296
        case yw281_296 =>
          refine StepS.pure (fun _ _ _ h => h) (by rfl) (fun w9 => ?_)
          go_simp
          try rfl
        try simp only [Act.put, List.setIfInBounds_toArray, List.set_cons_zero, List.set_cons_succ]
        refine Ps.step (i := 16) (d := some 21) (u := ?uw281_297) rfl rfl (by kernel_rfl) (by kernel_rfl) (by kernel_rfl) (by kernel_rfl) ?yw281_297 ?rw281_297
        case yw281_297 =>
          refine StepS.pure (fun _ _ _ h => h) (by rfl) (fun w9 => ?_)
          go_simp
          try rfl
        try simp only [Act.put, List.setIfInBounds_toArray, List.set_cons_zero, List.set_cons_succ]
        refine Ps.step (i := 17) (d := some 22) (u := ?uw281_298) rfl rfl (by kernel_rfl) (by kernel_rfl) (by kernel_rfl) (by kernel_rfl) ?yw281_298 ?rw281_298
        case yw281_298 =>
          refine StepS.pure (fun _ _ _ h => h) (by rfl) (fun w9 => ?_)
          go_simp
          try rfl
        try simp only [Act.put, List.setIfInBounds_toArray, List.set_cons_zero, List.set_cons_succ]
        refine Ps.step (i := 18) (d := some 23) (u := undef) rfl rfl (by kernel_rfl) (by kernel_rfl) (by kernel_rfl) (by kernel_rfl) ?yw281_299 ?rw281_299
        case yw281_299 =>
          exact StepS.skip (fun _ _ _ h => h) (by rfl)
        try simp only [Act.put, List.setIfInBounds_toArray, List.set_cons_zero, List.set_cons_succ]
        refine Ps.step (i := 19) (d := some 24) (u := undef) rfl rfl (by kernel_rfl) (by kernel_rfl) (by kernel_rfl) (by kernel_rfl) ?yw281_300 ?rw281_300
        case yw281_300 =>
          exact StepS.skip (fun _ _ _ h => h) (by rfl)
        try simp only [Act.put, List.setIfInBounds_toArray, List.set_cons_zero, List.set_cons_succ]
        refine Ps.step (i := 20) (d := some 25) (u := undef) rfl rfl (by kernel_rfl) (by kernel_rfl) (by kernel_rfl) (by kernel_rfl) ?yw281_301 ?rw281_301
        case yw281_301 =>
          exact StepS.skip (fun _ _ _ h => h) (by rfl)
        try simp only [Act.put, List.setIfInBounds_toArray, List.set_cons_zero, List.set_cons_succ]
        refine Ps.step (i := 21) (d := some 26) (u := undef) rfl rfl (by kernel_rfl) (by kernel_rfl) (by kernel_rfl) (by kernel_rfl) ?yw281_302 ?rw281_302
        case yw281_302 =>
          exact StepS.skip (fun _ _ _ h => h) (by rfl)
        try simp only [Act.put, List.setIfInBounds_toArray, List.set_cons_zero, List.set_cons_succ]
        refine Ps.step (i := 22) (d := some 27) (u := undef) rfl rfl (by kernel_rfl) (by kernel_rfl) (by kernel_rfl) (by kernel_rfl) ?yw281_303 ?rw281_303
        case yw281_303 =>
          exact StepS.skip (fun _ _ _ h => h) (by rfl)
        try simp only [Act.put, List.setIfInBounds_toArray, List.set_cons_zero, List.set_cons_succ]
        refine Ps.step (i := 23) (d := some 28) (u := undef) rfl rfl (by kernel_rfl) (by kernel_rfl) (by kernel_rfl) (by kernel_rfl) ?yw281_304 ?rw281_304
        case yw281_304 =>
          exact StepS.skip (fun _ _ _ h => h) (by rfl)
        try simp only [Act.put, List.setIfInBounds_toArray, List.set_cons_zero, List.set_cons_succ]
        refine Ps.step (i := 24) (d := some 29) (u := undef) rfl rfl (by kernel_rfl) (by kernel_rfl) (by kernel_rfl) (by kernel_rfl) ?yw281_305 ?rw281_305
        case yw281_305 =>
          exact StepS.skip (fun _ _ _ h => h) (by rfl)
        try simp only [Act.put, List.setIfInBounds_toArray, List.set_cons_zero, List.set_cons_succ]
        refine Ps.step (i := 25) (d := some 30) (u := ?uw281_306) rfl rfl (by kernel_rfl) (by kernel_rfl) (by kernel_rfl) (by kernel_rfl) ?yw281_306 ?rw281_306
        case yw281_306 =>
          refine StepS.pure (fun _ _ _ h => h) (by rfl) (fun w9 => ?_)
          go_simp
          try rfl
        try simp only [Act.put, List.setIfInBounds_toArray, List.set_cons_zero, List.set_cons_succ]
        refine Ps.step (i := 26) (d := some 31) (u := ?uw281_307) rfl rfl (by kernel_rfl) (by kernel_rfl) (by kernel_rfl) (by kernel_rfl) ?yw281_307 ?rw281_307
        case yw281_307 =>
          refine StepS.pure (fun _ _ _ h => h) (by rfl) (fun w9 => ?_)
          go_simp
          try rfl
        try simp only [Act.put, List.setIfInBounds_toArray, List.set_cons_zero, List.set_cons_succ]
        refine Ps.step (i := 27) (d := some 32) (u := undef) rfl rfl (by kernel_rfl) (by kernel_rfl) (by kernel_rfl) (by kernel_rfl) ?yw281_308 ?rw281_308
        case yw281_308 =>
          exact StepS.skip (fun _ _ _ h => h) (by rfl)
        try simp only [Act.put, List.setIfInBounds_toArray, List.set_cons_zero, List.set_cons_succ]
        refine Ps.step (i := 28) (d := some 33) (u := undef) rfl rfl (by kernel_rfl) (by kernel_rfl) (by kernel_rfl) (by kernel_rfl) ?yw281_309 ?rw281_309
        case yw281_309 =>
          exact StepS.skip (fun _ _ _ h => h) (by rfl)
        try simp only [Act.put, List.setIfInBounds_toArray, List.set_cons_zero, List.set_cons_succ]
        refine Ps.step (i := 29) (d := some 34) (u := undef) rfl rfl (by kernel_rfl) (by kernel_rfl) (by kernel_rfl) (by kernel_rfl) ?yw281_310 ?rw281_310
        case yw281_310 =>
          exact StepS.skip (fun _ _ _ h => h) (by rfl)
        try simp only [Act.put, List.setIfInBounds_toArray, List.set_cons_zero, List.set_cons_succ]
        refine Ps.step (i := 30) (d := some 35) (u := undef) rfl rfl (by kernel_rfl) (by kernel_rfl) (by kernel_rfl) (by kernel_rfl) ?yw281_311 ?rw281_311
        case yw281_311 =>
          exact StepS.skip (fun _ _ _ h => h) (by rfl)
        try simp only [Act.put, List.setIfInBounds_toArray, List.set_cons_zero, List.set_cons_succ]
        refine Ps.step (i := 31) (d := some 36) (u := undef) rfl rfl (by kernel_rfl) (by kernel_rfl) (by kernel_rfl) (by kernel_rfl) ?yw281_312 ?rw281_312
        case yw281_312 =>
          exact StepS.skip (fun _ _ _ h => h) (by rfl)
        try simp only [Act.put, List.setIfInBounds_toArray, List.set_cons_zero, List.set_cons_succ]
        refine Ps.step (i := 32) (d := some 37) (u := undef) rfl rfl (by kernel_rfl) (by kernel_rfl) (by kernel_rfl) (by kernel_rfl) ?yw281_313 ?rw281_313
        case yw281_313 =>
          exact StepS.skip (fun _ _ _ h => h) (by rfl)
        try simp only [Act.put, List.setIfInBounds_toArray, List.set_cons_zero, List.set_cons_succ]
        refine Ps.step (i := 33) (d := some 38) (u := undef) rfl rfl (by kernel_rfl) (by kernel_rfl) (by kernel_rfl) (by kernel_rfl) ?yw281_314 ?rw281_314
        case yw281_314 =>
          exact StepS.skip (fun _ _ _ h => h) (by rfl)
        try simp only [Act.put, List.setIfInBounds_toArray, List.set_cons_zero, List.set_cons_succ]
        refine Ps.step (i := 34) (d := some 39) (u := undef) rfl rfl (by kernel_rfl) (by kernel_rfl) (by kernel_rfl) (by kernel_rfl) ?yw281_315 ?rw281_315
        case yw281_315 =>
          exact StepS.skip (fun _ _ _ h => h) (by rfl)
        try simp only [Act.put, List.setIfInBounds_toArray, List.set_cons_zero, List.set_cons_succ]
        refine Ps.step (i := 35) (d := some 40) (u := ?uw281_316) rfl rfl (by kernel_rfl) (by kernel_rfl) (by kernel_rfl) (by kernel_rfl) ?yw281_316 ?rw281_316
        case yw281_316 =>
          refine StepS.pure (fun _ _ _ h => h) (by rfl) (fun w9 => ?_)
          go_simp
          try rfl
        try simp only [Act.put, List.setIfInBounds_toArray, List.set_cons_zero, List.set_cons_succ]
        refine Ps.step (i := 36) (d := some 41) (u := ?uw281_317) rfl rfl (by kernel_rfl) (by kernel_rfl) (by kernel_rfl) (by kernel_rfl) ?yw281_317 ?rw281_317
        case yw281_317 =>
          refine StepS.pure (fun _ _ _ h => h) (by rfl) (fun w9 => ?_)
          go_simp
          try rfl
        try simp only [Act.put, List.setIfInBounds_toArray, List.set_cons_zero, List.set_cons_succ]
        refine Ps.step (i := 37) (d := some 42) (u := undef) rfl rfl (by kernel_rfl) (by kernel_rfl) (by kernel_rfl) (by kernel_rfl) ?yw281_318 ?rw281_318
        case yw281_318 =>
          exact StepS.skip (fun _ _ _ h => h) (by rfl)
        try simp only [Act.put, List.setIfInBounds_toArray, List.set_cons_zero, List.set_cons_succ]
        refine Ps.step (i := 38) (d := some 43) (u := undef) rfl rfl (by kernel_rfl) (by kernel_rfl) (by kernel_rfl) (by kernel_rfl) ?yw281_319 ?rw281_319
        case yw281_319 =>
          exact StepS.skip (fun _ _ _ h => h) (by rfl)
        try simp only [Act.put, List.setIfInBounds_toArray, List.set_cons_zero, List.set_cons_succ]
        refine Ps.step (i := 39) (d := some 44) (u := undef) rfl rfl (by kernel_rfl) (by kernel_rfl) (by kernel_rfl) (by kernel_rfl) ?yw281_320 ?rw281_320
        case yw281_320 =>
          exact StepS.skip (fun _ _ _ h => h) (by rfl)
        try simp only [Act.put, List.setIfInBounds_toArray, List.set_cons_zero, List.set_cons_succ]
        refine Ps.step (i := 40) (d := some 45) (u := ?uw281_321) rfl rfl (by kernel_rfl) (by kernel_rfl) (by kernel_rfl) (by kernel_rfl) ?yw281_321 ?rw281_321
        case yw281_321 =>
          refine StepS.pure (fun _ _ _ h => h) (by rfl) (fun w9 => ?_)
          go_simp
          try rfl
        try simp only [Act.put, List.setIfInBounds_toArray, List.set_cons_zero, List.set_cons_succ]
        refine Ps.done (by kernel_rfl) (fun w281 hS => ?_) _
        have HQ := Lib.hid (show Below w.heap.size w _ from hS)
        clear hS
        obtain ⟨w7, rfl⟩ : ∃ x, x = w281 := ⟨_, rfl⟩
        go_wp2
        go_ret
        exact acked_no HNO.out rfl HQ.out HN.out HO.out
    · have e1 : (kind != 2) = true := by simpa using k2
      have HCP := Lib.hid hcp
      have HNO := Lib.hid (show ackedB ⟨ses, base, q, sent, lim, timer, ended⟩ ⟨kind, pses, seq, plim, ⟨rows, pfin, pcnt⟩⟩ = false from by unfold ackedB; simp [k2])
      go_enter Try.func82, Try.ntmps82
      go_wp2_with fail
      refine wp_region_ps (S := fun _ _ w' => Below w.heap.size w w') (by kernel_rfl) ?spsw322 ?ppsw322
      case spsw322 =>
        exact (Below.refl _ _).drew
      refine Ps.step (i := 0) (d := some 5) (u := ?uw322_322) rfl rfl (by kernel_rfl) (by kernel_rfl) (by kernel_rfl) (by kernel_rfl) ?yw322_322 ?rw322_322
      case yw322_322 =>
        refine StepS.read [] (by kernel_rfl) (fun _ _ _ h => h) (by rfl) (fun L9 m9 w9 hSh hAt hDn hS => ?_)
        have hT : Below _ _ w9 := hS
        have x0 : w9.cell? ⟨p, 0, none⟩ = some (.int .i64 kind) := (HP.out.ca hT).cell 0
        have x1 : w9.cell? ⟨p, 1, none⟩ = some (.int .u32 pses) := (HP.out.ca hT).cell 1
        have x2 : w9.cell? ⟨p, 2, none⟩ = some (.int .u64 seq) := (HP.out.ca hT).cell 2
        have x3 : w9.cell? ⟨p, 3, none⟩ = some (.int .u64 plim) := (HP.out.ca hT).cell 3
        have x4 : w9.cell? ⟨p, 4, none⟩ = some (.slice pA pn pc) := (HP.out.ca hT).cell 4
        have x5 : w9.cell? ⟨p, 5, none⟩ = some (.bool pfin) := (HP.out.ca hT).cell 5
        have x6 : w9.cell? ⟨p, 6, none⟩ = some (.int .u64 pcnt) := (HP.out.ca hT).cell 6
        clear hT hS
        go_simp
        try rfl
      try simp only [Act.put, List.setIfInBounds_toArray, List.set_cons_zero, List.set_cons_succ]
      refine Ps.step (i := 1) (d := some 6) (u := (.int .i64 0)) rfl rfl (by kernel_rfl) (by kernel_rfl) (by kernel_rfl) (by kernel_rfl) ?yw322_323 ?rw322_323
      case yw322_323 =>
        refine StepS.call ?fw322_323 ?aw322_323 [] (by kernel_rfl) (by rfl) (fun w9 => ?hw322_323) (fun L9 m9 w9 hSh hAt hDn hS => ?cw322_323)
        case hw322_323 => go_simp; refine ⟨?_, ?_⟩ <;> rfl
        case cw322_323 =>
          have hT : Below _ _ w9 := hS
          refine (checkp_any _ ⟨kind, pses, seq, plim, ⟨rows, pfin, pcnt⟩⟩ pA pn pc w9 (Lay.rd_below HR.out hT) hpn).mono ?_
          rintro e w8 ⟨rfl, q8⟩
          exact ⟨by rw [HCP.out]; rfl, bl_ca hT q8⟩
      try simp only [Act.put, List.setIfInBounds_toArray, List.set_cons_zero, List.set_cons_succ]
      refine Ps.step (i := 2) (d := some 7) (u := ?uw322_324) rfl rfl (by kernel_rfl) (by kernel_rfl) (by kernel_rfl) (by kernel_rfl) ?yw322_324 ?rw322_324
      case yw322_324 =>
        refine StepS.pure (fun _ _ _ h => h) (by rfl) (fun w9 => ?_)
        go_simp
        try rfl
      try simp only [Act.put, List.setIfInBounds_toArray, List.set_cons_zero, List.set_cons_succ]
      refine Ps.step (i := 3) (d := some 8) (u := ?uw322_325) rfl rfl (by kernel_rfl) (by kernel_rfl) (by kernel_rfl) (by kernel_rfl) ?yw322_325 ?rw322_325
      case yw322_325 =>
        refine StepS.pure (fun _ _ _ h => h) (by rfl) (fun w9 => ?_)
        go_simp
        try rfl
      try simp only [Act.put, List.setIfInBounds_toArray, List.set_cons_zero, List.set_cons_succ]
      refine Ps.step (i := 4) (d := some 9) (u := ?uw322_326) rfl rfl (by kernel_rfl) (by kernel_rfl) (by kernel_rfl) (by kernel_rfl) ?yw322_326 ?rw322_326
      case yw322_326 =>
        refine StepS.pure (fun _ _ _ h => h) (by rfl) (fun w9 => ?_)
        go_simp
        try rfl
      try simp only [Act.put, List.setIfInBounds_toArray, List.set_cons_zero, List.set_cons_succ]
      refine Ps.step (i := 5) (d := some 10) (u := ?uw322_327) rfl rfl (by kernel_rfl) (by kernel_rfl) (by kernel_rfl) (by kernel_rfl) ?yw322_327 ?rw322_327
      case yw322_327 =>
        refine StepS.read [] (by kernel_rfl) (fun _ _ _ h => h) (by rfl) (fun L9 m9 w9 hSh hAt hDn hS => ?_)
        have hT : Below _ _ w9 := hS
        have x0 : w9.cell? ⟨p, 0, none⟩ = some (.int .i64 kind) := (HP.out.ca hT).cell 0
        clear hT hS
        go_simp
        try rfl
      try simp only [Act.put, List.setIfInBounds_toArray, List.set_cons_zero, List.set_cons_succ]
      refine Ps.step (i := 6) (d := some 11) (u := ?uw322_328) rfl rfl (by kernel_rfl) (by kernel_rfl) (by kernel_rfl) (by kernel_rfl) ?yw322_328 ?rw322_328
      case yw322_328 =>
        refine StepS.pure (fun _ _ _ h => h) (by rfl) (fun w9 => ?_)
        go_simp
        try rfl
      try simp only [Act.put, List.setIfInBounds_toArray, List.set_cons_zero, List.set_cons_succ]
      refine Ps.step (i := 7) (d := some 12) (u := ?uw322_329) rfl rfl (by kernel_rfl) (by kernel_rfl) (by kernel_rfl) (by kernel_rfl) ?yw322_329 ?rw322_329
      case yw322_329 =>
        refine StepS.pure (fun _ _ _ h => h) (by rfl) (fun w9 => ?_)
        go_simp
        try rfl
      try simp only [Act.put, List.setIfInBounds_toArray, List.set_cons_zero, List.set_cons_succ]
      refine Ps.step (i := 8) (d := some 13) (u := ?uw322_330) rfl rfl (by kernel_rfl) (by kernel_rfl) (by kernel_rfl) (by kernel_rfl) ?yw322_330 ?rw322_330
      case yw322_330 =>
        refine StepS.pure (fun _ _ _ h => h) (by rfl) (fun w9 => ?_)
        go_simp
        try rfl
      try simp only [Act.put, List.setIfInBounds_toArray, List.set_cons_zero, List.set_cons_succ]
      refine Ps.step (i := 9) (d := some 14) (u := undef) rfl rfl (by kernel_rfl) (by kernel_rfl) (by kernel_rfl) (by kernel_rfl) ?yw322_331 ?rw322_331
      case yw322_331 =>
        exact StepS.skip (fun _ _ _ h => h) (by rfl)
      try simp only [Act.put, List.setIfInBounds_toArray, List.set_cons_zero, List.set_cons_succ]
      refine Ps.step (i := 10) (d := some 15) (u := undef) rfl rfl (by kernel_rfl) (by kernel_rfl) (by kernel_rfl) (by kernel_rfl) ?yw322_332 ?rw322_332
      case yw322_332 =>
        exact StepS.skip (fun _ _ _ h => h) (by rfl)
      try simp only [Act.put, List.setIfInBounds_toArray, List.set_cons_zero, List.set_cons_succ]
      refine Ps.step (i := 11) (d := some 16) (u := undef) rfl rfl (by kernel_rfl) (by kernel_rfl) (by kernel_rfl) (by kernel_rfl) ?yw322_333 ?rw322_333
      case yw322_333 =>
        exact StepS.skip (fun _ _ _ h => h) (by rfl)
      try simp only [Act.put, List.setIfInBounds_toArray, List.set_cons_zero, List.set_cons_succ]
      refine Ps.step (i := 12) (d := some 17) (u := undef) rfl rfl (by kernel_rfl) (by kernel_rfl) (by kernel_rfl) (by kernel_rfl) ?yw322_334 ?rw322_334
      case yw322_334 =>
        exact StepS.skip (fun _ _ _ h => h) (by rfl)
      try simp only [Act.put, List.setIfInBounds_toArray, List.set_cons_zero, List.set_cons_succ]
      refine Ps.step (i := 13) (d := some 18) (u := undef) rfl rfl (by kernel_rfl) (by kernel_rfl) (by kernel_rfl) (by kernel_rfl) ?yw322_335 ?rw322_335
      case yw322_335 =>
        exact StepS.skip (fun _ _ _ h => h) (by rfl)
      try simp only [Act.put, List.setIfInBounds_toArray, List.set_cons_zero, List.set_cons_succ]
      refine Ps.step (i := 14) (d := some 19) (u := undef) rfl rfl (by kernel_rfl) (by kernel_rfl) (by kernel_rfl) (by kernel_rfl) ?yw322_336 ?rw322_336
      case yw322_336 =>
        exact StepS.skip (fun _ _ _ h => h) (by rfl)
      try simp only [Act.put, List.setIfInBounds_toArray, List.set_cons_zero, List.set_cons_succ]
      refine Ps.step (i := 15) (d := some 20) (u := undef) rfl rfl (by kernel_rfl) (by kernel_rfl) (by kernel_rfl) (by kernel_rfl) ?yw322_337 ?rw322_337
      case yw322_337 =>
        exact StepS.skip (fun _ _ _ h => h) (by rfl)
      try simp only [Act.put, List.setIfInBounds_toArray, List.set_cons_zero, List.set_cons_succ]
      refine Ps.step (i := 16) (d := some 21) (u := ?uw322_338) rfl rfl (by kernel_rfl) (by kernel_rfl) (by kernel_rfl) (by kernel_rfl) ?yw322_338 ?rw322_338
      case yw322_338 =>
        refine StepS.pure (fun _ _ _ h => h) (by rfl) (fun w9 => ?_)
        go_simp
        try rfl
      try simp only [Act.put, List.setIfInBounds_toArray, List.set_cons_zero, List.set_cons_succ]
      refine Ps.step (i := 17) (d := some 22) (u := ?uw322_339) rfl rfl (by kernel_rfl) (by kernel_rfl) (by kernel_rfl) (by kernel_rfl) ?yw322_339 ?rw322_339
      case yw322_339 =>
        refine StepS.pure (fun _ _ _ h => h) (by rfl) (fun w9 => ?_)
        go_simp
        try rfl
      try simp only [Act.put, List.setIfInBounds_toArray, List.set_cons_zero, List.set_cons_succ]
      refine Ps.step (i := 18) (d := some 23) (u := undef) rfl rfl (by kernel_rfl) (by kernel_rfl) (by kernel_rfl) (by kernel_rfl) ?yw322_340 ?rw322_340
      case yw322_340 =>
        exact StepS.skip (fun _ _ _ h => h) (by rfl)
      try simp only [Act.put, List.setIfInBounds_toArray, List.set_cons_zero, List.set_cons_succ]
      refine Ps.step (i := 19) (d := some 24) (u := undef) rfl rfl (by kernel_rfl) (by kernel_rfl) (by kernel_rfl) (by kernel_rfl) ?yw322_341 ?rw322_341
      case yw322_341 =>
        exact StepS.skip (fun _ _ _ h => h) (by rfl)
      try simp only [Act.put, List.setIfInBounds_toArray, List.set_cons_zero, List.set_cons_succ]
      refine Ps.step (i := 20) (d := some 25) (u := undef) rfl rfl (by kernel_rfl) (by kernel_rfl) (by kernel_rfl) (by kernel_rfl) ?yw322_342 ?rw322_342
      case yw322_342 =>
        exact StepS.skip (fun _ _ _ h => h) (by rfl)
      try simp only [Act.put, List.setIfInBounds_toArray, List.set_cons_zero, List.set_cons_succ]
      refine Ps.step (i := 21) (d := some 26) (u := undef) rfl rfl (by kernel_rfl) (by kernel_rfl) (by kernel_rfl) (by kernel_rfl) ?yw322_343 ?rw322_343
      case yw322_343 =>
        exact StepS.skip (fun _ _ _ h => h) (by rfl)
      try simp only [Act.put, List.setIfInBounds_toArray, List.set_cons_zero, List.set_cons_succ]
      refine Ps.step (i := 22) (d := some 27) (u := undef) rfl rfl (by kernel_rfl) (by kernel_rfl) (by kernel_rfl) (by kernel_rfl) ?yw322_344 ?rw322_344
      case yw322_344 =>
        exact StepS.skip (fun _ _ _ h => h) (by rfl)
      try simp only [Act.put, List.setIfInBounds_toArray, List.set_cons_zero, List.set_cons_succ]
      refine Ps.step (i := 23) (d := some 28) (u := undef) rfl rfl (by kernel_rfl) (by kernel_rfl) (by kernel_rfl) (by kernel_rfl) ?yw322_345 ?rw322_345
      case yw322_345 =>
        exact StepS.skip (fun _ _ _ h => h) (by rfl)
      try simp only [Act.put, List.setIfInBounds_toArray, List.set_cons_zero, List.set_cons_succ]
      refine Ps.step (i := 24) (d := some 29) (u := undef) rfl rfl (by kernel_rfl) (by kernel_rfl) (by kernel_rfl) (by kernel_rfl) ?yw322_346 ?rw322_346
      case yw322_346 =>
        exact StepS.skip (fun _ _ _ h => h) (by rfl)
      try simp only [Act.put, List.setIfInBounds_toArray, List.set_cons_zero, List.set_cons_succ]
      refine Ps.step (i := 25) (d := some 30) (u := ?uw322_347) rfl rfl (by kernel_rfl) (by kernel_rfl) (by kernel_rfl) (by kernel_rfl) ?yw322_347 ?rw322_347
      case yw322_347 =>
        refine StepS.pure (fun _ _ _ h => h) (by rfl) (fun w9 => ?_)
        go_simp
        try rfl
      try simp only [Act.put, List.setIfInBounds_toArray, List.set_cons_zero, List.set_cons_succ]
      refine Ps.step (i := 26) (d := some 31) (u := ?uw322_348) rfl rfl (by kernel_rfl) (by kernel_rfl) (by kernel_rfl) (by kernel_rfl) ?yw322_348 ?rw322_348
      case yw322_348 =>
        refine StepS.pure (fun _ _ _ h => h) (by rfl) (fun w9 => ?_)
        go_simp
        try rfl
      try simp only [Act.put, List.setIfInBounds_toArray, List.set_cons_zero, List.set_cons_succ]
      refine Ps.step (i := 27) (d := some 32) (u := undef) rfl rfl (by kernel_rfl) (by kernel_rfl) (by kernel_rfl) (by kernel_rfl) ?yw322_349 ?rw322_349
      case yw322_349 =>
        exact StepS.skip (fun _ _ _ h => h) (by rfl)
      try simp only [Act.put, List.setIfInBounds_toArray, List.set_cons_zero, List.set_cons_succ]
      refine Ps.step (i := 28) (d := some 33) (u := undef) rfl rfl (by kernel_rfl) (by kernel_rfl) (by kernel_rfl) (by kernel_rfl) ?yw322_350 ?rw322_350
      case yw322_350 =>
        exact StepS.skip (fun _ _ _ h => h) (by rfl)
      try simp only [Act.put, List.setIfInBounds_toArray, List.set_cons_zero, List.set_cons_succ]
      refine Ps.step (i := 29) (d := some 34) (u := undef) rfl rfl (by kernel_rfl) (by kernel_rfl) (by kernel_rfl) (by kernel_rfl) ?yw322_351 ?rw322_351
      case yw322_351 =>
        exact StepS.skip (fun _ _ _ h => h) (by rfl)
      try simp only [Act.put, List.setIfInBounds_toArray, List.set_cons_zero, List.set_cons_succ]
      refine Ps.step (i := 30) (d := some 35) (u := undef) rfl rfl (by kernel_rfl) (by kernel_rfl) (by kernel_rfl) (by kernel_rfl) ?yw322_352 ?rw322_352
      case yw322_352 =>
        exact StepS.skip (fun _ _ _ h => h) (by rfl)
      try simp only [Act.put, List.setIfInBounds_toArray, List.set_cons_zero, List.set_cons_succ]
      refine Ps.step (i := 31) (d := some 36) (u := undef) rfl rfl (by kernel_rfl) (by kernel_rfl) (by kernel_rfl) (by kernel_rfl) ?yw322_353 ?rw322_353
      case yw322_353 =>
        exact StepS.skip (fun _ _ _ h => h) (by rfl)
      try simp only [Act.put, List.setIfInBounds_toArray, List.set_cons_zero, List.set_cons_succ]
      refine Ps.step (i := 32) (d := some 37) (u := undef) rfl rfl (by kernel_rfl) (by kernel_rfl) (by kernel_rfl) (by kernel_rfl) ?yw322_354 ?rw322_354
      case yw322_354 =>
        exact StepS.skip (fun _ _ _ h => h) (by rfl)
      try simp only [Act.put, List.setIfInBounds_toArray, List.set_cons_zero, List.set_cons_succ]
      refine Ps.step (i := 33) (d := some 38) (u := undef) rfl rfl (by kernel_rfl) (by kernel_rfl) (by kernel_rfl) (by kernel_rfl) ?yw322_355 ?rw322_355
      case yw322_355 =>
        exact StepS.skip (fun _ _ _ h => h) (by rfl)
      try simp only [Act.put, List.setIfInBounds_toArray, List.set_cons_zero, List.set_cons_succ]
      refine Ps.step (i := 34) (d := some 39) (u := undef) rfl rfl (by kernel_rfl) (by kernel_rfl) (by kernel_rfl) (by kernel_rfl) ?yw322_356 ?rw322_356
      case yw322_356 =>
        exact StepS.skip (fun _ _ _ h => h) (by rfl)
      try simp only [Act.put, List.setIfInBounds_toArray, List.set_cons_zero, List.set_cons_succ]
      refine Ps.step (i := 35) (d := some 40) (u := ?uw322_357) rfl rfl (by kernel_rfl) (by kernel_rfl) (by kernel_rfl) (by kernel_rfl) ?yw322_357 ?rw322_357
      case yw322_357 =>
        refine StepS.pure (fun _ _ _ h => h) (by rfl) (fun w9 => ?_)
        go_simp
        try rfl
      try simp only [Act.put, List.setIfInBounds_toArray, List.set_cons_zero, List.set_cons_succ]
      refine Ps.step (i := 36) (d := some 41) (u := ?uw322_358) rfl rfl (by kernel_rfl) (by kernel_rfl) (by kernel_rfl) (by kernel_rfl) ?yw322_358 ?rw322_358
      case yw322_358 =>
        refine StepS.pure (fun _ _ _ h => h) (by rfl) (fun w9 => ?_)
        go_simp
        try rfl
      try simp only [Act.put, List.setIfInBounds_toArray, List.set_cons_zero, List.set_cons_succ]
      refine Ps.step (i := 37) (d := some 42) (u := undef) rfl rfl (by kernel_rfl) (by kernel_rfl) (by kernel_rfl) (by kernel_rfl) ?yw322_359 ?rw322_359
      case yw322_359 =>
        exact StepS.skip (fun _ _ _ h => h) (by rfl)
      try simp only [Act.put, List.setIfInBounds_toArray, List.set_cons_zero, List.set_cons_succ]
      refine Ps.step (i := 38) (d := some 43) (u := undef) rfl rfl (by kernel_rfl) (by kernel_rfl) (by kernel_rfl) (by kernel_rfl) ?yw322_360 ?rw322_360
      case yw322_360 =>
        exact StepS.skip (fun _ _ _ h => h) (by rfl)
      try simp only [Act.put, List.setIfInBounds_toArray, List.set_cons_zero, List.set_cons_succ]
      refine Ps.step (i := 39) (d := some 44) (u := undef) rfl rfl (by kernel_rfl) (by kernel_rfl) (by kernel_rfl) (by kernel_rfl) ?yw322_361 ?rw322_361
      case yw322_361 =>
        exact StepS.skip (fun _ _ _ h => h) (by rfl)
      try simp only [Act.put, List.setIfInBounds_toArray, List.set_cons_zero, List.set_cons_succ]
      refine Ps.step (i := 40) (d := some 45) (u := ?uw322_362) rfl rfl (by kernel_rfl) (by kernel_rfl) (by kernel_rfl) (by kernel_rfl) ?yw322_362 ?rw322_362
      case yw322_362 =>
        refine StepS.pure (fun _ _ _ h => h) (by rfl) (fun w9 => ?_)
        go_simp
        try rfl
      try simp only [Act.put, List.setIfInBounds_toArray, List.set_cons_zero, List.set_cons_succ]
      refine Ps.done (by kernel_rfl) (fun w322 hS => ?_) _
      have HQ := Lib.hid (show Below w.heap.size w _ from hS)
      clear hS
      obtain ⟨w7, rfl⟩ : ∃ x, x = w322 := ⟨_, rfl⟩
      go_wp2
      go_ret
      exact acked_no HNO.out rfl HQ.out HN.out HO.out
end Go.Proofs.Ytojghgbaiiajfaa
