/- link.Acked$1. Conditions: the queue reads as these batches, the packet as this. -/
import Derived.Test.YtojghgbaiiajfaaPkE9
namespace Go.Proofs.Ytojghgbaiiajfaa
open Go.RowKit
def ackedB (s : SC) (p : PK) : Bool := checkP p && (decide (p.kind = 2) && (decide (p.ses = s.ses) && (decide (s.base ≤ p.seq) && (decide (p.seq ≤ s.sent + 1) && decide (p.seq ≤ 1099511627776)))))
def ackedR (s : SC) (p : PK) : SC := if ackedB s p then ⟨s.ses, p.seq, s.q.drop (p.seq - s.base).toNat, s.sent, if s.lim ≤ p.lim then p.lim else s.lim, if 0 < p.seq - s.base ∨ s.sent < p.seq then 0 else s.timer, s.ended⟩ else s
def AckedC (g B : Nat) (Fr : Nat → Prop) (A : Option Addr) (n c : Nat) (s2 : SC) (w : World) (e : Ending) (w' : World) : Prop :=
 e = .returned (.int .i64 0) ∧ Chg (fun k => k = g ∨ (Value.slice A n c).ownBlock = some k ∨ noX k) w w' ∧ noY w' ∧
  ((0 : Int) = 0 → ∃ A2 n2 c2, Blk w' g 29 (s2.cells A2 n2 c2) ∧ LB3.own 45 w' B (fun k => k < w'.heap.size ∧ (Fr k ∨ B ≤ k)) A2 n2 c2 s2.q)
theorem acked_no {g B : Nat} {Fr : Nat → Prop} {A : Option Addr} {n c : Nat} {s : SC} {p : PK} {w w' : World} {e : Ending} (h : ackedB s p = false) (h1 : e = .returned (.int .i64 0)) (h2 : Below w.heap.size w w') (hN : Blk w g 29 (s.cells A n c)) (ho : LB3.own 45 w B Fr A n c s.q) : AckedC g B Fr A n c (ackedR s p) w e w' := by
 unfold AckedC ackedR
 rw [h]
 exact ⟨h1, Chg.of_below h2, trivial, fun _ => ⟨A, n, c, hN.ca h2, Lay.own_weak (fun k hk hl => ⟨hl, .inl hk⟩) (Lay.own_below ho h2)⟩⟩
theorem acked_yes {g B : Nat} {Fr : Nat → Prop} {A : Option Addr} {n c : Nat} {ses base sent lim timer mx tm : Int} {q : List BC} {ended : Bool} {seq plim : Int} {b : BC} {A2 : Option Addr} {kk c2 : Nat} {w w8 w' : World} {e : Ending}
 (h : ackedB ⟨ses, base, q, sent, lim, timer, ended⟩ ⟨2, ses, seq, plim, b⟩ = true) (h1 : e = .returned (.int .i64 0)) (h2 : Below w.heap.size w w8) (h3 : Chg (fun k => k = g) w8 w')
 (hN : Blk w' g 29 #[.int .u32 ses, .int .u64 seq, .slice A2 (n - kk) c2, .int .u64 sent, .int .u64 mx, .int .i64 tm, .bool ended]) (ho : LB3.own 45 w' B (fun k => Fr k ∨ B ≤ k) A2 (n - kk) c2 (q.drop kk))
 (hk : seq - base = (kk : Int)) (hm : mx = if lim ≤ plim then plim else lim) (ht : tm = if 0 < seq - base ∨ sent < seq then 0 else timer) : AckedC g B Fr A n c (ackedR ⟨ses, base, q, sent, lim, timer, ended⟩ ⟨2, ses, seq, plim, b⟩) w e w' := by
 subst hm ht
 unfold AckedC ackedR
 rw [h, if_pos rfl]
 refine ⟨h1, (Chg.of_below h2).trans (h3.weak (fun b _ h => .inl h)), trivial, fun _ => ⟨A2, n - kk, c2, hN, ?_⟩⟩
 dsimp only
 rw [hk, Int.toNat_natCast]
 exact Lay.own_weak (fun k hk hl => ⟨hl, hk⟩) ho
theorem cntD_lt {L : Array Bool} {k : Nat} : ∀ {ks : List Nat}, k ∈ ks → Dn L k = false → cntD L ks < ks.length
 | [], h, _ => by cases h
 | j :: ks, h, hd => by
  have hle : ∀ l : List Nat, cntD L l ≤ l.length := fun l => by
   induction l with
   | nil => exact Nat.le_refl _
   | cons a l ih => unfold cntD; rw [List.length_cons]; split <;> omega
  unfold cntD
  rw [List.length_cons]
  rcases List.mem_cons.1 h with rfl | h
  · rw [hd]; have := hle ks; simp; omega
  · have := cntD_lt h hd; split <;> omega
theorem SeqN.zero {ks : List Nat} {B : Nat → (Nat → Value) → World → Prop} {L : Array Bool} {m : Nat → Value} {w : World} (h : ∀ x ∈ ks, Dn L x = false) (hS : SeqN ks B L m w) : B 0 m w := by
 unfold SeqN at hS
 rw [cntD_none h] at hS
 exact hS
theorem SeqN.lt {T : World → Prop} {ks : List Nat} {k : Nat} {B : Nat → (Nat → Value) → World → Prop} {L : Array Bool} {m : Nat → Value} {w : World} (hk : k ∈ ks) (hd : Dn L k = false) (t : ∀ j m w, j < ks.length → B j m w → T w) (hS : SeqN ks B L m w) : T w := t _ _ _ (cntD_lt hk hd) hS
set_option maxRecDepth 100000 in
set_option maxHeartbeats 16000000 in
theorem acked1_do (s : SC) (pk : PK) (p : Nat) (pA : Option Addr) (pn pc : Nat) (w0 : World) (Fr : Nat → Prop) (hFr : ∀ k, Fr k → k < w0.heap.size) (hp : Blk w0 p 47 (pk.cells pA pn pc)) (hr : LR.rd w0 Fr pA pn pk.b.rows) (hpn : pn ≤ 9223372036854775807) :
 DoS 82 #[.pointer (some ⟨p, 0, none⟩)] w0 Fr s 0 (ackedR s pk) noX noY := by
 intro hok w g B A n c hB hg hgB hBs hN ho
 show Calls Try.prog 82 #[.pointer (some ⟨g, 0, none⟩), .pointer (some ⟨p, 0, none⟩)] w (AckedC g B Fr A n c (ackedR s pk) w)
 have hlen := sendB_len hok
 have HFR := Lib.hid hFr
 clear hFr
 have HOK := Lib.hid hok
 have HP := Lib.hid (hp.ca hB)
 have HR := Lib.hid (Lay.rd_below hr hB)
 have HO := Lib.hid ho
 have HN := Lib.hid hN
 have HLN := Lay.own_len ho
 have hcap := Lay.own_caps ho
 have hpne : p ≠ g := by have := hp.lt; omega
 have hsent : 0 ≤ s.sent ∧ s.sent ≤ 1099511627776 ∧ s.sent ≤ s.base - 1 + (s.q.length : Int) := by
  have h := hok
  unfold sendB sendM at h
  simp only [Bool.and_eq_true, decide_eq_true_eq] at h
  omega
 clear hp hr hN ho hok
 obtain ⟨ses, base, q, sent, lim, timer, ended⟩ := s
 obtain ⟨kind, pses, seq, plim, rows, pfin, pcnt⟩ := pk
 dsimp only at *
 have hw1 : IntKind.u64.wrap (sent + 1) = sent + 1 := u64_in (by omega) (by omega)
 cases hcp : checkP ⟨kind, pses, seq, plim, ⟨rows, pfin, pcnt⟩⟩
 · have HCP := Lib.hid hcp
   have HNO := Lib.hid (show ackedB ⟨ses, base, q, sent, lim, timer, ended⟩ ⟨kind, pses, seq, plim, ⟨rows, pfin, pcnt⟩⟩ = false from by unfold ackedB; simp [hcp])
   go_enter Try.func82, Try.ntmps82
   go_wp2_with fail
   refine wp_region_ps (S := fun _ _ w' => Below w.heap.size w w') (by kernel_rfl) ?spsw1 ?ppsw1
   case spsw1 =>
    exact (Below.refl _ _).drew
   refine Pz 0 (some 5) ?uw1_1 rfl rfl ?yw1_1 ?rw1_1
   case yw1_1 =>
    refine StepS.read [] (by kernel_rfl) (fun _ _ _ h => h) (by rfl) (fun L9 m9 w9 hSh hAt hDn hS => ?_)
    have hT : Below _ _ w9 := hS
    have x0 : w9.cell? ⟨p, 0, none⟩ = some (.int .i64 kind) := (HP.out.ca hT).cell 0
    have x1 : w9.cell? ⟨p, 1, none⟩ = some (.int .u32 pses) := (HP.out.ca hT).cell 1
    have x2 : w9.cell? ⟨p, 2, none⟩ = some (.int .u64 seq) := (HP.out.ca hT).cell 2
    have x3 : w9.cell? ⟨p, 3, none⟩ = some (.int .u64 plim) := (HP.out.ca hT).cell 3
    have x4 : w9.cell? ⟨p, 4, none⟩ = some (.slice pA pn pc) := (HP.out.ca hT).cell 4
    have x5 : w9.cell? ⟨p, 5, none⟩ = some (.bool pfin) := (HP.out.ca hT).cell 5
    have x6 : w9.cell? ⟨p, 6, none⟩ = some (.int .u64 pcnt) := (HP.out.ca hT).cell 6
    clear hT hS
    go_simp
    try rfl
   try simp only [Act.put, sA, sZ, sS]
   refine Pz 1 (some 6) (.int .i64 321) rfl rfl ?yw1_2 ?rw1_2
   case yw1_2 =>
    refine StepS.call ?fw1_2 ?aw1_2 [] (by kernel_rfl) (by rfl) (fun w9 => ?hw1_2) (fun L9 m9 w9 hSh hAt hDn hS => ?cw1_2)
    case hw1_2 => go_simp; refine ⟨?_, ?_⟩ <;> rfl
    case cw1_2 =>
     have hT : Below _ _ w9 := hS
     refine (checkp_any _ ⟨kind, pses, seq, plim, ⟨rows, pfin, pcnt⟩⟩ pA pn pc w9 (Lay.rd_below HR.out hT) hpn).mono ?_
     rintro e w8 ⟨rfl, q8⟩
     exact ⟨by rw [HCP.out]; rfl, bl_ca hT q8⟩
   try simp only [Act.put, sA, sZ, sS]
   refine Pz 2 (some 7) _ rfl rfl (StepS.pure (fun _ _ _ h => h) rfl fun w9 => by go_simp; try rfl) ?_
   try simp only [Act.put, sA, sZ, sS]
   refine Pz 3 (some 8) _ rfl rfl (StepS.pure (fun _ _ _ h => h) rfl fun w9 => by go_simp; try rfl) ?_
   try simp only [Act.put, sA, sZ, sS]
   refine Pz 4 (some 9) undef rfl rfl (StepS.skip (fun _ _ _ h => h) rfl) ?_
   try simp only [Act.put, sA, sZ, sS]
   refine Pz 5 (some 10) undef rfl rfl (StepS.skip (fun _ _ _ h => h) rfl) ?_
   try simp only [Act.put, sA, sZ, sS]
   refine Pz 6 (some 11) undef rfl rfl (StepS.skip (fun _ _ _ h => h) rfl) ?_
   try simp only [Act.put, sA, sZ, sS]
   refine Pz 7 (some 12) _ rfl rfl (StepS.pure (fun _ _ _ h => h) rfl fun w9 => by go_simp; try rfl) ?_
   try simp only [Act.put, sA, sZ, sS]
   refine Pz 8 (some 13) _ rfl rfl (StepS.pure (fun _ _ _ h => h) rfl fun w9 => by go_simp; try rfl) ?_
   try simp only [Act.put, sA, sZ, sS]
   refine Pz 9 (some 14) undef rfl rfl (StepS.skip (fun _ _ _ h => h) rfl) ?_
   try simp only [Act.put, sA, sZ, sS]
   refine Pz 10 (some 15) undef rfl rfl (StepS.skip (fun _ _ _ h => h) rfl) ?_
   try simp only [Act.put, sA, sZ, sS]
   refine Pz 11 (some 16) undef rfl rfl (StepS.skip (fun _ _ _ h => h) rfl) ?_
   try simp only [Act.put, sA, sZ, sS]
   refine Pz 12 (some 17) undef rfl rfl (StepS.skip (fun _ _ _ h => h) rfl) ?_
   try simp only [Act.put, sA, sZ, sS]
   refine Pz 13 (some 18) undef rfl rfl (StepS.skip (fun _ _ _ h => h) rfl) ?_
   try simp only [Act.put, sA, sZ, sS]
   refine Pz 14 (some 19) undef rfl rfl (StepS.skip (fun _ _ _ h => h) rfl) ?_
   try simp only [Act.put, sA, sZ, sS]
   refine Pz 15 (some 20) undef rfl rfl (StepS.skip (fun _ _ _ h => h) rfl) ?_
   try simp only [Act.put, sA, sZ, sS]
   refine Pz 16 (some 21) _ rfl rfl (StepS.pure (fun _ _ _ h => h) rfl fun w9 => by go_simp; try rfl) ?_
   try simp only [Act.put, sA, sZ, sS]
   refine Pz 17 (some 22) _ rfl rfl (StepS.pure (fun _ _ _ h => h) rfl fun w9 => by go_simp; try rfl) ?_
   try simp only [Act.put, sA, sZ, sS]
   refine Pz 18 (some 23) undef rfl rfl (StepS.skip (fun _ _ _ h => h) rfl) ?_
   try simp only [Act.put, sA, sZ, sS]
   refine Pz 19 (some 24) undef rfl rfl (StepS.skip (fun _ _ _ h => h) rfl) ?_
   try simp only [Act.put, sA, sZ, sS]
   refine Pz 20 (some 25) undef rfl rfl (StepS.skip (fun _ _ _ h => h) rfl) ?_
   try simp only [Act.put, sA, sZ, sS]
   refine Pz 21 (some 26) undef rfl rfl (StepS.skip (fun _ _ _ h => h) rfl) ?_
   try simp only [Act.put, sA, sZ, sS]
   refine Pz 22 (some 27) undef rfl rfl (StepS.skip (fun _ _ _ h => h) rfl) ?_
   try simp only [Act.put, sA, sZ, sS]
   refine Pz 23 (some 28) undef rfl rfl (StepS.skip (fun _ _ _ h => h) rfl) ?_
   try simp only [Act.put, sA, sZ, sS]
   refine Pz 24 (some 29) undef rfl rfl (StepS.skip (fun _ _ _ h => h) rfl) ?_
   try simp only [Act.put, sA, sZ, sS]
   refine Pz 25 (some 30) _ rfl rfl (StepS.pure (fun _ _ _ h => h) rfl fun w9 => by go_simp; try rfl) ?_
   try simp only [Act.put, sA, sZ, sS]
   refine Pz 26 (some 31) _ rfl rfl (StepS.pure (fun _ _ _ h => h) rfl fun w9 => by go_simp; try rfl) ?_
   try simp only [Act.put, sA, sZ, sS]
   refine Pz 27 (some 32) undef rfl rfl (StepS.skip (fun _ _ _ h => h) rfl) ?_
   try simp only [Act.put, sA, sZ, sS]
   refine Pz 28 (some 33) undef rfl rfl (StepS.skip (fun _ _ _ h => h) rfl) ?_
   try simp only [Act.put, sA, sZ, sS]
   refine Pz 29 (some 34) undef rfl rfl (StepS.skip (fun _ _ _ h => h) rfl) ?_
   try simp only [Act.put, sA, sZ, sS]
   refine Pz 30 (some 35) undef rfl rfl (StepS.skip (fun _ _ _ h => h) rfl) ?_
   try simp only [Act.put, sA, sZ, sS]
   refine Pz 31 (some 36) undef rfl rfl (StepS.skip (fun _ _ _ h => h) rfl) ?_
   try simp only [Act.put, sA, sZ, sS]
   refine Pz 32 (some 37) undef rfl rfl (StepS.skip (fun _ _ _ h => h) rfl) ?_
   try simp only [Act.put, sA, sZ, sS]
   refine Pz 33 (some 38) undef rfl rfl (StepS.skip (fun _ _ _ h => h) rfl) ?_
   try simp only [Act.put, sA, sZ, sS]
   refine Pz 34 (some 39) undef rfl rfl (StepS.skip (fun _ _ _ h => h) rfl) ?_
   try simp only [Act.put, sA, sZ, sS]
   refine Pz 35 (some 40) _ rfl rfl (StepS.pure (fun _ _ _ h => h) rfl fun w9 => by go_simp; try rfl) ?_
   try simp only [Act.put, sA, sZ, sS]
   refine Pz 36 (some 41) _ rfl rfl (StepS.pure (fun _ _ _ h => h) rfl fun w9 => by go_simp; try rfl) ?_
   try simp only [Act.put, sA, sZ, sS]
   refine Pz 37 (some 42) undef rfl rfl (StepS.skip (fun _ _ _ h => h) rfl) ?_
   try simp only [Act.put, sA, sZ, sS]
   refine Pz 38 (some 43) undef rfl rfl (StepS.skip (fun _ _ _ h => h) rfl) ?_
   try simp only [Act.put, sA, sZ, sS]
   refine Pz 39 (some 44) undef rfl rfl (StepS.skip (fun _ _ _ h => h) rfl) ?_
   try simp only [Act.put, sA, sZ, sS]
   refine Pz 40 (some 45) _ rfl rfl (StepS.pure (fun _ _ _ h => h) rfl fun w9 => by go_simp; try rfl) ?_
   try simp only [Act.put, sA, sZ, sS]
   refine Ps.done (by kernel_rfl) (fun w1 hS => ?_) _
   have HQ := Lib.hid (show Below w.heap.size w _ from hS)
   clear hS
   obtain ⟨w7, rfl⟩ : ∃ x, x = w1 := ⟨_, rfl⟩
   go_wp2
   go_ret
   exact acked_no HNO.out rfl HQ.out HN.out HO.out
 · by_cases k2 : kind = 2
   · subst k2
     have HCP := Lib.hid hcp
     by_cases hs : pses = ses
     · obtain rfl := hs.symm
       by_cases c1 : base ≤ seq
       · have d1 : decide (seq < base) = false := by simp; omega
         by_cases c2 : seq ≤ sent + 1
         · have d2 : decide (sent + 1 < seq) = false := by simp; omega
           by_cases c3 : seq ≤ 1099511627776
           · have d3 : decide ((1099511627776 : Int) < seq) = false := by simp; omega
             obtain ⟨kk, hkk⟩ : ∃ kk : Nat, seq - base = (kk : Int) := ⟨(seq - base).toNat, by omega⟩
             have hkn : kk ≤ n := by omega
             have hn8 : n ≤ 8 := by omega
             have hkn2 : (kk : Int) ≤ (n : Int) := by omega
             have hwk : IntKind.u64.wrap (kk : Int) = (kk : Int) := u64_in (by omega) (by omega)
             have hsb : IntKind.u64.wrap (seq - base) = (kk : Int) := (u64_in (by omega) (by omega)).trans hkk
             have HKK := Lib.hid hkk
             clear hkk
             have HYES := Lib.hid (show ackedB ⟨ses, base, q, sent, lim, timer, ended⟩ ⟨2, ses, seq, plim, ⟨rows, pfin, pcnt⟩⟩ = true from by unfold ackedB; simp [HCP.out, c1, c2, c3])
             go_enter Try.func82, Try.ntmps82
             go_wp2_with fail
             refine wp_region_ps (S := fun _ _ w' => Below w.heap.size w w') (by kernel_rfl) ?spsw42 ?ppsw42
             case spsw42 =>
              exact (Below.refl _ _).drew
             refine Pz 0 (some 5) ?uw42_42 rfl rfl ?yw42_42 ?rw42_42
             case yw42_42 =>
              refine StepS.read [] (by kernel_rfl) (fun _ _ _ h => h) (by rfl) (fun L9 m9 w9 hSh hAt hDn hS => ?_)
              have hT : Below _ _ w9 := hS
              have x0 : w9.cell? ⟨p, 0, none⟩ = some (.int .i64 2) := (HP.out.ca hT).cell 0
              have x1 : w9.cell? ⟨p, 1, none⟩ = some (.int .u32 ses) := (HP.out.ca hT).cell 1
              have x2 : w9.cell? ⟨p, 2, none⟩ = some (.int .u64 seq) := (HP.out.ca hT).cell 2
              have x3 : w9.cell? ⟨p, 3, none⟩ = some (.int .u64 plim) := (HP.out.ca hT).cell 3
              have x4 : w9.cell? ⟨p, 4, none⟩ = some (.slice pA pn pc) := (HP.out.ca hT).cell 4
              have x5 : w9.cell? ⟨p, 5, none⟩ = some (.bool pfin) := (HP.out.ca hT).cell 5
              have x6 : w9.cell? ⟨p, 6, none⟩ = some (.int .u64 pcnt) := (HP.out.ca hT).cell 6
              clear hT hS
              go_simp
              try rfl
             try simp only [Act.put, sA, sZ, sS]
             refine Pz 1 (some 6) (.int .i64 0) rfl rfl ?yw42_43 ?rw42_43
             case yw42_43 =>
              refine StepS.call ?fw42_43 ?aw42_43 [] (by kernel_rfl) (by rfl) (fun w9 => ?hw42_43) (fun L9 m9 w9 hSh hAt hDn hS => ?cw42_43)
              case hw42_43 => go_simp; refine ⟨?_, ?_⟩ <;> rfl
              case cw42_43 =>
               have hT : Below _ _ w9 := hS
               refine (checkp_any _ ⟨2, ses, seq, plim, ⟨rows, pfin, pcnt⟩⟩ pA pn pc w9 (Lay.rd_below HR.out hT) hpn).mono ?_
               rintro e w8 ⟨rfl, q8⟩
               exact ⟨by rw [HCP.out]; rfl, bl_ca hT q8⟩
             try simp only [Act.put, sA, sZ, sS]
             refine Pz 2 (some 7) _ rfl rfl (StepS.pure (fun _ _ _ h => h) rfl fun w9 => by go_simp; try rfl) ?_
             try simp only [Act.put, sA, sZ, sS]
             refine Pz 3 (some 8) _ rfl rfl (StepS.pure (fun _ _ _ h => h) rfl fun w9 => by go_simp; try rfl) ?_
             try simp only [Act.put, sA, sZ, sS]
             refine Pz 4 (some 9) _ rfl rfl (StepS.pure (fun _ _ _ h => h) rfl fun w9 => by go_simp; try rfl) ?_
             try simp only [Act.put, sA, sZ, sS]
             refine Pz 5 (some 10) ?uw42_47 rfl rfl ?yw42_47 ?rw42_47
             case yw42_47 =>
              refine StepS.read [] (by kernel_rfl) (fun _ _ _ h => h) (by rfl) (fun L9 m9 w9 hSh hAt hDn hS => ?_)
              have hT : Below _ _ w9 := hS
              have x0 : w9.cell? ⟨p, 0, none⟩ = some (.int .i64 2) := (HP.out.ca hT).cell 0
              clear hT hS
              go_simp
              try rfl
             try simp only [Act.put, sA, sZ, sS]
             refine Pz 6 (some 11) _ rfl rfl (StepS.pure (fun _ _ _ h => h) rfl fun w9 => by go_simp; try rfl) ?_
             try simp only [Act.put, sA, sZ, sS]
             refine Pz 7 (some 12) _ rfl rfl (StepS.pure (fun _ _ _ h => h) rfl fun w9 => by go_simp; try rfl) ?_
             try simp only [Act.put, sA, sZ, sS]
             refine Pz 8 (some 13) _ rfl rfl (StepS.pure (fun _ _ _ h => h) rfl fun w9 => by go_simp; try rfl) ?_
             try simp only [Act.put, sA, sZ, sS]
             refine Pz 9 (some 14) _ rfl rfl (StepS.pure (fun _ _ _ h => h) rfl fun w9 => by go_simp; try rfl) ?_
             try simp only [Act.put, sA, sZ, sS]
             refine Pz 10 (some 15) ?uw42_52 rfl rfl ?yw42_52 ?rw42_52
             case yw42_52 =>
              refine StepS.read [] (by kernel_rfl) (fun _ _ _ h => h) (by rfl) (fun L9 m9 w9 hSh hAt hDn hS => ?_)
              have hT : Below _ _ w9 := hS
              have x1 : w9.cell? ⟨p, 1, none⟩ = some (.int .u32 ses) := (HP.out.ca hT).cell 1
              clear hT hS
              go_simp
              try rfl
             try simp only [Act.put, sA, sZ, sS]
             refine Pz 11 (some 16) _ rfl rfl (StepS.pure (fun _ _ _ h => h) rfl fun w9 => by go_simp; try rfl) ?_
             try simp only [Act.put, sA, sZ, sS]
             refine Pz 12 (some 17) _ rfl rfl (StepS.pure (fun _ _ _ h => h) rfl fun w9 => by go_simp; try rfl) ?_
             try simp only [Act.put, sA, sZ, sS]
             refine Pz 13 (some 18) _ rfl rfl (StepS.pure (fun _ _ _ h => h) rfl fun w9 => by go_simp; try rfl) ?_
             try simp only [Act.put, sA, sZ, sS]
             refine Pz 14 (some 19) ?uw42_56 rfl rfl ?yw42_56 ?rw42_56
             case yw42_56 =>
              refine StepS.read [] (by kernel_rfl) (fun _ _ _ h => h) (by rfl) (fun L9 m9 w9 hSh hAt hDn hS => ?_)
              have hT : Below _ _ w9 := hS
              have y0 : w9.cell? ⟨g, 0, none⟩ = some (.int .u32 ses) := (HN.out.ca hT).cell 0
              clear hT hS
              go_simp
              try rfl
             try simp only [Act.put, sA, sZ, sS]
             refine Pz 15 (some 20) _ rfl rfl (StepS.pure (fun _ _ _ h => h) rfl fun w9 => by go_simp; try rfl) ?_
             try simp only [Act.put, sA, sZ, sS]
             refine Pz 16 (some 21) _ rfl rfl (StepS.pure (fun _ _ _ h => h) rfl fun w9 => by go_simp; try rfl) ?_
             try simp only [Act.put, sA, sZ, sS]
             refine Pz 17 (some 22) _ rfl rfl (StepS.pure (fun _ _ _ h => h) rfl fun w9 => by go_simp; try rfl) ?_
             try simp only [Act.put, sA, sZ, sS]
             refine Pz 18 (some 23) _ rfl rfl (StepS.pure (fun _ _ _ h => h) rfl fun w9 => by go_simp; try rfl) ?_
             try simp only [Act.put, sA, sZ, sS]
             refine Pz 19 (some 24) ?uw42_61 rfl rfl ?yw42_61 ?rw42_61
             case yw42_61 =>
              refine StepS.read [] (by kernel_rfl) (fun _ _ _ h => h) (by rfl) (fun L9 m9 w9 hSh hAt hDn hS => ?_)
              have hT : Below _ _ w9 := hS
              have x2 : w9.cell? ⟨p, 2, none⟩ = some (.int .u64 seq) := (HP.out.ca hT).cell 2
              clear hT hS
              go_simp
              try rfl
             try simp only [Act.put, sA, sZ, sS]
             refine Pz 20 (some 25) _ rfl rfl (StepS.pure (fun _ _ _ h => h) rfl fun w9 => by go_simp; try rfl) ?_
             try simp only [Act.put, sA, sZ, sS]
             refine Pz 21 (some 26) _ rfl rfl (StepS.pure (fun _ _ _ h => h) rfl fun w9 => by go_simp; try rfl) ?_
             try simp only [Act.put, sA, sZ, sS]
             refine Pz 22 (some 27) _ rfl rfl (StepS.pure (fun _ _ _ h => h) rfl fun w9 => by go_simp; try rfl) ?_
             try simp only [Act.put, sA, sZ, sS]
             refine Pz 23 (some 28) ?uw42_65 rfl rfl ?yw42_65 ?rw42_65
             case yw42_65 =>
              refine StepS.read [] (by kernel_rfl) (fun _ _ _ h => h) (by rfl) (fun L9 m9 w9 hSh hAt hDn hS => ?_)
              have hT : Below _ _ w9 := hS
              have y1 : w9.cell? ⟨g, 1, none⟩ = some (.int .u64 base) := (HN.out.ca hT).cell 1
              clear hT hS
              go_simp
              try rfl
             try simp only [Act.put, sA, sZ, sS]
             refine Pz 24 (some 29) _ rfl rfl (StepS.pure (fun _ _ _ h => h) rfl fun w9 => by go_simp; try rfl) ?_
             try simp only [Act.put, sA, sZ, sS]
             refine Pz 25 (some 30) _ rfl rfl (StepS.pure (fun _ _ _ h => h) rfl fun w9 => by go_simp; try rfl) ?_
             try simp only [Act.put, sA, sZ, sS]
             refine Pz 26 (some 31) _ rfl rfl (StepS.pure (fun _ _ _ h => h) rfl fun w9 => by go_simp; try rfl) ?_
             try simp only [Act.put, sA, sZ, sS]
             refine Pz 27 (some 32) _ rfl rfl (StepS.pure (fun _ _ _ h => h) rfl fun w9 => by go_simp; try rfl) ?_
             try simp only [Act.put, sA, sZ, sS]
             refine Pz 28 (some 33) ?uw42_70 rfl rfl ?yw42_70 ?rw42_70
             case yw42_70 =>
              refine StepS.read [] (by kernel_rfl) (fun _ _ _ h => h) (by rfl) (fun L9 m9 w9 hSh hAt hDn hS => ?_)
              have hT : Below _ _ w9 := hS
              have x2 : w9.cell? ⟨p, 2, none⟩ = some (.int .u64 seq) := (HP.out.ca hT).cell 2
              clear hT hS
              go_simp
              try rfl
             try simp only [Act.put, sA, sZ, sS]
             refine Pz 29 (some 34) _ rfl rfl (StepS.pure (fun _ _ _ h => h) rfl fun w9 => by go_simp; try rfl) ?_
             try simp only [Act.put, sA, sZ, sS]
             refine Pz 30 (some 35) _ rfl rfl (StepS.pure (fun _ _ _ h => h) rfl fun w9 => by go_simp; try rfl) ?_
             try simp only [Act.put, sA, sZ, sS]
             refine Pz 31 (some 36) _ rfl rfl (StepS.pure (fun _ _ _ h => h) rfl fun w9 => by go_simp; try rfl) ?_
             try simp only [Act.put, sA, sZ, sS]
             refine Pz 32 (some 37) ?uw42_74 rfl rfl ?yw42_74 ?rw42_74
             case yw42_74 =>
              refine StepS.read [] (by kernel_rfl) (fun _ _ _ h => h) (by rfl) (fun L9 m9 w9 hSh hAt hDn hS => ?_)
              have hT : Below _ _ w9 := hS
              have y3 : w9.cell? ⟨g, 3, none⟩ = some (.int .u64 sent) := (HN.out.ca hT).cell 3
              clear hT hS
              go_simp
              try rfl
             try simp only [Act.put, sA, sZ, sS]
             refine Pz 33 (some 38) _ rfl rfl (StepS.pure (fun _ _ _ h => h) rfl fun w9 => by go_simp; try rfl) ?_
             try simp only [Act.put, sA, sZ, sS]
             refine Pz 34 (some 39) _ rfl rfl (StepS.pure (fun _ _ _ h => h) rfl fun w9 => by go_simp; try rfl) ?_
             try simp only [Act.put, sA, sZ, sS]
             refine Pz 35 (some 40) _ rfl rfl (StepS.pure (fun _ _ _ h => h) rfl fun w9 => by go_simp; try rfl) ?_
             try simp only [Act.put, sA, sZ, sS]
             refine Pz 36 (some 41) _ rfl rfl (StepS.pure (fun _ _ _ h => h) rfl fun w9 => by go_simp; try rfl) ?_
             try simp only [Act.put, sA, sZ, sS]
             refine Pz 37 (some 42) _ rfl rfl (StepS.pure (fun _ _ _ h => h) rfl fun w9 => by go_simp; try rfl) ?_
             try simp only [Act.put, sA, sZ, sS]
             refine Pz 38 (some 43) ?uw42_80 rfl rfl ?yw42_80 ?rw42_80
             case yw42_80 =>
              refine StepS.read [] (by kernel_rfl) (fun _ _ _ h => h) (by rfl) (fun L9 m9 w9 hSh hAt hDn hS => ?_)
              have hT : Below _ _ w9 := hS
              have x2 : w9.cell? ⟨p, 2, none⟩ = some (.int .u64 seq) := (HP.out.ca hT).cell 2
              clear hT hS
              go_simp
              try rfl
             try simp only [Act.put, sA, sZ, sS]
             refine Pz 39 (some 44) _ rfl rfl (StepS.pure (fun _ _ _ h => h) rfl fun w9 => by go_simp; try rfl) ?_
             try simp only [Act.put, sA, sZ, sS]
             refine Pz 40 (some 45) _ rfl rfl (StepS.pure (fun _ _ _ h => h) rfl fun w9 => by go_simp; try rfl) ?_
             try simp only [Act.put, sA, sZ, sS]
             refine Ps.done (by kernel_rfl) (fun w42 hS => ?_) _
             have HQ := Lib.hid (show Below w.heap.size w _ from hS)
             clear hS
             obtain ⟨w7, rfl⟩ : ∃ x, x = w42 := ⟨_, rfl⟩
             have HP7 := Lib.hid (HP.out.ca HQ.out)
             have HN7 := Lib.hid (HN.out.ca HQ.out)
             have HO7 := Lib.hid (Lay.own_below HO.out HQ.out)
             go_wp2_with fail
             refine wp_region_ps (S := fun _ _ w' => Below w7.heap.size w7 w') (by kernel_rfl) ?spsw83 ?ppsw83
             case spsw83 =>
              exact (Below.refl _ _).drew
             refine Pz 0 (some 46) _ rfl rfl (StepS.pure (fun _ _ _ h => h) rfl fun w9 => by go_simp; try rfl) ?_
             try simp only [Act.put, sA, sZ, sS]
             refine Pz 1 (some 47) ?uw83_84 rfl rfl ?yw83_84 ?rw83_84
             case yw83_84 =>
              refine StepS.read [] (by kernel_rfl) (fun _ _ _ h => h) (by rfl) (fun L9 m9 w9 hSh hAt hDn hS => ?_)
              have hT : Below _ _ w9 := hS
              have x2 : w9.cell? ⟨p, 2, none⟩ = some (.int .u64 seq) := (HP7.out.ca hT).cell 2
              clear hT hS
              go_simp
              try rfl
             try simp only [Act.put, sA, sZ, sS]
             refine Pz 2 (some 48) _ rfl rfl (StepS.pure (fun _ _ _ h => h) rfl fun w9 => by go_simp; try rfl) ?_
             try simp only [Act.put, sA, sZ, sS]
             refine Pz 3 (some 49) _ rfl rfl (StepS.pure (fun _ _ _ h => h) rfl fun w9 => by go_simp; try rfl) ?_
             try simp only [Act.put, sA, sZ, sS]
             refine Pz 4 (some 50) _ rfl rfl (StepS.pure (fun _ _ _ h => h) rfl fun w9 => by go_simp; try rfl) ?_
             try simp only [Act.put, sA, sZ, sS]
             refine Pz 5 (some 51) ?uw83_88 rfl rfl ?yw83_88 ?rw83_88
             case yw83_88 =>
              refine StepS.read [] (by kernel_rfl) (fun _ _ _ h => h) (by rfl) (fun L9 m9 w9 hSh hAt hDn hS => ?_)
              have hT : Below _ _ w9 := hS
              have x1 : w9.cell? ⟨g, 1, none⟩ = some (.int .u64 base) := (HN7.out.ca hT).cell 1
              clear hT hS
              go_simp
              try rfl
             try simp only [Act.put, sA, sZ, sS]
             refine Pz 6 (some 52) _ rfl rfl (StepS.pure (fun _ _ _ h => h) rfl fun w9 => by go_simp; try rfl) ?_
             try simp only [Act.put, sA, sZ, sS]
             refine Pz 7 (some 4) _ rfl rfl (StepS.pure (fun _ _ _ h => h) rfl fun w9 => by go_simp; try rfl) ?_
             try simp only [Act.put, sA, sZ, sS]
             refine Ps.done (by kernel_rfl) (fun w83 hS => ?_) _
             have HQ8 := Lib.hid (show Below w7.heap.size w7 _ from hS)
             clear hS
             obtain ⟨w8, rfl⟩ : ∃ x, x = w83 := ⟨_, rfl⟩
             go_wp2_with fail
             obtain ⟨mx, hmx⟩ : ∃ mx, mx = (if lim ≤ plim then plim else lim) := ⟨_, rfl⟩
             have hsz7 := HQ.out.size
             have hsz8 := HQ8.out.size
             have HMX := Lib.hid hmx
             have hmax : max lim plim = mx := by rw [hmx]; split <;> omega
             clear hmx
             have HP8 := Lib.hid (HP7.out.ca HQ8.out)
             have HN8 := Lib.hid (HN7.out.ca HQ8.out)
             have HO8 := Lib.hid (Lay.own_below HO7.out HQ8.out)
             have HCAP := Lib.hid hcap
             have hpg : ¬ (fun k => k = g) p := fun h => hpne h
             refine wp_region_ps (S := SeqN [9, 21, 24, 27] (fun z m w' => match z with | 0 => Below w8.heap.size w8 w' | 1 => Below w8.heap.size w8 w' ∧ ∃ A2 c2, m 9 = .slice A2 (n - kk) c2 ∧ LB3.own 45 w' B (fun k => Fr k ∨ B ≤ k) A2 (n - kk) c2 (q.drop kk) | 2 => Chg (fun k => k = g) w8 w' ∧ ∃ A2 c2, m 9 = .slice A2 (n - kk) c2 ∧ LB3.own 45 w' B (fun k => Fr k ∨ B ≤ k) A2 (n - kk) c2 (q.drop kk) ∧ Blk w' g 29 #[.int .u32 ses, .int .u64 base, .slice A2 (n - kk) c2, .int .u64 sent, .int .u64 lim, .int .i64 timer, .bool ended] | 3 => Chg (fun k => k = g) w8 w' ∧ ∃ A2 c2, m 9 = .slice A2 (n - kk) c2 ∧ LB3.own 45 w' B (fun k => Fr k ∨ B ≤ k) A2 (n - kk) c2 (q.drop kk) ∧ Blk w' g 29 #[.int .u32 ses, .int .u64 seq, .slice A2 (n - kk) c2, .int .u64 sent, .int .u64 lim, .int .i64 timer, .bool ended] | _ => Chg (fun k => k = g) w8 w' ∧ ∃ A2 c2, m 9 = .slice A2 (n - kk) c2 ∧ LB3.own 45 w' B (fun k => Fr k ∨ B ≤ k) A2 (n - kk) c2 (q.drop kk) ∧ Blk w' g 29 #[.int .u32 ses, .int .u64 seq, .slice A2 (n - kk) c2, .int .u64 sent, .int .u64 mx, .int .i64 timer, .bool ended])) (by kernel_rfl) ?spsw91 ?ppsw91
             case spsw91 =>
              exact SeqN.start (by decide) (Below.refl _ _).drew
             refine Pz 0 (some 53) _ rfl rfl (StepS.pure (SeqN.pass (by decide)) rfl fun w9 => by go_simp; try rfl) ?_
             try simp only [Act.put, sA, sZ, sS]
             refine Pz 1 (some 54) _ rfl rfl (StepS.pure (SeqN.pass (by decide)) rfl fun w9 => by go_simp; try rfl) ?_
             try simp only [Act.put, sA, sZ, sS]
             refine Pz 2 (some 55) _ rfl rfl (StepS.pure (SeqN.pass (by decide)) rfl fun w9 => by go_simp; try rfl) ?_
             try simp only [Act.put, sA, sZ, sS]
             refine Pz 3 (some 56) _ rfl rfl (StepS.pure (SeqN.pass (by decide)) rfl fun w9 => by go_simp; try rfl) ?_
             try simp only [Act.put, sA, sZ, sS]
             refine Pz 4 (some 57) _ rfl rfl (StepS.pure (SeqN.pass (by decide)) rfl fun w9 => by go_simp; try rfl) ?_
             try simp only [Act.put, sA, sZ, sS]
             refine Pz 5 (some 58) _ rfl rfl (StepS.pure (SeqN.pass (by decide)) rfl fun w9 => by go_simp; try rfl) ?_
             try simp only [Act.put, sA, sZ, sS]
             refine Pz 6 (some 59) ?uw91_97 rfl rfl ?yw91_97 ?rw91_97
             case yw91_97 =>
              refine StepS.read [] (by kernel_rfl) (SeqN.pass (by decide)) (by rfl) (fun L9 m9 w9 hSh hAt hDn hS => ?_)
              have hT : Below w8.heap.size w8 w9 := SeqN.zero (post_no hSh hDn (by kernel_rfl)) hS
              have x2 : w9.cell? ⟨g, 2, none⟩ = some (.slice A n c) := (HN8.out.ca hT).cell 2
              clear hT hS
              go_simp
              try rfl
             try simp only [Act.put, sA, sZ, sS]
             refine Pz 7 (some 60) _ rfl rfl (StepS.pure (SeqN.pass (by decide)) rfl fun w9 => by go_simp; try rfl) ?_
             try simp only [Act.put, sA, sZ, sS]
             refine Pz 8 (some 61) _ rfl rfl (StepS.pure (SeqN.pass (by decide)) rfl fun w9 => by go_simp; try rfl) ?_
             try simp only [Act.put, sA, sZ, sS]
             refine Pz 10 (some 63) _ rfl rfl (StepS.pure (SeqN.pass (by decide)) rfl fun w9 => by go_simp; try rfl) ?_
             try simp only [Act.put, sA, sZ, sS]
             refine Pz 11 (some 64) ?uw91_101 rfl rfl ?yw91_101 ?rw91_101
             case yw91_101 =>
              refine StepS.read [] (by kernel_rfl) (SeqN.pass (by decide)) (by rfl) (fun L9 m9 w9 hSh hAt hDn hS => ?_)
              have hT : Blk w9 p 47 #[.int .i64 2, .int .u32 ses, .int .u64 seq, .int .u64 plim, .slice pA pn pc, .bool pfin, .int .u64 pcnt] := SeqN.any (T := fun w9 => Blk w9 p 47 #[.int .i64 2, .int .u32 ses, .int .u64 seq, .int .u64 plim, .slice pA pn pc, .bool pfin, .int .u64 pcnt]) (fun z _ _ h => by match z, h with | 0, h => exact HP8.out.ca h | 1, h => exact HP8.out.ca h.1 | 2, h => exact HP8.out.chg h.1 hpg | 3, h => exact HP8.out.chg h.1 hpg | _ + 4, h => exact HP8.out.chg h.1 hpg) hS
              have x2 : w9.cell? ⟨p, 2, none⟩ = some (.int .u64 seq) := hT.cell 2
              clear hT hS
              go_simp
              try rfl
             try simp only [Act.put, sA, sZ, sS]
             refine Pz 12 (some 65) _ rfl rfl (StepS.pure (SeqN.pass (by decide)) rfl fun w9 => by go_simp; try rfl) ?_
             try simp only [Act.put, sA, sZ, sS]
             refine Pz 13 (some 66) _ rfl rfl (StepS.pure (SeqN.pass (by decide)) rfl fun w9 => by go_simp; try rfl) ?_
             try simp only [Act.put, sA, sZ, sS]
             refine Pz 14 (some 67) _ rfl rfl (StepS.pure (SeqN.pass (by decide)) rfl fun w9 => by go_simp; try rfl) ?_
             try simp only [Act.put, sA, sZ, sS]
             refine Pz 15 (some 68) ?uw91_105 rfl rfl ?yw91_105 ?rw91_105
             case yw91_105 =>
              refine StepS.read [] (by kernel_rfl) (SeqN.pass (by decide)) (by rfl) (fun L9 m9 w9 hSh hAt hDn hS => ?_)
              have hT : w9.cell? ⟨g, 4, none⟩ = some (.int .u64 lim) := SeqN.lt (T := fun w9 => w9.cell? ⟨g, 4, none⟩ = some (.int .u64 lim)) (k := 27) (by decide) (reach_no hSh (f := 30) (j := 27) (by kernel_rfl) hDn) (fun z _ _ hz h => by match z, hz, h with | 0, _, h => exact (HN8.out.ca h).cell 4 | 1, _, h => exact (HN8.out.ca h.1).cell 4 | 2, _, h => obtain ⟨_, _, _, _, _, hb⟩ := h; exact hb.cell 4 | 3, _, h => obtain ⟨_, _, _, _, _, hb⟩ := h; exact hb.cell 4 | _ + 4, hz, _ => exact absurd hz (by simp)) hS
              clear hS
              go_simp
              try rfl
             try simp only [Act.put, sA, sZ, sS]
             refine Pz 16 (some 69) _ rfl rfl (StepS.pure (SeqN.pass (by decide)) rfl fun w9 => by go_simp; try rfl) ?_
             try simp only [Act.put, sA, sZ, sS]
             refine Pz 17 (some 70) ?uw91_107 rfl rfl ?yw91_107 ?rw91_107
             case yw91_107 =>
              refine StepS.read [] (by kernel_rfl) (SeqN.pass (by decide)) (by rfl) (fun L9 m9 w9 hSh hAt hDn hS => ?_)
              have hT : Blk w9 p 47 #[.int .i64 2, .int .u32 ses, .int .u64 seq, .int .u64 plim, .slice pA pn pc, .bool pfin, .int .u64 pcnt] := SeqN.any (T := fun w9 => Blk w9 p 47 #[.int .i64 2, .int .u32 ses, .int .u64 seq, .int .u64 plim, .slice pA pn pc, .bool pfin, .int .u64 pcnt]) (fun z _ _ h => by match z, h with | 0, h => exact HP8.out.ca h | 1, h => exact HP8.out.ca h.1 | 2, h => exact HP8.out.chg h.1 hpg | 3, h => exact HP8.out.chg h.1 hpg | _ + 4, h => exact HP8.out.chg h.1 hpg) hS
              have x3 : w9.cell? ⟨p, 3, none⟩ = some (.int .u64 plim) := hT.cell 3
              clear hT hS
              go_simp
              try rfl
             try simp only [Act.put, sA, sZ, sS]
             refine Pz 18 (some 71) (.int .u64 mx) rfl rfl (StepS.pure (SeqN.pass (by decide)) rfl fun w9 => by skip; go_simp; try rfl) ?_
             try simp only [Act.put, sA, sZ, sS]
             refine Ps.one (k := 9) (d := some 62) rfl rfl (by kernel_rfl) (TurnS.call (V := fun v => ∃ A2 c2, v = .slice A2 (n - kk) c2) ?fw91_109 ?aw91_109 [] (by kernel_rfl) (by rfl) (fun w9 => ?hw91_109) (fun L9 m9 w9 hSh hAt hDn hS => ?cw91_109)) (fun v9 hVv9 => ?rw91_109)
             case hw91_109 => go_simp; refine ⟨?_, ?_⟩ <;> rfl
             case cw91_109 =>
              have hT : Below w8.heap.size w8 w9 := SeqN.at_ (m0 := m9) (m1 := m9) [] [21, 24, 27] hSh (fun d hd => by cases hd) hDn (by kernel_rfl) hS
              have hsz := hT.size
              refine (cloneB (fun k => Fr k ∨ B ≤ k) _ _ _ (q.drop kk) w9 (Lay.rd_cut (Lay.own_rd (F := fun k => Fr k ∨ B ≤ k) (Lay.own_below HO8.out hT) (fun b hb _ => .inr hb) (fun b hb _ => .inl hb)) hkn HCAP.out.1) (by omega)).mono ?_
              rintro e w6 ⟨A2, c2, rfl, ho, q6⟩
              exact ⟨_, rfl, ⟨A2, c2, rfl⟩, SeqN.set_ (m0 := m9) (m1 := m9) [] [21, 24, 27] hSh (fun d hd => by cases hd) hDn (by kernel_rfl) (by decide) (by decide) ⟨bl_ca hT q6, A2, c2, upd_same _ _ _, Lay.own_lessB (Lay.own_weak (fun k hk _ => hk.1) ho) (by omega)⟩⟩
             try simp only [Act.put, sA, sZ, sS]
             obtain ⟨A2, c2, rfl⟩ := hVv9
             refine Pz 19 (some 72) _ rfl rfl (StepS.pure (SeqN.pass (by decide)) rfl fun w9 => by go_simp; try rfl) ?_
             try simp only [Act.put, sA, sZ, sS]
             refine Pz 20 (some 73) _ rfl rfl (StepS.pure (SeqN.pass (by decide)) rfl fun w9 => by go_simp; try rfl) ?_
             try simp only [Act.put, sA, sZ, sS]
             refine Pz 21 none undef rfl rfl ?yw91_112 ?rw91_112
             case yw91_112 =>
              refine StepS.store [9] (by kernel_rfl) (by rfl) (fun L9 m9 w9 hSh hAt hDn hS => ?_)
              obtain ⟨hb8, A3, c3, hv, ho⟩ := SeqN.at_ [9] [24, 27] hSh hAt hDn (by kernel_rfl) hS
              have hch : Chg (fun k => k = g) w8 w9 := Chg.of_below hb8
              have hN := HN8.out.ca hb8
              obtain ⟨rfl, rfl⟩ : A2 = A3 ∧ c2 = c3 := by have h9 : Value.slice A2 (n - kk) c2 = .slice A3 (n - kk) c3 := (hAt 9 (by simp)).2.symm.trans hv; simpa using h9
              have hN2 : Blk (w9.setCell ⟨g, 2, none⟩ (.slice A2 (n - kk) c2)) g 29 #[.int .u32 ses, .int .u64 base, .slice A2 (n - kk) c2, .int .u64 sent, .int .u64 lim, .int .i64 timer, .bool ended] := by simpa using hN.set_ 2 (.slice A2 (n - kk) c2)
              have hg2 : w9.grownBy (w9.setCell ⟨g, 2, none⟩ (.slice A2 (n - kk) c2)) (some g) := only_setCell (World.grownBy.refl _ _) (.inl rfl) _
              have x2 : w9.cell? ⟨g, 2, none⟩ = some (.slice A n c) := hN.cell 2
              have fx : w9.frozen? ⟨g, 2, none⟩ = false := hN.frozen 2
              refine ⟨w9.setCell ⟨g, 2, none⟩ (.slice A2 (n - kk) c2), ?_, SeqN.set_ [9] [24, 27] hSh hAt hDn (by kernel_rfl) (by decide) (by decide) ⟨hch.grown hg2 (fun k e => .inl (by injection e with e; exact e.symm)), A2, c2, hv, ?_, hN2⟩⟩
              · clear hv ho hN hN2 hg2 hch hb8 hS
                go_simp
              · exact Lay.own_same ho (fun k e => hg2.block k (Lay.own_base ho k e).2 (fun e2 => by injection e2 with e2; have := (Lay.own_base ho k e).1; omega)) (fun b hb _ hl => hg2.block b hl (fun e2 => by injection e2 with e2; exact hb.elim (fun h => by have := HFR.out b h; omega) (fun h => by omega)))
             try simp only [Act.put]
             refine Pz 22 (some 74) _ rfl rfl (StepS.pure (SeqN.pass (by decide)) rfl fun w9 => by go_simp; try rfl) ?_
             try simp only [Act.put, sA, sZ, sS]
             refine Pz 23 (some 75) _ rfl rfl (StepS.pure (SeqN.pass (by decide)) rfl fun w9 => by go_simp; try rfl) ?_
             try simp only [Act.put, sA, sZ, sS]
             refine Pz 24 none undef rfl rfl ?yw91_115 ?rw91_115
             case yw91_115 =>
              refine StepS.store [9, 21] (by kernel_rfl) (by rfl) (fun L9 m9 w9 hSh hAt hDn hS => ?_)
              obtain ⟨hch, A3, c3, hv, ho, hN⟩ := SeqN.at_ [9, 21] [27] hSh hAt hDn (by kernel_rfl) hS
              obtain ⟨rfl, rfl⟩ : A2 = A3 ∧ c2 = c3 := by have h9 : Value.slice A2 (n - kk) c2 = .slice A3 (n - kk) c3 := (hAt 9 (by simp)).2.symm.trans hv; simpa using h9
              have hN2 : Blk (w9.setCell ⟨g, 1, none⟩ (.int .u64 seq)) g 29 #[.int .u32 ses, .int .u64 seq, .slice A2 (n - kk) c2, .int .u64 sent, .int .u64 lim, .int .i64 timer, .bool ended] := by simpa using hN.set_ 1 (.int .u64 seq)
              have hg2 : w9.grownBy (w9.setCell ⟨g, 1, none⟩ (.int .u64 seq)) (some g) := only_setCell (World.grownBy.refl _ _) (.inl rfl) _
              have x2 : w9.cell? ⟨g, 1, none⟩ = some (.int .u64 base) := hN.cell 1
              have fx : w9.frozen? ⟨g, 1, none⟩ = false := hN.frozen 1
              refine ⟨w9.setCell ⟨g, 1, none⟩ (.int .u64 seq), ?_, SeqN.set_ [9, 21] [27] hSh hAt hDn (by kernel_rfl) (by decide) (by decide) ⟨hch.grown hg2 (fun k e => .inl (by injection e with e; exact e.symm)), A2, c2, hv, ?_, hN2⟩⟩
              · clear hv ho hN hN2 hg2 hch hS
                go_simp
              · exact Lay.own_same ho (fun k e => hg2.block k (Lay.own_base ho k e).2 (fun e2 => by injection e2 with e2; have := (Lay.own_base ho k e).1; omega)) (fun b hb _ hl => hg2.block b hl (fun e2 => by injection e2 with e2; exact hb.elim (fun h => by have := HFR.out b h; omega) (fun h => by omega)))
             try simp only [Act.put]
             refine Pz 25 (some 76) _ rfl rfl (StepS.pure (SeqN.pass (by decide)) rfl fun w9 => by go_simp; try rfl) ?_
             try simp only [Act.put, sA, sZ, sS]
             refine Pz 26 (some 77) _ rfl rfl (StepS.pure (SeqN.pass (by decide)) rfl fun w9 => by go_simp; try rfl) ?_
             try simp only [Act.put, sA, sZ, sS]
             refine Pz 27 none undef rfl rfl ?yw91_118 ?rw91_118
             case yw91_118 =>
              refine StepS.store [9, 21, 24] (by kernel_rfl) (by rfl) (fun L9 m9 w9 hSh hAt hDn hS => ?_)
              obtain ⟨hch, A3, c3, hv, ho, hN⟩ := SeqN.at_ [9, 21, 24] [] hSh hAt hDn (by kernel_rfl) hS
              obtain ⟨rfl, rfl⟩ : A2 = A3 ∧ c2 = c3 := by have h9 : Value.slice A2 (n - kk) c2 = .slice A3 (n - kk) c3 := (hAt 9 (by simp)).2.symm.trans hv; simpa using h9
              have hN2 : Blk (w9.setCell ⟨g, 4, none⟩ (.int .u64 mx)) g 29 #[.int .u32 ses, .int .u64 seq, .slice A2 (n - kk) c2, .int .u64 sent, .int .u64 mx, .int .i64 timer, .bool ended] := by simpa using hN.set_ 4 (.int .u64 mx)
              have hg2 : w9.grownBy (w9.setCell ⟨g, 4, none⟩ (.int .u64 mx)) (some g) := only_setCell (World.grownBy.refl _ _) (.inl rfl) _
              have x2 : w9.cell? ⟨g, 4, none⟩ = some (.int .u64 lim) := hN.cell 4
              have fx : w9.frozen? ⟨g, 4, none⟩ = false := hN.frozen 4
              refine ⟨w9.setCell ⟨g, 4, none⟩ (.int .u64 mx), ?_, SeqN.set_ [9, 21, 24] [] hSh hAt hDn (by kernel_rfl) (by decide) (by decide) ⟨hch.grown hg2 (fun k e => .inl (by injection e with e; exact e.symm)), A2, c2, hv, ?_, hN2⟩⟩
              · clear hv ho hN hN2 hg2 hch hS
                go_simp
              · exact Lay.own_same ho (fun k e => hg2.block k (Lay.own_base ho k e).2 (fun e2 => by injection e2 with e2; have := (Lay.own_base ho k e).1; omega)) (fun b hb _ hl => hg2.block b hl (fun e2 => by injection e2 with e2; exact hb.elim (fun h => by have := HFR.out b h; omega) (fun h => by omega)))
             try simp only [Act.put]
             refine Ps.done (by kernel_rfl) (fun w91 hS => ?_) _
             obtain ⟨hch, A3, c3, hv, ho, hN⟩ := SeqN.fin (by rfl) hS
             clear hS
             obtain ⟨rfl, rfl⟩ : A2 = A3 ∧ c2 = c3 := by have h9 : Value.slice A2 (n - kk) c2 = .slice A3 (n - kk) c3 := hv; simpa using h9
             clear hv
             have HCH := Lib.hid hch
             have HOO := Lib.hid ho
             have HNN := Lib.hid hN
             clear hch ho hN
             obtain ⟨wa, rfl⟩ : ∃ x, x = w91 := ⟨_, rfl⟩
             generalize (if c = kk then A else Option.map (fun x => x.add (kk * 3)) A) = AQ
             by_cases hk0 : 0 < kk
             · have d4 : decide ((0 : Int) < (kk : Int)) = true := by simp; omega
               go_wp2_with fail
               refine wp_region_ps (S := fun _ _ w' => Below wa.heap.size wa w') (by kernel_rfl) ?spsw119 ?ppsw119
               case spsw119 =>
                exact (Below.refl _ _).drew
               refine Pz 0 (some 78) _ rfl rfl (StepS.pure (fun _ _ _ h => h) rfl fun w9 => by go_simp; try rfl) ?_
               try simp only [Act.put, sA, sZ, sS]
               refine Pz 1 (some 79) _ rfl rfl (StepS.pure (fun _ _ _ h => h) rfl fun w9 => by go_simp; try rfl) ?_
               try simp only [Act.put, sA, sZ, sS]
               refine Pz 2 (some 80) _ rfl rfl (StepS.pure (fun _ _ _ h => h) rfl fun w9 => by go_simp; try rfl) ?_
               try simp only [Act.put, sA, sZ, sS]
               refine Pz 3 (some 81) undef rfl rfl (StepS.skip (fun _ _ _ h => h) rfl) ?_
               try simp only [Act.put, sA, sZ, sS]
               refine Pz 4 (some 82) undef rfl rfl (StepS.skip (fun _ _ _ h => h) rfl) ?_
               try simp only [Act.put, sA, sZ, sS]
               refine Pz 5 (some 83) undef rfl rfl (StepS.skip (fun _ _ _ h => h) rfl) ?_
               try simp only [Act.put, sA, sZ, sS]
               refine Pz 6 (some 84) undef rfl rfl (StepS.skip (fun _ _ _ h => h) rfl) ?_
               try simp only [Act.put, sA, sZ, sS]
               refine Pz 7 (some 85) undef rfl rfl (StepS.skip (fun _ _ _ h => h) rfl) ?_
               try simp only [Act.put, sA, sZ, sS]
               refine Pz 8 (some 86) undef rfl rfl (StepS.skip (fun _ _ _ h => h) rfl) ?_
               try simp only [Act.put, sA, sZ, sS]
               refine Pz 9 (some 87) undef rfl rfl (StepS.skip (fun _ _ _ h => h) rfl) ?_
               try simp only [Act.put, sA, sZ, sS]
               refine Pz 10 (some 88) undef rfl rfl (StepS.skip (fun _ _ _ h => h) rfl) ?_
               try simp only [Act.put, sA, sZ, sS]
               refine Pz 11 (some 89) undef rfl rfl (StepS.skip (fun _ _ _ h => h) rfl) ?_
               try simp only [Act.put, sA, sZ, sS]
               refine Pz 12 (some 90) _ rfl rfl (StepS.pure (fun _ _ _ h => h) rfl fun w9 => by go_simp; try rfl) ?_
               try simp only [Act.put, sA, sZ, sS]
               refine Ps.done (by kernel_rfl) (fun w119 hS => ?_) _
               have HQ9 := Lib.hid (show Below wa.heap.size wa _ from hS)
               clear hS
               obtain ⟨wb, rfl⟩ : ∃ x, x = w119 := ⟨_, rfl⟩
               have hs9 := HQ9.out.size
               have HN9 := Lib.hid (HNN.out.ca HQ9.out)
               have HO9 := Lib.hid (Lay.own_below HOO.out HQ9.out)
               have HC9 := Lib.hid (HCH.out.trans (Chg.of_below HQ9.out))
               clear HNN HOO HCH
               have y5 : wb.cell? ⟨g, 5, none⟩ = some (.int .i64 timer) := HN9.out.cell 5
               have f5 : wb.frozen? ⟨g, 5, none⟩ = false := HN9.out.frozen 5
               have hg9 : wb.grownBy (wb.setCell ⟨g, 5, none⟩ (.int .i64 0)) (some g) := only_setCell (World.grownBy.refl _ _) (.inl rfl) _
               have HG9 := Lib.hid hg9
               have HN10 := Lib.hid (show Blk (wb.setCell ⟨g, 5, none⟩ (.int .i64 0)) g 29 #[.int .u32 ses, .int .u64 seq, .slice A2 (n - kk) c2, .int .u64 sent, .int .u64 mx, .int .i64 0, .bool ended] from by simpa using HN9.out.set_ 5 (.int .i64 0))
               have ho9 := HO9.out
               have HO10 := Lib.hid (Lay.own_same ho9 (fun k e => hg9.block k (Lay.own_base ho9 k e).2 (fun e2 => by injection e2 with e2; have := (Lay.own_base ho9 k e).1; omega)) (fun b hb _ hl => hg9.block b hl (fun e2 => by injection e2 with e2; exact hb.elim (fun h => by have := HFR.out b h; omega) (fun h => by omega))))
               clear hg9 ho9
               go_wp2
               go_ret
               exact acked_yes HYES.out rfl (bl_ca HQ.out HQ8.out) (HC9.out.grown HG9.out (fun k e => .inl (by injection e with e; exact e.symm))) HN10.out HO10.out HKK.out HMX.out (if_pos (by rw [HKK.out]; omega)).symm
             · have d4 : decide ((0 : Int) < (kk : Int)) = false := by simp; omega
               by_cases hss : sent < seq
               · have d5 : decide (sent < seq) = true := by simp; omega
                 go_wp2_with fail
                 refine wp_region_ps (S := fun _ _ w' => Below wa.heap.size wa w') (by kernel_rfl) ?spsw132 ?ppsw132
                 case spsw132 =>
                  exact (Below.refl _ _).drew
                 refine Pz 0 (some 78) _ rfl rfl (StepS.pure (fun _ _ _ h => h) rfl fun w9 => by go_simp; try rfl) ?_
                 try simp only [Act.put, sA, sZ, sS]
                 refine Pz 1 (some 79) _ rfl rfl (StepS.pure (fun _ _ _ h => h) rfl fun w9 => by go_simp; try rfl) ?_
                 try simp only [Act.put, sA, sZ, sS]
                 refine Pz 2 (some 80) _ rfl rfl (StepS.pure (fun _ _ _ h => h) rfl fun w9 => by go_simp; try rfl) ?_
                 try simp only [Act.put, sA, sZ, sS]
                 refine Pz 3 (some 81) _ rfl rfl (StepS.pure (fun _ _ _ h => h) rfl fun w9 => by go_simp; try rfl) ?_
                 try simp only [Act.put, sA, sZ, sS]
                 refine Pz 4 (some 82) _ rfl rfl (StepS.pure (fun _ _ _ h => h) rfl fun w9 => by go_simp; try rfl) ?_
                 try simp only [Act.put, sA, sZ, sS]
                 refine Pz 5 (some 83) _ rfl rfl (StepS.pure (fun _ _ _ h => h) rfl fun w9 => by go_simp; try rfl) ?_
                 try simp only [Act.put, sA, sZ, sS]
                 refine Pz 6 (some 84) ?uw132_138 rfl rfl ?yw132_138 ?rw132_138
                 case yw132_138 =>
                  refine StepS.read [] (by kernel_rfl) (fun _ _ _ h => h) (by rfl) (fun L9 m9 w9 hSh hAt hDn hS => ?_)
                  have hT : Below _ _ w9 := hS
                  have x3 : w9.cell? ⟨g, 3, none⟩ = some (.int .u64 sent) := (HNN.out.ca hT).cell 3
                  clear hT hS
                  go_simp
                  try rfl
                 try simp only [Act.put, sA, sZ, sS]
                 refine Pz 7 (some 85) _ rfl rfl (StepS.pure (fun _ _ _ h => h) rfl fun w9 => by go_simp; try rfl) ?_
                 try simp only [Act.put, sA, sZ, sS]
                 refine Pz 8 (some 86) _ rfl rfl (StepS.pure (fun _ _ _ h => h) rfl fun w9 => by go_simp; try rfl) ?_
                 try simp only [Act.put, sA, sZ, sS]
                 refine Pz 9 (some 87) _ rfl rfl (StepS.pure (fun _ _ _ h => h) rfl fun w9 => by go_simp; try rfl) ?_
                 try simp only [Act.put, sA, sZ, sS]
                 refine Pz 10 (some 88) ?uw132_142 rfl rfl ?yw132_142 ?rw132_142
                 case yw132_142 =>
                  refine StepS.read [] (by kernel_rfl) (fun _ _ _ h => h) (by rfl) (fun L9 m9 w9 hSh hAt hDn hS => ?_)
                  have hT : Below _ _ w9 := hS
                  have x1 : w9.cell? ⟨g, 1, none⟩ = some (.int .u64 seq) := (HNN.out.ca hT).cell 1
                  clear hT hS
                  go_simp
                  try rfl
                 try simp only [Act.put, sA, sZ, sS]
                 refine Pz 11 (some 89) _ rfl rfl (StepS.pure (fun _ _ _ h => h) rfl fun w9 => by go_simp; try rfl) ?_
                 try simp only [Act.put, sA, sZ, sS]
                 refine Pz 12 (some 90) _ rfl rfl (StepS.pure (fun _ _ _ h => h) rfl fun w9 => by go_simp; try rfl) ?_
                 try simp only [Act.put, sA, sZ, sS]
                 refine Ps.done (by kernel_rfl) (fun w132 hS => ?_) _
                 have HQ9 := Lib.hid (show Below wa.heap.size wa _ from hS)
                 clear hS
                 obtain ⟨wb, rfl⟩ : ∃ x, x = w132 := ⟨_, rfl⟩
                 have hs9 := HQ9.out.size
                 have HN9 := Lib.hid (HNN.out.ca HQ9.out)
                 have HO9 := Lib.hid (Lay.own_below HOO.out HQ9.out)
                 have HC9 := Lib.hid (HCH.out.trans (Chg.of_below HQ9.out))
                 clear HNN HOO HCH
                 have y5 : wb.cell? ⟨g, 5, none⟩ = some (.int .i64 timer) := HN9.out.cell 5
                 have f5 : wb.frozen? ⟨g, 5, none⟩ = false := HN9.out.frozen 5
                 have hg9 : wb.grownBy (wb.setCell ⟨g, 5, none⟩ (.int .i64 0)) (some g) := only_setCell (World.grownBy.refl _ _) (.inl rfl) _
                 have HG9 := Lib.hid hg9
                 have HN10 := Lib.hid (show Blk (wb.setCell ⟨g, 5, none⟩ (.int .i64 0)) g 29 #[.int .u32 ses, .int .u64 seq, .slice A2 (n - kk) c2, .int .u64 sent, .int .u64 mx, .int .i64 0, .bool ended] from by simpa using HN9.out.set_ 5 (.int .i64 0))
                 have ho9 := HO9.out
                 have HO10 := Lib.hid (Lay.own_same ho9 (fun k e => hg9.block k (Lay.own_base ho9 k e).2 (fun e2 => by injection e2 with e2; have := (Lay.own_base ho9 k e).1; omega)) (fun b hb _ hl => hg9.block b hl (fun e2 => by injection e2 with e2; exact hb.elim (fun h => by have := HFR.out b h; omega) (fun h => by omega))))
                 clear hg9 ho9
                 go_wp2
                 go_ret
                 exact acked_yes HYES.out rfl (bl_ca HQ.out HQ8.out) (HC9.out.grown HG9.out (fun k e => .inl (by injection e with e; exact e.symm))) HN10.out HO10.out HKK.out HMX.out (if_pos (by rw [HKK.out]; omega)).symm
               · have d5 : decide (sent < seq) = false := by simp; omega
                 go_wp2_with fail
                 refine wp_region_ps (S := fun _ _ w' => Below wa.heap.size wa w') (by kernel_rfl) ?spsw145 ?ppsw145
                 case spsw145 =>
                  exact (Below.refl _ _).drew
                 refine Pz 0 (some 78) _ rfl rfl (StepS.pure (fun _ _ _ h => h) rfl fun w9 => by go_simp; try rfl) ?_
                 try simp only [Act.put, sA, sZ, sS]
                 refine Pz 1 (some 79) _ rfl rfl (StepS.pure (fun _ _ _ h => h) rfl fun w9 => by go_simp; try rfl) ?_
                 try simp only [Act.put, sA, sZ, sS]
                 refine Pz 2 (some 80) _ rfl rfl (StepS.pure (fun _ _ _ h => h) rfl fun w9 => by go_simp; try rfl) ?_
                 try simp only [Act.put, sA, sZ, sS]
                 refine Pz 3 (some 81) _ rfl rfl (StepS.pure (fun _ _ _ h => h) rfl fun w9 => by go_simp; try rfl) ?_
                 try simp only [Act.put, sA, sZ, sS]
                 refine Pz 4 (some 82) _ rfl rfl (StepS.pure (fun _ _ _ h => h) rfl fun w9 => by go_simp; try rfl) ?_
                 try simp only [Act.put, sA, sZ, sS]
                 refine Pz 5 (some 83) _ rfl rfl (StepS.pure (fun _ _ _ h => h) rfl fun w9 => by go_simp; try rfl) ?_
                 try simp only [Act.put, sA, sZ, sS]
                 refine Pz 6 (some 84) ?uw145_151 rfl rfl ?yw145_151 ?rw145_151
                 case yw145_151 =>
                  refine StepS.read [] (by kernel_rfl) (fun _ _ _ h => h) (by rfl) (fun L9 m9 w9 hSh hAt hDn hS => ?_)
                  have hT : Below _ _ w9 := hS
                  have x3 : w9.cell? ⟨g, 3, none⟩ = some (.int .u64 sent) := (HNN.out.ca hT).cell 3
                  clear hT hS
                  go_simp
                  try rfl
                 try simp only [Act.put, sA, sZ, sS]
                 refine Pz 7 (some 85) _ rfl rfl (StepS.pure (fun _ _ _ h => h) rfl fun w9 => by go_simp; try rfl) ?_
                 try simp only [Act.put, sA, sZ, sS]
                 refine Pz 8 (some 86) _ rfl rfl (StepS.pure (fun _ _ _ h => h) rfl fun w9 => by go_simp; try rfl) ?_
                 try simp only [Act.put, sA, sZ, sS]
                 refine Pz 9 (some 87) _ rfl rfl (StepS.pure (fun _ _ _ h => h) rfl fun w9 => by go_simp; try rfl) ?_
                 try simp only [Act.put, sA, sZ, sS]
                 refine Pz 10 (some 88) ?uw145_155 rfl rfl ?yw145_155 ?rw145_155
                 case yw145_155 =>
                  refine StepS.read [] (by kernel_rfl) (fun _ _ _ h => h) (by rfl) (fun L9 m9 w9 hSh hAt hDn hS => ?_)
                  have hT : Below _ _ w9 := hS
                  have x1 : w9.cell? ⟨g, 1, none⟩ = some (.int .u64 seq) := (HNN.out.ca hT).cell 1
                  clear hT hS
                  go_simp
                  try rfl
                 try simp only [Act.put, sA, sZ, sS]
                 refine Pz 11 (some 89) _ rfl rfl (StepS.pure (fun _ _ _ h => h) rfl fun w9 => by go_simp; try rfl) ?_
                 try simp only [Act.put, sA, sZ, sS]
                 refine Pz 12 (some 90) _ rfl rfl (StepS.pure (fun _ _ _ h => h) rfl fun w9 => by go_simp; try rfl) ?_
                 try simp only [Act.put, sA, sZ, sS]
                 refine Ps.done (by kernel_rfl) (fun w145 hS => ?_) _
                 have HQ9 := Lib.hid (show Below wa.heap.size wa _ from hS)
                 clear hS
                 obtain ⟨wb, rfl⟩ : ∃ x, x = w145 := ⟨_, rfl⟩
                 have hs9 := HQ9.out.size
                 have HN9 := Lib.hid (HNN.out.ca HQ9.out)
                 have HO9 := Lib.hid (Lay.own_below HOO.out HQ9.out)
                 have HC9 := Lib.hid (HCH.out.trans (Chg.of_below HQ9.out))
                 clear HNN HOO HCH
                 go_wp2
                 go_ret
                 exact acked_yes HYES.out rfl (bl_ca HQ.out HQ8.out) HC9.out HN9.out HO9.out HKK.out HMX.out (if_neg (by rw [HKK.out]; omega)).symm
           · have d3 : decide ((1099511627776 : Int) < seq) = true := by simp; omega
             have HNO := Lib.hid (show ackedB ⟨ses, base, q, sent, lim, timer, ended⟩ ⟨2, ses, seq, plim, ⟨rows, pfin, pcnt⟩⟩ = false from by unfold ackedB; simp [c3])
             go_enter Try.func82, Try.ntmps82
             go_wp2_with fail
             refine wp_region_ps (S := fun _ _ w' => Below w.heap.size w w') (by kernel_rfl) ?spsw158 ?ppsw158
             case spsw158 =>
              exact (Below.refl _ _).drew
             refine Pz 0 (some 5) ?uw158_158 rfl rfl ?yw158_158 ?rw158_158
             case yw158_158 =>
              refine StepS.read [] (by kernel_rfl) (fun _ _ _ h => h) (by rfl) (fun L9 m9 w9 hSh hAt hDn hS => ?_)
              have hT : Below _ _ w9 := hS
              have x0 : w9.cell? ⟨p, 0, none⟩ = some (.int .i64 2) := (HP.out.ca hT).cell 0
              have x1 : w9.cell? ⟨p, 1, none⟩ = some (.int .u32 ses) := (HP.out.ca hT).cell 1
              have x2 : w9.cell? ⟨p, 2, none⟩ = some (.int .u64 seq) := (HP.out.ca hT).cell 2
              have x3 : w9.cell? ⟨p, 3, none⟩ = some (.int .u64 plim) := (HP.out.ca hT).cell 3
              have x4 : w9.cell? ⟨p, 4, none⟩ = some (.slice pA pn pc) := (HP.out.ca hT).cell 4
              have x5 : w9.cell? ⟨p, 5, none⟩ = some (.bool pfin) := (HP.out.ca hT).cell 5
              have x6 : w9.cell? ⟨p, 6, none⟩ = some (.int .u64 pcnt) := (HP.out.ca hT).cell 6
              clear hT hS
              go_simp
              try rfl
             try simp only [Act.put, sA, sZ, sS]
             refine Pz 1 (some 6) (.int .i64 0) rfl rfl ?yw158_159 ?rw158_159
             case yw158_159 =>
              refine StepS.call ?fw158_159 ?aw158_159 [] (by kernel_rfl) (by rfl) (fun w9 => ?hw158_159) (fun L9 m9 w9 hSh hAt hDn hS => ?cw158_159)
              case hw158_159 => go_simp; refine ⟨?_, ?_⟩ <;> rfl
              case cw158_159 =>
               have hT : Below _ _ w9 := hS
               refine (checkp_any _ ⟨2, ses, seq, plim, ⟨rows, pfin, pcnt⟩⟩ pA pn pc w9 (Lay.rd_below HR.out hT) hpn).mono ?_
               rintro e w8 ⟨rfl, q8⟩
               exact ⟨by rw [HCP.out]; rfl, bl_ca hT q8⟩
             try simp only [Act.put, sA, sZ, sS]
             refine Pz 2 (some 7) _ rfl rfl (StepS.pure (fun _ _ _ h => h) rfl fun w9 => by go_simp; try rfl) ?_
             try simp only [Act.put, sA, sZ, sS]
             refine Pz 3 (some 8) _ rfl rfl (StepS.pure (fun _ _ _ h => h) rfl fun w9 => by go_simp; try rfl) ?_
             try simp only [Act.put, sA, sZ, sS]
             refine Pz 4 (some 9) _ rfl rfl (StepS.pure (fun _ _ _ h => h) rfl fun w9 => by go_simp; try rfl) ?_
             try simp only [Act.put, sA, sZ, sS]
             refine Pz 5 (some 10) ?uw158_163 rfl rfl ?yw158_163 ?rw158_163
             case yw158_163 =>
              refine StepS.read [] (by kernel_rfl) (fun _ _ _ h => h) (by rfl) (fun L9 m9 w9 hSh hAt hDn hS => ?_)
              have hT : Below _ _ w9 := hS
              have x0 : w9.cell? ⟨p, 0, none⟩ = some (.int .i64 2) := (HP.out.ca hT).cell 0
              clear hT hS
              go_simp
              try rfl
             try simp only [Act.put, sA, sZ, sS]
             refine Pz 6 (some 11) _ rfl rfl (StepS.pure (fun _ _ _ h => h) rfl fun w9 => by go_simp; try rfl) ?_
             try simp only [Act.put, sA, sZ, sS]
             refine Pz 7 (some 12) _ rfl rfl (StepS.pure (fun _ _ _ h => h) rfl fun w9 => by go_simp; try rfl) ?_
             try simp only [Act.put, sA, sZ, sS]
             refine Pz 8 (some 13) _ rfl rfl (StepS.pure (fun _ _ _ h => h) rfl fun w9 => by go_simp; try rfl) ?_
             try simp only [Act.put, sA, sZ, sS]
             refine Pz 9 (some 14) _ rfl rfl (StepS.pure (fun _ _ _ h => h) rfl fun w9 => by go_simp; try rfl) ?_
             try simp only [Act.put, sA, sZ, sS]
             refine Pz 10 (some 15) ?uw158_168 rfl rfl ?yw158_168 ?rw158_168
             case yw158_168 =>
              refine StepS.read [] (by kernel_rfl) (fun _ _ _ h => h) (by rfl) (fun L9 m9 w9 hSh hAt hDn hS => ?_)
              have hT : Below _ _ w9 := hS
              have x1 : w9.cell? ⟨p, 1, none⟩ = some (.int .u32 ses) := (HP.out.ca hT).cell 1
              clear hT hS
              go_simp
              try rfl
             try simp only [Act.put, sA, sZ, sS]
             refine Pz 11 (some 16) _ rfl rfl (StepS.pure (fun _ _ _ h => h) rfl fun w9 => by go_simp; try rfl) ?_
             try simp only [Act.put, sA, sZ, sS]
             refine Pz 12 (some 17) _ rfl rfl (StepS.pure (fun _ _ _ h => h) rfl fun w9 => by go_simp; try rfl) ?_
             try simp only [Act.put, sA, sZ, sS]
             refine Pz 13 (some 18) _ rfl rfl (StepS.pure (fun _ _ _ h => h) rfl fun w9 => by go_simp; try rfl) ?_
             try simp only [Act.put, sA, sZ, sS]
             refine Pz 14 (some 19) ?uw158_172 rfl rfl ?yw158_172 ?rw158_172
             case yw158_172 =>
              refine StepS.read [] (by kernel_rfl) (fun _ _ _ h => h) (by rfl) (fun L9 m9 w9 hSh hAt hDn hS => ?_)
              have hT : Below _ _ w9 := hS
              have y0 : w9.cell? ⟨g, 0, none⟩ = some (.int .u32 ses) := (HN.out.ca hT).cell 0
              clear hT hS
              go_simp
              try rfl
             try simp only [Act.put, sA, sZ, sS]
             refine Pz 15 (some 20) _ rfl rfl (StepS.pure (fun _ _ _ h => h) rfl fun w9 => by go_simp; try rfl) ?_
             try simp only [Act.put, sA, sZ, sS]
             refine Pz 16 (some 21) _ rfl rfl (StepS.pure (fun _ _ _ h => h) rfl fun w9 => by go_simp; try rfl) ?_
             try simp only [Act.put, sA, sZ, sS]
             refine Pz 17 (some 22) _ rfl rfl (StepS.pure (fun _ _ _ h => h) rfl fun w9 => by go_simp; try rfl) ?_
             try simp only [Act.put, sA, sZ, sS]
             refine Pz 18 (some 23) _ rfl rfl (StepS.pure (fun _ _ _ h => h) rfl fun w9 => by go_simp; try rfl) ?_
             try simp only [Act.put, sA, sZ, sS]
             refine Pz 19 (some 24) ?uw158_177 rfl rfl ?yw158_177 ?rw158_177
             case yw158_177 =>
              refine StepS.read [] (by kernel_rfl) (fun _ _ _ h => h) (by rfl) (fun L9 m9 w9 hSh hAt hDn hS => ?_)
              have hT : Below _ _ w9 := hS
              have x2 : w9.cell? ⟨p, 2, none⟩ = some (.int .u64 seq) := (HP.out.ca hT).cell 2
              clear hT hS
              go_simp
              try rfl
             try simp only [Act.put, sA, sZ, sS]
             refine Pz 20 (some 25) _ rfl rfl (StepS.pure (fun _ _ _ h => h) rfl fun w9 => by go_simp; try rfl) ?_
             try simp only [Act.put, sA, sZ, sS]
             refine Pz 21 (some 26) _ rfl rfl (StepS.pure (fun _ _ _ h => h) rfl fun w9 => by go_simp; try rfl) ?_
             try simp only [Act.put, sA, sZ, sS]
             refine Pz 22 (some 27) _ rfl rfl (StepS.pure (fun _ _ _ h => h) rfl fun w9 => by go_simp; try rfl) ?_
             try simp only [Act.put, sA, sZ, sS]
             refine Pz 23 (some 28) ?uw158_181 rfl rfl ?yw158_181 ?rw158_181
             case yw158_181 =>
              refine StepS.read [] (by kernel_rfl) (fun _ _ _ h => h) (by rfl) (fun L9 m9 w9 hSh hAt hDn hS => ?_)
              have hT : Below _ _ w9 := hS
              have y1 : w9.cell? ⟨g, 1, none⟩ = some (.int .u64 base) := (HN.out.ca hT).cell 1
              clear hT hS
              go_simp
              try rfl
             try simp only [Act.put, sA, sZ, sS]
             refine Pz 24 (some 29) _ rfl rfl (StepS.pure (fun _ _ _ h => h) rfl fun w9 => by go_simp; try rfl) ?_
             try simp only [Act.put, sA, sZ, sS]
             refine Pz 25 (some 30) _ rfl rfl (StepS.pure (fun _ _ _ h => h) rfl fun w9 => by go_simp; try rfl) ?_
             try simp only [Act.put, sA, sZ, sS]
             refine Pz 26 (some 31) _ rfl rfl (StepS.pure (fun _ _ _ h => h) rfl fun w9 => by go_simp; try rfl) ?_
             try simp only [Act.put, sA, sZ, sS]
             refine Pz 27 (some 32) _ rfl rfl (StepS.pure (fun _ _ _ h => h) rfl fun w9 => by go_simp; try rfl) ?_
             try simp only [Act.put, sA, sZ, sS]
             refine Pz 28 (some 33) ?uw158_186 rfl rfl ?yw158_186 ?rw158_186
             case yw158_186 =>
              refine StepS.read [] (by kernel_rfl) (fun _ _ _ h => h) (by rfl) (fun L9 m9 w9 hSh hAt hDn hS => ?_)
              have hT : Below _ _ w9 := hS
              have x2 : w9.cell? ⟨p, 2, none⟩ = some (.int .u64 seq) := (HP.out.ca hT).cell 2
              clear hT hS
              go_simp
              try rfl
             try simp only [Act.put, sA, sZ, sS]
             refine Pz 29 (some 34) _ rfl rfl (StepS.pure (fun _ _ _ h => h) rfl fun w9 => by go_simp; try rfl) ?_
             try simp only [Act.put, sA, sZ, sS]
             refine Pz 30 (some 35) _ rfl rfl (StepS.pure (fun _ _ _ h => h) rfl fun w9 => by go_simp; try rfl) ?_
             try simp only [Act.put, sA, sZ, sS]
             refine Pz 31 (some 36) _ rfl rfl (StepS.pure (fun _ _ _ h => h) rfl fun w9 => by go_simp; try rfl) ?_
             try simp only [Act.put, sA, sZ, sS]
             refine Pz 32 (some 37) ?uw158_190 rfl rfl ?yw158_190 ?rw158_190
             case yw158_190 =>
              refine StepS.read [] (by kernel_rfl) (fun _ _ _ h => h) (by rfl) (fun L9 m9 w9 hSh hAt hDn hS => ?_)
              have hT : Below _ _ w9 := hS
              have y3 : w9.cell? ⟨g, 3, none⟩ = some (.int .u64 sent) := (HN.out.ca hT).cell 3
              clear hT hS
              go_simp
              try rfl
             try simp only [Act.put, sA, sZ, sS]
             refine Pz 33 (some 38) _ rfl rfl (StepS.pure (fun _ _ _ h => h) rfl fun w9 => by go_simp; try rfl) ?_
             try simp only [Act.put, sA, sZ, sS]
             refine Pz 34 (some 39) _ rfl rfl (StepS.pure (fun _ _ _ h => h) rfl fun w9 => by go_simp; try rfl) ?_
             try simp only [Act.put, sA, sZ, sS]
             refine Pz 35 (some 40) _ rfl rfl (StepS.pure (fun _ _ _ h => h) rfl fun w9 => by go_simp; try rfl) ?_
             try simp only [Act.put, sA, sZ, sS]
             refine Pz 36 (some 41) _ rfl rfl (StepS.pure (fun _ _ _ h => h) rfl fun w9 => by go_simp; try rfl) ?_
             try simp only [Act.put, sA, sZ, sS]
             refine Pz 37 (some 42) _ rfl rfl (StepS.pure (fun _ _ _ h => h) rfl fun w9 => by go_simp; try rfl) ?_
             try simp only [Act.put, sA, sZ, sS]
             refine Pz 38 (some 43) ?uw158_196 rfl rfl ?yw158_196 ?rw158_196
             case yw158_196 =>
              refine StepS.read [] (by kernel_rfl) (fun _ _ _ h => h) (by rfl) (fun L9 m9 w9 hSh hAt hDn hS => ?_)
              have hT : Below _ _ w9 := hS
              have x2 : w9.cell? ⟨p, 2, none⟩ = some (.int .u64 seq) := (HP.out.ca hT).cell 2
              clear hT hS
              go_simp
              try rfl
             try simp only [Act.put, sA, sZ, sS]
             refine Pz 39 (some 44) _ rfl rfl (StepS.pure (fun _ _ _ h => h) rfl fun w9 => by go_simp; try rfl) ?_
             try simp only [Act.put, sA, sZ, sS]
             refine Pz 40 (some 45) _ rfl rfl (StepS.pure (fun _ _ _ h => h) rfl fun w9 => by go_simp; try rfl) ?_
             try simp only [Act.put, sA, sZ, sS]
             refine Ps.done (by kernel_rfl) (fun w158 hS => ?_) _
             have HQ := Lib.hid (show Below w.heap.size w _ from hS)
             clear hS
             obtain ⟨w7, rfl⟩ : ∃ x, x = w158 := ⟨_, rfl⟩
             go_wp2
             go_ret
             exact acked_no HNO.out rfl HQ.out HN.out HO.out
         · have d2 : decide (sent + 1 < seq) = true := by simp; omega
           have HNO := Lib.hid (show ackedB ⟨ses, base, q, sent, lim, timer, ended⟩ ⟨2, ses, seq, plim, ⟨rows, pfin, pcnt⟩⟩ = false from by unfold ackedB; simp [c2])
           go_enter Try.func82, Try.ntmps82
           go_wp2_with fail
           refine wp_region_ps (S := fun _ _ w' => Below w.heap.size w w') (by kernel_rfl) ?spsw199 ?ppsw199
           case spsw199 =>
            exact (Below.refl _ _).drew
           refine Pz 0 (some 5) ?uw199_199 rfl rfl ?yw199_199 ?rw199_199
           case yw199_199 =>
            refine StepS.read [] (by kernel_rfl) (fun _ _ _ h => h) (by rfl) (fun L9 m9 w9 hSh hAt hDn hS => ?_)
            have hT : Below _ _ w9 := hS
            have x0 : w9.cell? ⟨p, 0, none⟩ = some (.int .i64 2) := (HP.out.ca hT).cell 0
            have x1 : w9.cell? ⟨p, 1, none⟩ = some (.int .u32 ses) := (HP.out.ca hT).cell 1
            have x2 : w9.cell? ⟨p, 2, none⟩ = some (.int .u64 seq) := (HP.out.ca hT).cell 2
            have x3 : w9.cell? ⟨p, 3, none⟩ = some (.int .u64 plim) := (HP.out.ca hT).cell 3
            have x4 : w9.cell? ⟨p, 4, none⟩ = some (.slice pA pn pc) := (HP.out.ca hT).cell 4
            have x5 : w9.cell? ⟨p, 5, none⟩ = some (.bool pfin) := (HP.out.ca hT).cell 5
            have x6 : w9.cell? ⟨p, 6, none⟩ = some (.int .u64 pcnt) := (HP.out.ca hT).cell 6
            clear hT hS
            go_simp
            try rfl
           try simp only [Act.put, sA, sZ, sS]
           refine Pz 1 (some 6) (.int .i64 0) rfl rfl ?yw199_200 ?rw199_200
           case yw199_200 =>
            refine StepS.call ?fw199_200 ?aw199_200 [] (by kernel_rfl) (by rfl) (fun w9 => ?hw199_200) (fun L9 m9 w9 hSh hAt hDn hS => ?cw199_200)
            case hw199_200 => go_simp; refine ⟨?_, ?_⟩ <;> rfl
            case cw199_200 =>
             have hT : Below _ _ w9 := hS
             refine (checkp_any _ ⟨2, ses, seq, plim, ⟨rows, pfin, pcnt⟩⟩ pA pn pc w9 (Lay.rd_below HR.out hT) hpn).mono ?_
             rintro e w8 ⟨rfl, q8⟩
             exact ⟨by rw [HCP.out]; rfl, bl_ca hT q8⟩
           try simp only [Act.put, sA, sZ, sS]
           refine Pz 2 (some 7) _ rfl rfl (StepS.pure (fun _ _ _ h => h) rfl fun w9 => by go_simp; try rfl) ?_
           try simp only [Act.put, sA, sZ, sS]
           refine Pz 3 (some 8) _ rfl rfl (StepS.pure (fun _ _ _ h => h) rfl fun w9 => by go_simp; try rfl) ?_
           try simp only [Act.put, sA, sZ, sS]
           refine Pz 4 (some 9) _ rfl rfl (StepS.pure (fun _ _ _ h => h) rfl fun w9 => by go_simp; try rfl) ?_
           try simp only [Act.put, sA, sZ, sS]
           refine Pz 5 (some 10) ?uw199_204 rfl rfl ?yw199_204 ?rw199_204
           case yw199_204 =>
            refine StepS.read [] (by kernel_rfl) (fun _ _ _ h => h) (by rfl) (fun L9 m9 w9 hSh hAt hDn hS => ?_)
            have hT : Below _ _ w9 := hS
            have x0 : w9.cell? ⟨p, 0, none⟩ = some (.int .i64 2) := (HP.out.ca hT).cell 0
            clear hT hS
            go_simp
            try rfl
           try simp only [Act.put, sA, sZ, sS]
           refine Pz 6 (some 11) _ rfl rfl (StepS.pure (fun _ _ _ h => h) rfl fun w9 => by go_simp; try rfl) ?_
           try simp only [Act.put, sA, sZ, sS]
           refine Pz 7 (some 12) _ rfl rfl (StepS.pure (fun _ _ _ h => h) rfl fun w9 => by go_simp; try rfl) ?_
           try simp only [Act.put, sA, sZ, sS]
           refine Pz 8 (some 13) _ rfl rfl (StepS.pure (fun _ _ _ h => h) rfl fun w9 => by go_simp; try rfl) ?_
           try simp only [Act.put, sA, sZ, sS]
           refine Pz 9 (some 14) _ rfl rfl (StepS.pure (fun _ _ _ h => h) rfl fun w9 => by go_simp; try rfl) ?_
           try simp only [Act.put, sA, sZ, sS]
           refine Pz 10 (some 15) ?uw199_209 rfl rfl ?yw199_209 ?rw199_209
           case yw199_209 =>
            refine StepS.read [] (by kernel_rfl) (fun _ _ _ h => h) (by rfl) (fun L9 m9 w9 hSh hAt hDn hS => ?_)
            have hT : Below _ _ w9 := hS
            have x1 : w9.cell? ⟨p, 1, none⟩ = some (.int .u32 ses) := (HP.out.ca hT).cell 1
            clear hT hS
            go_simp
            try rfl
           try simp only [Act.put, sA, sZ, sS]
           refine Pz 11 (some 16) _ rfl rfl (StepS.pure (fun _ _ _ h => h) rfl fun w9 => by go_simp; try rfl) ?_
           try simp only [Act.put, sA, sZ, sS]
           refine Pz 12 (some 17) _ rfl rfl (StepS.pure (fun _ _ _ h => h) rfl fun w9 => by go_simp; try rfl) ?_
           try simp only [Act.put, sA, sZ, sS]
           refine Pz 13 (some 18) _ rfl rfl (StepS.pure (fun _ _ _ h => h) rfl fun w9 => by go_simp; try rfl) ?_
           try simp only [Act.put, sA, sZ, sS]
           refine Pz 14 (some 19) ?uw199_213 rfl rfl ?yw199_213 ?rw199_213
           case yw199_213 =>
            refine StepS.read [] (by kernel_rfl) (fun _ _ _ h => h) (by rfl) (fun L9 m9 w9 hSh hAt hDn hS => ?_)
            have hT : Below _ _ w9 := hS
            have y0 : w9.cell? ⟨g, 0, none⟩ = some (.int .u32 ses) := (HN.out.ca hT).cell 0
            clear hT hS
            go_simp
            try rfl
           try simp only [Act.put, sA, sZ, sS]
           refine Pz 15 (some 20) _ rfl rfl (StepS.pure (fun _ _ _ h => h) rfl fun w9 => by go_simp; try rfl) ?_
           try simp only [Act.put, sA, sZ, sS]
           refine Pz 16 (some 21) _ rfl rfl (StepS.pure (fun _ _ _ h => h) rfl fun w9 => by go_simp; try rfl) ?_
           try simp only [Act.put, sA, sZ, sS]
           refine Pz 17 (some 22) _ rfl rfl (StepS.pure (fun _ _ _ h => h) rfl fun w9 => by go_simp; try rfl) ?_
           try simp only [Act.put, sA, sZ, sS]
           refine Pz 18 (some 23) _ rfl rfl (StepS.pure (fun _ _ _ h => h) rfl fun w9 => by go_simp; try rfl) ?_
           try simp only [Act.put, sA, sZ, sS]
           refine Pz 19 (some 24) ?uw199_218 rfl rfl ?yw199_218 ?rw199_218
           case yw199_218 =>
            refine StepS.read [] (by kernel_rfl) (fun _ _ _ h => h) (by rfl) (fun L9 m9 w9 hSh hAt hDn hS => ?_)
            have hT : Below _ _ w9 := hS
            have x2 : w9.cell? ⟨p, 2, none⟩ = some (.int .u64 seq) := (HP.out.ca hT).cell 2
            clear hT hS
            go_simp
            try rfl
           try simp only [Act.put, sA, sZ, sS]
           refine Pz 20 (some 25) _ rfl rfl (StepS.pure (fun _ _ _ h => h) rfl fun w9 => by go_simp; try rfl) ?_
           try simp only [Act.put, sA, sZ, sS]
           refine Pz 21 (some 26) _ rfl rfl (StepS.pure (fun _ _ _ h => h) rfl fun w9 => by go_simp; try rfl) ?_
           try simp only [Act.put, sA, sZ, sS]
           refine Pz 22 (some 27) _ rfl rfl (StepS.pure (fun _ _ _ h => h) rfl fun w9 => by go_simp; try rfl) ?_
           try simp only [Act.put, sA, sZ, sS]
           refine Pz 23 (some 28) ?uw199_222 rfl rfl ?yw199_222 ?rw199_222
           case yw199_222 =>
            refine StepS.read [] (by kernel_rfl) (fun _ _ _ h => h) (by rfl) (fun L9 m9 w9 hSh hAt hDn hS => ?_)
            have hT : Below _ _ w9 := hS
            have y1 : w9.cell? ⟨g, 1, none⟩ = some (.int .u64 base) := (HN.out.ca hT).cell 1
            clear hT hS
            go_simp
            try rfl
           try simp only [Act.put, sA, sZ, sS]
           refine Pz 24 (some 29) _ rfl rfl (StepS.pure (fun _ _ _ h => h) rfl fun w9 => by go_simp; try rfl) ?_
           try simp only [Act.put, sA, sZ, sS]
           refine Pz 25 (some 30) _ rfl rfl (StepS.pure (fun _ _ _ h => h) rfl fun w9 => by go_simp; try rfl) ?_
           try simp only [Act.put, sA, sZ, sS]
           refine Pz 26 (some 31) _ rfl rfl (StepS.pure (fun _ _ _ h => h) rfl fun w9 => by go_simp; try rfl) ?_
           try simp only [Act.put, sA, sZ, sS]
           refine Pz 27 (some 32) _ rfl rfl (StepS.pure (fun _ _ _ h => h) rfl fun w9 => by go_simp; try rfl) ?_
           try simp only [Act.put, sA, sZ, sS]
           refine Pz 28 (some 33) ?uw199_227 rfl rfl ?yw199_227 ?rw199_227
           case yw199_227 =>
            refine StepS.read [] (by kernel_rfl) (fun _ _ _ h => h) (by rfl) (fun L9 m9 w9 hSh hAt hDn hS => ?_)
            have hT : Below _ _ w9 := hS
            have x2 : w9.cell? ⟨p, 2, none⟩ = some (.int .u64 seq) := (HP.out.ca hT).cell 2
            clear hT hS
            go_simp
            try rfl
           try simp only [Act.put, sA, sZ, sS]
           refine Pz 29 (some 34) _ rfl rfl (StepS.pure (fun _ _ _ h => h) rfl fun w9 => by go_simp; try rfl) ?_
           try simp only [Act.put, sA, sZ, sS]
           refine Pz 30 (some 35) _ rfl rfl (StepS.pure (fun _ _ _ h => h) rfl fun w9 => by go_simp; try rfl) ?_
           try simp only [Act.put, sA, sZ, sS]
           refine Pz 31 (some 36) _ rfl rfl (StepS.pure (fun _ _ _ h => h) rfl fun w9 => by go_simp; try rfl) ?_
           try simp only [Act.put, sA, sZ, sS]
           refine Pz 32 (some 37) ?uw199_231 rfl rfl ?yw199_231 ?rw199_231
           case yw199_231 =>
            refine StepS.read [] (by kernel_rfl) (fun _ _ _ h => h) (by rfl) (fun L9 m9 w9 hSh hAt hDn hS => ?_)
            have hT : Below _ _ w9 := hS
            have y3 : w9.cell? ⟨g, 3, none⟩ = some (.int .u64 sent) := (HN.out.ca hT).cell 3
            clear hT hS
            go_simp
            try rfl
           try simp only [Act.put, sA, sZ, sS]
           refine Pz 33 (some 38) _ rfl rfl (StepS.pure (fun _ _ _ h => h) rfl fun w9 => by go_simp; try rfl) ?_
           try simp only [Act.put, sA, sZ, sS]
           refine Pz 34 (some 39) _ rfl rfl (StepS.pure (fun _ _ _ h => h) rfl fun w9 => by go_simp; try rfl) ?_
           try simp only [Act.put, sA, sZ, sS]
           refine Pz 35 (some 40) _ rfl rfl (StepS.pure (fun _ _ _ h => h) rfl fun w9 => by go_simp; try rfl) ?_
           try simp only [Act.put, sA, sZ, sS]
           refine Pz 36 (some 41) _ rfl rfl (StepS.pure (fun _ _ _ h => h) rfl fun w9 => by go_simp; try rfl) ?_
           try simp only [Act.put, sA, sZ, sS]
           refine Pz 37 (some 42) undef rfl rfl (StepS.skip (fun _ _ _ h => h) rfl) ?_
           try simp only [Act.put, sA, sZ, sS]
           refine Pz 38 (some 43) undef rfl rfl (StepS.skip (fun _ _ _ h => h) rfl) ?_
           try simp only [Act.put, sA, sZ, sS]
           refine Pz 39 (some 44) undef rfl rfl (StepS.skip (fun _ _ _ h => h) rfl) ?_
           try simp only [Act.put, sA, sZ, sS]
           refine Pz 40 (some 45) _ rfl rfl (StepS.pure (fun _ _ _ h => h) rfl fun w9 => by go_simp; try rfl) ?_
           try simp only [Act.put, sA, sZ, sS]
           refine Ps.done (by kernel_rfl) (fun w199 hS => ?_) _
           have HQ := Lib.hid (show Below w.heap.size w _ from hS)
           clear hS
           obtain ⟨w7, rfl⟩ : ∃ x, x = w199 := ⟨_, rfl⟩
           go_wp2
           go_ret
           exact acked_no HNO.out rfl HQ.out HN.out HO.out
       · have d1 : decide (seq < base) = true := by simp; omega
         have HNO := Lib.hid (show ackedB ⟨ses, base, q, sent, lim, timer, ended⟩ ⟨2, ses, seq, plim, ⟨rows, pfin, pcnt⟩⟩ = false from by unfold ackedB; simp [c1])
         go_enter Try.func82, Try.ntmps82
         go_wp2_with fail
         refine wp_region_ps (S := fun _ _ w' => Below w.heap.size w w') (by kernel_rfl) ?spsw240 ?ppsw240
         case spsw240 =>
          exact (Below.refl _ _).drew
         refine Pz 0 (some 5) ?uw240_240 rfl rfl ?yw240_240 ?rw240_240
         case yw240_240 =>
          refine StepS.read [] (by kernel_rfl) (fun _ _ _ h => h) (by rfl) (fun L9 m9 w9 hSh hAt hDn hS => ?_)
          have hT : Below _ _ w9 := hS
          have x0 : w9.cell? ⟨p, 0, none⟩ = some (.int .i64 2) := (HP.out.ca hT).cell 0
          have x1 : w9.cell? ⟨p, 1, none⟩ = some (.int .u32 ses) := (HP.out.ca hT).cell 1
          have x2 : w9.cell? ⟨p, 2, none⟩ = some (.int .u64 seq) := (HP.out.ca hT).cell 2
          have x3 : w9.cell? ⟨p, 3, none⟩ = some (.int .u64 plim) := (HP.out.ca hT).cell 3
          have x4 : w9.cell? ⟨p, 4, none⟩ = some (.slice pA pn pc) := (HP.out.ca hT).cell 4
          have x5 : w9.cell? ⟨p, 5, none⟩ = some (.bool pfin) := (HP.out.ca hT).cell 5
          have x6 : w9.cell? ⟨p, 6, none⟩ = some (.int .u64 pcnt) := (HP.out.ca hT).cell 6
          clear hT hS
          go_simp
          try rfl
         try simp only [Act.put, sA, sZ, sS]
         refine Pz 1 (some 6) (.int .i64 0) rfl rfl ?yw240_241 ?rw240_241
         case yw240_241 =>
          refine StepS.call ?fw240_241 ?aw240_241 [] (by kernel_rfl) (by rfl) (fun w9 => ?hw240_241) (fun L9 m9 w9 hSh hAt hDn hS => ?cw240_241)
          case hw240_241 => go_simp; refine ⟨?_, ?_⟩ <;> rfl
          case cw240_241 =>
           have hT : Below _ _ w9 := hS
           refine (checkp_any _ ⟨2, ses, seq, plim, ⟨rows, pfin, pcnt⟩⟩ pA pn pc w9 (Lay.rd_below HR.out hT) hpn).mono ?_
           rintro e w8 ⟨rfl, q8⟩
           exact ⟨by rw [HCP.out]; rfl, bl_ca hT q8⟩
         try simp only [Act.put, sA, sZ, sS]
         refine Pz 2 (some 7) _ rfl rfl (StepS.pure (fun _ _ _ h => h) rfl fun w9 => by go_simp; try rfl) ?_
         try simp only [Act.put, sA, sZ, sS]
         refine Pz 3 (some 8) _ rfl rfl (StepS.pure (fun _ _ _ h => h) rfl fun w9 => by go_simp; try rfl) ?_
         try simp only [Act.put, sA, sZ, sS]
         refine Pz 4 (some 9) _ rfl rfl (StepS.pure (fun _ _ _ h => h) rfl fun w9 => by go_simp; try rfl) ?_
         try simp only [Act.put, sA, sZ, sS]
         refine Pz 5 (some 10) ?uw240_245 rfl rfl ?yw240_245 ?rw240_245
         case yw240_245 =>
          refine StepS.read [] (by kernel_rfl) (fun _ _ _ h => h) (by rfl) (fun L9 m9 w9 hSh hAt hDn hS => ?_)
          have hT : Below _ _ w9 := hS
          have x0 : w9.cell? ⟨p, 0, none⟩ = some (.int .i64 2) := (HP.out.ca hT).cell 0
          clear hT hS
          go_simp
          try rfl
         try simp only [Act.put, sA, sZ, sS]
         refine Pz 6 (some 11) _ rfl rfl (StepS.pure (fun _ _ _ h => h) rfl fun w9 => by go_simp; try rfl) ?_
         try simp only [Act.put, sA, sZ, sS]
         refine Pz 7 (some 12) _ rfl rfl (StepS.pure (fun _ _ _ h => h) rfl fun w9 => by go_simp; try rfl) ?_
         try simp only [Act.put, sA, sZ, sS]
         refine Pz 8 (some 13) _ rfl rfl (StepS.pure (fun _ _ _ h => h) rfl fun w9 => by go_simp; try rfl) ?_
         try simp only [Act.put, sA, sZ, sS]
         refine Pz 9 (some 14) _ rfl rfl (StepS.pure (fun _ _ _ h => h) rfl fun w9 => by go_simp; try rfl) ?_
         try simp only [Act.put, sA, sZ, sS]
         refine Pz 10 (some 15) ?uw240_250 rfl rfl ?yw240_250 ?rw240_250
         case yw240_250 =>
          refine StepS.read [] (by kernel_rfl) (fun _ _ _ h => h) (by rfl) (fun L9 m9 w9 hSh hAt hDn hS => ?_)
          have hT : Below _ _ w9 := hS
          have x1 : w9.cell? ⟨p, 1, none⟩ = some (.int .u32 ses) := (HP.out.ca hT).cell 1
          clear hT hS
          go_simp
          try rfl
         try simp only [Act.put, sA, sZ, sS]
         refine Pz 11 (some 16) _ rfl rfl (StepS.pure (fun _ _ _ h => h) rfl fun w9 => by go_simp; try rfl) ?_
         try simp only [Act.put, sA, sZ, sS]
         refine Pz 12 (some 17) _ rfl rfl (StepS.pure (fun _ _ _ h => h) rfl fun w9 => by go_simp; try rfl) ?_
         try simp only [Act.put, sA, sZ, sS]
         refine Pz 13 (some 18) _ rfl rfl (StepS.pure (fun _ _ _ h => h) rfl fun w9 => by go_simp; try rfl) ?_
         try simp only [Act.put, sA, sZ, sS]
         refine Pz 14 (some 19) ?uw240_254 rfl rfl ?yw240_254 ?rw240_254
         case yw240_254 =>
          refine StepS.read [] (by kernel_rfl) (fun _ _ _ h => h) (by rfl) (fun L9 m9 w9 hSh hAt hDn hS => ?_)
          have hT : Below _ _ w9 := hS
          have y0 : w9.cell? ⟨g, 0, none⟩ = some (.int .u32 ses) := (HN.out.ca hT).cell 0
          clear hT hS
          go_simp
          try rfl
         try simp only [Act.put, sA, sZ, sS]
         refine Pz 15 (some 20) _ rfl rfl (StepS.pure (fun _ _ _ h => h) rfl fun w9 => by go_simp; try rfl) ?_
         try simp only [Act.put, sA, sZ, sS]
         refine Pz 16 (some 21) _ rfl rfl (StepS.pure (fun _ _ _ h => h) rfl fun w9 => by go_simp; try rfl) ?_
         try simp only [Act.put, sA, sZ, sS]
         refine Pz 17 (some 22) _ rfl rfl (StepS.pure (fun _ _ _ h => h) rfl fun w9 => by go_simp; try rfl) ?_
         try simp only [Act.put, sA, sZ, sS]
         refine Pz 18 (some 23) _ rfl rfl (StepS.pure (fun _ _ _ h => h) rfl fun w9 => by go_simp; try rfl) ?_
         try simp only [Act.put, sA, sZ, sS]
         refine Pz 19 (some 24) ?uw240_259 rfl rfl ?yw240_259 ?rw240_259
         case yw240_259 =>
          refine StepS.read [] (by kernel_rfl) (fun _ _ _ h => h) (by rfl) (fun L9 m9 w9 hSh hAt hDn hS => ?_)
          have hT : Below _ _ w9 := hS
          have x2 : w9.cell? ⟨p, 2, none⟩ = some (.int .u64 seq) := (HP.out.ca hT).cell 2
          clear hT hS
          go_simp
          try rfl
         try simp only [Act.put, sA, sZ, sS]
         refine Pz 20 (some 25) _ rfl rfl (StepS.pure (fun _ _ _ h => h) rfl fun w9 => by go_simp; try rfl) ?_
         try simp only [Act.put, sA, sZ, sS]
         refine Pz 21 (some 26) _ rfl rfl (StepS.pure (fun _ _ _ h => h) rfl fun w9 => by go_simp; try rfl) ?_
         try simp only [Act.put, sA, sZ, sS]
         refine Pz 22 (some 27) _ rfl rfl (StepS.pure (fun _ _ _ h => h) rfl fun w9 => by go_simp; try rfl) ?_
         try simp only [Act.put, sA, sZ, sS]
         refine Pz 23 (some 28) ?uw240_263 rfl rfl ?yw240_263 ?rw240_263
         case yw240_263 =>
          refine StepS.read [] (by kernel_rfl) (fun _ _ _ h => h) (by rfl) (fun L9 m9 w9 hSh hAt hDn hS => ?_)
          have hT : Below _ _ w9 := hS
          have y1 : w9.cell? ⟨g, 1, none⟩ = some (.int .u64 base) := (HN.out.ca hT).cell 1
          clear hT hS
          go_simp
          try rfl
         try simp only [Act.put, sA, sZ, sS]
         refine Pz 24 (some 29) _ rfl rfl (StepS.pure (fun _ _ _ h => h) rfl fun w9 => by go_simp; try rfl) ?_
         try simp only [Act.put, sA, sZ, sS]
         refine Pz 25 (some 30) _ rfl rfl (StepS.pure (fun _ _ _ h => h) rfl fun w9 => by go_simp; try rfl) ?_
         try simp only [Act.put, sA, sZ, sS]
         refine Pz 26 (some 31) _ rfl rfl (StepS.pure (fun _ _ _ h => h) rfl fun w9 => by go_simp; try rfl) ?_
         try simp only [Act.put, sA, sZ, sS]
         refine Pz 27 (some 32) undef rfl rfl (StepS.skip (fun _ _ _ h => h) rfl) ?_
         try simp only [Act.put, sA, sZ, sS]
         refine Pz 28 (some 33) undef rfl rfl (StepS.skip (fun _ _ _ h => h) rfl) ?_
         try simp only [Act.put, sA, sZ, sS]
         refine Pz 29 (some 34) undef rfl rfl (StepS.skip (fun _ _ _ h => h) rfl) ?_
         try simp only [Act.put, sA, sZ, sS]
         refine Pz 30 (some 35) undef rfl rfl (StepS.skip (fun _ _ _ h => h) rfl) ?_
         try simp only [Act.put, sA, sZ, sS]
         refine Pz 31 (some 36) undef rfl rfl (StepS.skip (fun _ _ _ h => h) rfl) ?_
         try simp only [Act.put, sA, sZ, sS]
         refine Pz 32 (some 37) undef rfl rfl (StepS.skip (fun _ _ _ h => h) rfl) ?_
         try simp only [Act.put, sA, sZ, sS]
         refine Pz 33 (some 38) undef rfl rfl (StepS.skip (fun _ _ _ h => h) rfl) ?_
         try simp only [Act.put, sA, sZ, sS]
         refine Pz 34 (some 39) undef rfl rfl (StepS.skip (fun _ _ _ h => h) rfl) ?_
         try simp only [Act.put, sA, sZ, sS]
         refine Pz 35 (some 40) _ rfl rfl (StepS.pure (fun _ _ _ h => h) rfl fun w9 => by go_simp; try rfl) ?_
         try simp only [Act.put, sA, sZ, sS]
         refine Pz 36 (some 41) _ rfl rfl (StepS.pure (fun _ _ _ h => h) rfl fun w9 => by go_simp; try rfl) ?_
         try simp only [Act.put, sA, sZ, sS]
         refine Pz 37 (some 42) undef rfl rfl (StepS.skip (fun _ _ _ h => h) rfl) ?_
         try simp only [Act.put, sA, sZ, sS]
         refine Pz 38 (some 43) undef rfl rfl (StepS.skip (fun _ _ _ h => h) rfl) ?_
         try simp only [Act.put, sA, sZ, sS]
         refine Pz 39 (some 44) undef rfl rfl (StepS.skip (fun _ _ _ h => h) rfl) ?_
         try simp only [Act.put, sA, sZ, sS]
         refine Pz 40 (some 45) _ rfl rfl (StepS.pure (fun _ _ _ h => h) rfl fun w9 => by go_simp; try rfl) ?_
         try simp only [Act.put, sA, sZ, sS]
         refine Ps.done (by kernel_rfl) (fun w240 hS => ?_) _
         have HQ := Lib.hid (show Below w.heap.size w _ from hS)
         clear hS
         obtain ⟨w7, rfl⟩ : ∃ x, x = w240 := ⟨_, rfl⟩
         go_wp2
         go_ret
         exact acked_no HNO.out rfl HQ.out HN.out HO.out
     · have e1 : (pses != ses) = true := by simpa using hs
       have HNO := Lib.hid (show ackedB ⟨ses, base, q, sent, lim, timer, ended⟩ ⟨2, pses, seq, plim, ⟨rows, pfin, pcnt⟩⟩ = false from by unfold ackedB; simp [hs])
       go_enter Try.func82, Try.ntmps82
       go_wp2_with fail
       refine wp_region_ps (S := fun _ _ w' => Below w.heap.size w w') (by kernel_rfl) ?spsw281 ?ppsw281
       case spsw281 =>
        exact (Below.refl _ _).drew
       refine Pz 0 (some 5) ?uw281_281 rfl rfl ?yw281_281 ?rw281_281
       case yw281_281 =>
        refine StepS.read [] (by kernel_rfl) (fun _ _ _ h => h) (by rfl) (fun L9 m9 w9 hSh hAt hDn hS => ?_)
        have hT : Below _ _ w9 := hS
        have x0 : w9.cell? ⟨p, 0, none⟩ = some (.int .i64 2) := (HP.out.ca hT).cell 0
        have x1 : w9.cell? ⟨p, 1, none⟩ = some (.int .u32 pses) := (HP.out.ca hT).cell 1
        have x2 : w9.cell? ⟨p, 2, none⟩ = some (.int .u64 seq) := (HP.out.ca hT).cell 2
        have x3 : w9.cell? ⟨p, 3, none⟩ = some (.int .u64 plim) := (HP.out.ca hT).cell 3
        have x4 : w9.cell? ⟨p, 4, none⟩ = some (.slice pA pn pc) := (HP.out.ca hT).cell 4
        have x5 : w9.cell? ⟨p, 5, none⟩ = some (.bool pfin) := (HP.out.ca hT).cell 5
        have x6 : w9.cell? ⟨p, 6, none⟩ = some (.int .u64 pcnt) := (HP.out.ca hT).cell 6
        clear hT hS
        go_simp
        try rfl
       try simp only [Act.put, sA, sZ, sS]
       refine Pz 1 (some 6) (.int .i64 0) rfl rfl ?yw281_282 ?rw281_282
       case yw281_282 =>
        refine StepS.call ?fw281_282 ?aw281_282 [] (by kernel_rfl) (by rfl) (fun w9 => ?hw281_282) (fun L9 m9 w9 hSh hAt hDn hS => ?cw281_282)
        case hw281_282 => go_simp; refine ⟨?_, ?_⟩ <;> rfl
        case cw281_282 =>
         have hT : Below _ _ w9 := hS
         refine (checkp_any _ ⟨2, pses, seq, plim, ⟨rows, pfin, pcnt⟩⟩ pA pn pc w9 (Lay.rd_below HR.out hT) hpn).mono ?_
         rintro e w8 ⟨rfl, q8⟩
         exact ⟨by rw [HCP.out]; rfl, bl_ca hT q8⟩
       try simp only [Act.put, sA, sZ, sS]
       refine Pz 2 (some 7) _ rfl rfl (StepS.pure (fun _ _ _ h => h) rfl fun w9 => by go_simp; try rfl) ?_
       try simp only [Act.put, sA, sZ, sS]
       refine Pz 3 (some 8) _ rfl rfl (StepS.pure (fun _ _ _ h => h) rfl fun w9 => by go_simp; try rfl) ?_
       try simp only [Act.put, sA, sZ, sS]
       refine Pz 4 (some 9) _ rfl rfl (StepS.pure (fun _ _ _ h => h) rfl fun w9 => by go_simp; try rfl) ?_
       try simp only [Act.put, sA, sZ, sS]
       refine Pz 5 (some 10) ?uw281_286 rfl rfl ?yw281_286 ?rw281_286
       case yw281_286 =>
        refine StepS.read [] (by kernel_rfl) (fun _ _ _ h => h) (by rfl) (fun L9 m9 w9 hSh hAt hDn hS => ?_)
        have hT : Below _ _ w9 := hS
        have x0 : w9.cell? ⟨p, 0, none⟩ = some (.int .i64 2) := (HP.out.ca hT).cell 0
        clear hT hS
        go_simp
        try rfl
       try simp only [Act.put, sA, sZ, sS]
       refine Pz 6 (some 11) _ rfl rfl (StepS.pure (fun _ _ _ h => h) rfl fun w9 => by go_simp; try rfl) ?_
       try simp only [Act.put, sA, sZ, sS]
       refine Pz 7 (some 12) _ rfl rfl (StepS.pure (fun _ _ _ h => h) rfl fun w9 => by go_simp; try rfl) ?_
       try simp only [Act.put, sA, sZ, sS]
       refine Pz 8 (some 13) _ rfl rfl (StepS.pure (fun _ _ _ h => h) rfl fun w9 => by go_simp; try rfl) ?_
       try simp only [Act.put, sA, sZ, sS]
       refine Pz 9 (some 14) _ rfl rfl (StepS.pure (fun _ _ _ h => h) rfl fun w9 => by go_simp; try rfl) ?_
       try simp only [Act.put, sA, sZ, sS]
       refine Pz 10 (some 15) ?uw281_291 rfl rfl ?yw281_291 ?rw281_291
       case yw281_291 =>
        refine StepS.read [] (by kernel_rfl) (fun _ _ _ h => h) (by rfl) (fun L9 m9 w9 hSh hAt hDn hS => ?_)
        have hT : Below _ _ w9 := hS
        have x1 : w9.cell? ⟨p, 1, none⟩ = some (.int .u32 pses) := (HP.out.ca hT).cell 1
        clear hT hS
        go_simp
        try rfl
       try simp only [Act.put, sA, sZ, sS]
       refine Pz 11 (some 16) _ rfl rfl (StepS.pure (fun _ _ _ h => h) rfl fun w9 => by go_simp; try rfl) ?_
       try simp only [Act.put, sA, sZ, sS]
       refine Pz 12 (some 17) _ rfl rfl (StepS.pure (fun _ _ _ h => h) rfl fun w9 => by go_simp; try rfl) ?_
       try simp only [Act.put, sA, sZ, sS]
       refine Pz 13 (some 18) _ rfl rfl (StepS.pure (fun _ _ _ h => h) rfl fun w9 => by go_simp; try rfl) ?_
       try simp only [Act.put, sA, sZ, sS]
       refine Pz 14 (some 19) ?uw281_295 rfl rfl ?yw281_295 ?rw281_295
       case yw281_295 =>
        refine StepS.read [] (by kernel_rfl) (fun _ _ _ h => h) (by rfl) (fun L9 m9 w9 hSh hAt hDn hS => ?_)
        have hT : Below _ _ w9 := hS
        have y0 : w9.cell? ⟨g, 0, none⟩ = some (.int .u32 ses) := (HN.out.ca hT).cell 0
        clear hT hS
        go_simp
        try rfl
       try simp only [Act.put, sA, sZ, sS]
       refine Pz 15 (some 20) _ rfl rfl (StepS.pure (fun _ _ _ h => h) rfl fun w9 => by go_simp; try rfl) ?_
       try simp only [Act.put, sA, sZ, sS]
       refine Pz 16 (some 21) _ rfl rfl (StepS.pure (fun _ _ _ h => h) rfl fun w9 => by go_simp; try rfl) ?_
       try simp only [Act.put, sA, sZ, sS]
       refine Pz 17 (some 22) _ rfl rfl (StepS.pure (fun _ _ _ h => h) rfl fun w9 => by go_simp; try rfl) ?_
       try simp only [Act.put, sA, sZ, sS]
       refine Pz 18 (some 23) undef rfl rfl (StepS.skip (fun _ _ _ h => h) rfl) ?_
       try simp only [Act.put, sA, sZ, sS]
       refine Pz 19 (some 24) undef rfl rfl (StepS.skip (fun _ _ _ h => h) rfl) ?_
       try simp only [Act.put, sA, sZ, sS]
       refine Pz 20 (some 25) undef rfl rfl (StepS.skip (fun _ _ _ h => h) rfl) ?_
       try simp only [Act.put, sA, sZ, sS]
       refine Pz 21 (some 26) undef rfl rfl (StepS.skip (fun _ _ _ h => h) rfl) ?_
       try simp only [Act.put, sA, sZ, sS]
       refine Pz 22 (some 27) undef rfl rfl (StepS.skip (fun _ _ _ h => h) rfl) ?_
       try simp only [Act.put, sA, sZ, sS]
       refine Pz 23 (some 28) undef rfl rfl (StepS.skip (fun _ _ _ h => h) rfl) ?_
       try simp only [Act.put, sA, sZ, sS]
       refine Pz 24 (some 29) undef rfl rfl (StepS.skip (fun _ _ _ h => h) rfl) ?_
       try simp only [Act.put, sA, sZ, sS]
       refine Pz 25 (some 30) _ rfl rfl (StepS.pure (fun _ _ _ h => h) rfl fun w9 => by go_simp; try rfl) ?_
       try simp only [Act.put, sA, sZ, sS]
       refine Pz 26 (some 31) _ rfl rfl (StepS.pure (fun _ _ _ h => h) rfl fun w9 => by go_simp; try rfl) ?_
       try simp only [Act.put, sA, sZ, sS]
       refine Pz 27 (some 32) undef rfl rfl (StepS.skip (fun _ _ _ h => h) rfl) ?_
       try simp only [Act.put, sA, sZ, sS]
       refine Pz 28 (some 33) undef rfl rfl (StepS.skip (fun _ _ _ h => h) rfl) ?_
       try simp only [Act.put, sA, sZ, sS]
       refine Pz 29 (some 34) undef rfl rfl (StepS.skip (fun _ _ _ h => h) rfl) ?_
       try simp only [Act.put, sA, sZ, sS]
       refine Pz 30 (some 35) undef rfl rfl (StepS.skip (fun _ _ _ h => h) rfl) ?_
       try simp only [Act.put, sA, sZ, sS]
       refine Pz 31 (some 36) undef rfl rfl (StepS.skip (fun _ _ _ h => h) rfl) ?_
       try simp only [Act.put, sA, sZ, sS]
       refine Pz 32 (some 37) undef rfl rfl (StepS.skip (fun _ _ _ h => h) rfl) ?_
       try simp only [Act.put, sA, sZ, sS]
       refine Pz 33 (some 38) undef rfl rfl (StepS.skip (fun _ _ _ h => h) rfl) ?_
       try simp only [Act.put, sA, sZ, sS]
       refine Pz 34 (some 39) undef rfl rfl (StepS.skip (fun _ _ _ h => h) rfl) ?_
       try simp only [Act.put, sA, sZ, sS]
       refine Pz 35 (some 40) _ rfl rfl (StepS.pure (fun _ _ _ h => h) rfl fun w9 => by go_simp; try rfl) ?_
       try simp only [Act.put, sA, sZ, sS]
       refine Pz 36 (some 41) _ rfl rfl (StepS.pure (fun _ _ _ h => h) rfl fun w9 => by go_simp; try rfl) ?_
       try simp only [Act.put, sA, sZ, sS]
       refine Pz 37 (some 42) undef rfl rfl (StepS.skip (fun _ _ _ h => h) rfl) ?_
       try simp only [Act.put, sA, sZ, sS]
       refine Pz 38 (some 43) undef rfl rfl (StepS.skip (fun _ _ _ h => h) rfl) ?_
       try simp only [Act.put, sA, sZ, sS]
       refine Pz 39 (some 44) undef rfl rfl (StepS.skip (fun _ _ _ h => h) rfl) ?_
       try simp only [Act.put, sA, sZ, sS]
       refine Pz 40 (some 45) _ rfl rfl (StepS.pure (fun _ _ _ h => h) rfl fun w9 => by go_simp; try rfl) ?_
       try simp only [Act.put, sA, sZ, sS]
       refine Ps.done (by kernel_rfl) (fun w281 hS => ?_) _
       have HQ := Lib.hid (show Below w.heap.size w _ from hS)
       clear hS
       obtain ⟨w7, rfl⟩ : ∃ x, x = w281 := ⟨_, rfl⟩
       go_wp2
       go_ret
       exact acked_no HNO.out rfl HQ.out HN.out HO.out
   · have e1 : (kind != 2) = true := by simpa using k2
     have HCP := Lib.hid hcp
     have HNO := Lib.hid (show ackedB ⟨ses, base, q, sent, lim, timer, ended⟩ ⟨kind, pses, seq, plim, ⟨rows, pfin, pcnt⟩⟩ = false from by unfold ackedB; simp [k2])
     go_enter Try.func82, Try.ntmps82
     go_wp2_with fail
     refine wp_region_ps (S := fun _ _ w' => Below w.heap.size w w') (by kernel_rfl) ?spsw322 ?ppsw322
     case spsw322 =>
      exact (Below.refl _ _).drew
     refine Pz 0 (some 5) ?uw322_322 rfl rfl ?yw322_322 ?rw322_322
     case yw322_322 =>
      refine StepS.read [] (by kernel_rfl) (fun _ _ _ h => h) (by rfl) (fun L9 m9 w9 hSh hAt hDn hS => ?_)
      have hT : Below _ _ w9 := hS
      have x0 : w9.cell? ⟨p, 0, none⟩ = some (.int .i64 kind) := (HP.out.ca hT).cell 0
      have x1 : w9.cell? ⟨p, 1, none⟩ = some (.int .u32 pses) := (HP.out.ca hT).cell 1
      have x2 : w9.cell? ⟨p, 2, none⟩ = some (.int .u64 seq) := (HP.out.ca hT).cell 2
      have x3 : w9.cell? ⟨p, 3, none⟩ = some (.int .u64 plim) := (HP.out.ca hT).cell 3
      have x4 : w9.cell? ⟨p, 4, none⟩ = some (.slice pA pn pc) := (HP.out.ca hT).cell 4
      have x5 : w9.cell? ⟨p, 5, none⟩ = some (.bool pfin) := (HP.out.ca hT).cell 5
      have x6 : w9.cell? ⟨p, 6, none⟩ = some (.int .u64 pcnt) := (HP.out.ca hT).cell 6
      clear hT hS
      go_simp
      try rfl
     try simp only [Act.put, sA, sZ, sS]
     refine Pz 1 (some 6) (.int .i64 0) rfl rfl ?yw322_323 ?rw322_323
     case yw322_323 =>
      refine StepS.call ?fw322_323 ?aw322_323 [] (by kernel_rfl) (by rfl) (fun w9 => ?hw322_323) (fun L9 m9 w9 hSh hAt hDn hS => ?cw322_323)
      case hw322_323 => go_simp; refine ⟨?_, ?_⟩ <;> rfl
      case cw322_323 =>
       have hT : Below _ _ w9 := hS
       refine (checkp_any _ ⟨kind, pses, seq, plim, ⟨rows, pfin, pcnt⟩⟩ pA pn pc w9 (Lay.rd_below HR.out hT) hpn).mono ?_
       rintro e w8 ⟨rfl, q8⟩
       exact ⟨by rw [HCP.out]; rfl, bl_ca hT q8⟩
     try simp only [Act.put, sA, sZ, sS]
     refine Pz 2 (some 7) _ rfl rfl (StepS.pure (fun _ _ _ h => h) rfl fun w9 => by go_simp; try rfl) ?_
     try simp only [Act.put, sA, sZ, sS]
     refine Pz 3 (some 8) _ rfl rfl (StepS.pure (fun _ _ _ h => h) rfl fun w9 => by go_simp; try rfl) ?_
     try simp only [Act.put, sA, sZ, sS]
     refine Pz 4 (some 9) _ rfl rfl (StepS.pure (fun _ _ _ h => h) rfl fun w9 => by go_simp; try rfl) ?_
     try simp only [Act.put, sA, sZ, sS]
     refine Pz 5 (some 10) ?uw322_327 rfl rfl ?yw322_327 ?rw322_327
     case yw322_327 =>
      refine StepS.read [] (by kernel_rfl) (fun _ _ _ h => h) (by rfl) (fun L9 m9 w9 hSh hAt hDn hS => ?_)
      have hT : Below _ _ w9 := hS
      have x0 : w9.cell? ⟨p, 0, none⟩ = some (.int .i64 kind) := (HP.out.ca hT).cell 0
      clear hT hS
      go_simp
      try rfl
     try simp only [Act.put, sA, sZ, sS]
     refine Pz 6 (some 11) _ rfl rfl (StepS.pure (fun _ _ _ h => h) rfl fun w9 => by go_simp; try rfl) ?_
     try simp only [Act.put, sA, sZ, sS]
     refine Pz 7 (some 12) _ rfl rfl (StepS.pure (fun _ _ _ h => h) rfl fun w9 => by go_simp; try rfl) ?_
     try simp only [Act.put, sA, sZ, sS]
     refine Pz 8 (some 13) _ rfl rfl (StepS.pure (fun _ _ _ h => h) rfl fun w9 => by go_simp; try rfl) ?_
     try simp only [Act.put, sA, sZ, sS]
     refine Pz 9 (some 14) undef rfl rfl (StepS.skip (fun _ _ _ h => h) rfl) ?_
     try simp only [Act.put, sA, sZ, sS]
     refine Pz 10 (some 15) undef rfl rfl (StepS.skip (fun _ _ _ h => h) rfl) ?_
     try simp only [Act.put, sA, sZ, sS]
     refine Pz 11 (some 16) undef rfl rfl (StepS.skip (fun _ _ _ h => h) rfl) ?_
     try simp only [Act.put, sA, sZ, sS]
     refine Pz 12 (some 17) undef rfl rfl (StepS.skip (fun _ _ _ h => h) rfl) ?_
     try simp only [Act.put, sA, sZ, sS]
     refine Pz 13 (some 18) undef rfl rfl (StepS.skip (fun _ _ _ h => h) rfl) ?_
     try simp only [Act.put, sA, sZ, sS]
     refine Pz 14 (some 19) undef rfl rfl (StepS.skip (fun _ _ _ h => h) rfl) ?_
     try simp only [Act.put, sA, sZ, sS]
     refine Pz 15 (some 20) undef rfl rfl (StepS.skip (fun _ _ _ h => h) rfl) ?_
     try simp only [Act.put, sA, sZ, sS]
     refine Pz 16 (some 21) _ rfl rfl (StepS.pure (fun _ _ _ h => h) rfl fun w9 => by go_simp; try rfl) ?_
     try simp only [Act.put, sA, sZ, sS]
     refine Pz 17 (some 22) _ rfl rfl (StepS.pure (fun _ _ _ h => h) rfl fun w9 => by go_simp; try rfl) ?_
     try simp only [Act.put, sA, sZ, sS]
     refine Pz 18 (some 23) undef rfl rfl (StepS.skip (fun _ _ _ h => h) rfl) ?_
     try simp only [Act.put, sA, sZ, sS]
     refine Pz 19 (some 24) undef rfl rfl (StepS.skip (fun _ _ _ h => h) rfl) ?_
     try simp only [Act.put, sA, sZ, sS]
     refine Pz 20 (some 25) undef rfl rfl (StepS.skip (fun _ _ _ h => h) rfl) ?_
     try simp only [Act.put, sA, sZ, sS]
     refine Pz 21 (some 26) undef rfl rfl (StepS.skip (fun _ _ _ h => h) rfl) ?_
     try simp only [Act.put, sA, sZ, sS]
     refine Pz 22 (some 27) undef rfl rfl (StepS.skip (fun _ _ _ h => h) rfl) ?_
     try simp only [Act.put, sA, sZ, sS]
     refine Pz 23 (some 28) undef rfl rfl (StepS.skip (fun _ _ _ h => h) rfl) ?_
     try simp only [Act.put, sA, sZ, sS]
     refine Pz 24 (some 29) undef rfl rfl (StepS.skip (fun _ _ _ h => h) rfl) ?_
     try simp only [Act.put, sA, sZ, sS]
     refine Pz 25 (some 30) _ rfl rfl (StepS.pure (fun _ _ _ h => h) rfl fun w9 => by go_simp; try rfl) ?_
     try simp only [Act.put, sA, sZ, sS]
     refine Pz 26 (some 31) _ rfl rfl (StepS.pure (fun _ _ _ h => h) rfl fun w9 => by go_simp; try rfl) ?_
     try simp only [Act.put, sA, sZ, sS]
     refine Pz 27 (some 32) undef rfl rfl (StepS.skip (fun _ _ _ h => h) rfl) ?_
     try simp only [Act.put, sA, sZ, sS]
     refine Pz 28 (some 33) undef rfl rfl (StepS.skip (fun _ _ _ h => h) rfl) ?_
     try simp only [Act.put, sA, sZ, sS]
     refine Pz 29 (some 34) undef rfl rfl (StepS.skip (fun _ _ _ h => h) rfl) ?_
     try simp only [Act.put, sA, sZ, sS]
     refine Pz 30 (some 35) undef rfl rfl (StepS.skip (fun _ _ _ h => h) rfl) ?_
     try simp only [Act.put, sA, sZ, sS]
     refine Pz 31 (some 36) undef rfl rfl (StepS.skip (fun _ _ _ h => h) rfl) ?_
     try simp only [Act.put, sA, sZ, sS]
     refine Pz 32 (some 37) undef rfl rfl (StepS.skip (fun _ _ _ h => h) rfl) ?_
     try simp only [Act.put, sA, sZ, sS]
     refine Pz 33 (some 38) undef rfl rfl (StepS.skip (fun _ _ _ h => h) rfl) ?_
     try simp only [Act.put, sA, sZ, sS]
     refine Pz 34 (some 39) undef rfl rfl (StepS.skip (fun _ _ _ h => h) rfl) ?_
     try simp only [Act.put, sA, sZ, sS]
     refine Pz 35 (some 40) _ rfl rfl (StepS.pure (fun _ _ _ h => h) rfl fun w9 => by go_simp; try rfl) ?_
     try simp only [Act.put, sA, sZ, sS]
     refine Pz 36 (some 41) _ rfl rfl (StepS.pure (fun _ _ _ h => h) rfl fun w9 => by go_simp; try rfl) ?_
     try simp only [Act.put, sA, sZ, sS]
     refine Pz 37 (some 42) undef rfl rfl (StepS.skip (fun _ _ _ h => h) rfl) ?_
     try simp only [Act.put, sA, sZ, sS]
     refine Pz 38 (some 43) undef rfl rfl (StepS.skip (fun _ _ _ h => h) rfl) ?_
     try simp only [Act.put, sA, sZ, sS]
     refine Pz 39 (some 44) undef rfl rfl (StepS.skip (fun _ _ _ h => h) rfl) ?_
     try simp only [Act.put, sA, sZ, sS]
     refine Pz 40 (some 45) _ rfl rfl (StepS.pure (fun _ _ _ h => h) rfl fun w9 => by go_simp; try rfl) ?_
     try simp only [Act.put, sA, sZ, sS]
     refine Ps.done (by kernel_rfl) (fun w322 hS => ?_) _
     have HQ := Lib.hid (show Below w.heap.size w _ from hS)
     clear hS
     obtain ⟨w7, rfl⟩ : ∃ x, x = w322 := ⟨_, rfl⟩
     go_wp2
     go_ret
     exact acked_no HNO.out rfl HQ.out HN.out HO.out
end Go.Proofs.Ytojghgbaiiajfaa
