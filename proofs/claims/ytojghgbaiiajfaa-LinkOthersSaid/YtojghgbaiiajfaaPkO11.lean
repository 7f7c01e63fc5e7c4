/- bowspritlaw22.rows. Conditions: the slice reads as these rows. -/
import Derived.Test.YtojghgbaiiajfaaPkO10
import Derived.WalkLawsBesides
namespace Go.Proofs.Ytojghgbaiiajfaa
open Go.RowKit
def Since (w0 w : World) : Nat → Prop := fun b => w0.heap.size ≤ b ∧ b < w.heap.size
def NoB : Nat → Prop := fun _ => False
theorem lvreps_any {w : World} {F G : Nat → Prop} : ∀ {xs : List VV} {cs : List Value}, LV.reps w F xs cs → LV.reps w G xs cs
  | [], _, h => h
  | _ :: _, _, ⟨a, b, e, ha, hb⟩ => ⟨a, b, e, ha, lvreps_any hb⟩
theorem lvown_any {e : TypeId} {w : World} {B n c : Nat} {F G : Nat → Prop} {A : Option Addr} {xs : List VV} (h : LV.own e w B F A n c xs) : LV.own e w B G A n c xs := by
  obtain ⟨hl, cs, hr, ho⟩ := h
  exact ⟨hl, cs, lvreps_any hr, ho⟩
theorem row_rep {w0 w1 w : World} {A : Option Addr} {k c : Nat} {r : List VV} {A' : Option Addr} {n' c' : Nat} {xs : List (List VV)} (h : LV.own 142 w w1.heap.size NoB A k c r) (ho : LR.own 89 w1 w0.heap.size (Since w0 w1) A' n' c' xs) (h01 : w0.heap.size ≤ w1.heap.size) :
    LR.rep w (fun b => Since w0 w b ∧ (Value.slice A' n' c').ownBlock ≠ some b) r [.slice A k c] := by
  have hc := Lay.own_caps h
  refine ⟨A, k, c, rfl, hc.1, hc.2, Lay.own_rd h (fun b hb hlt => ⟨⟨by omega, hlt⟩, fun e => ?_⟩) (fun b hb => hb.elim)⟩
  obtain ⟨_, _, _, hrow⟩ := ho
  have := (own_base' hrow b e).2
  omega
/-- the first ones shortened -/
def mixV (r : List VV) (j : Nat) : List VV := (r.take j).map VV.short ++ r.drop j
theorem mixV_set {r : List VV} {j : Nat} {v : VV} (h : r[j]? = some v) : (mixV r j).set j v.short = mixV r (j + 1) := by
  obtain ⟨hl, rfl⟩ := List.getElem?_eq_some_iff.1 h
  unfold mixV
  rw [List.take_succ_eq_append_getElem hl, List.map_append, List.set_append_right _ _ (by simp; omega)]
  simp [Nat.min_eq_left (Nat.le_of_lt hl)]
  rw [List.drop_eq_getElem_cons hl, List.set_cons_zero]
theorem mixV_at {r : List VV} {j : Nat} {v : VV} (h : (mixV r j)[j]? = some v) (hj : j < r.length) : r[j]? = some v := by
  unfold mixV at h
  rw [List.getElem?_append_right (by simp; omega), List.length_map, List.length_take, Nat.min_eq_left (by omega), Nat.sub_self] at h
  simpa using h
theorem mixV_len (r : List VV) (j : Nat) : (mixV r j).length = r.length := by unfold mixV; simp; omega
theorem cell_ca {w w2 : World} {p : Addr} {v : Value} (h : w.cell? p = some v) (hp : p.block < w.heap.size) (q : Below w.heap.size w w2) : w2.cell? p = some v := (q.cell hp).trans h
theorem addr_zero (g i : Nat) : (⟨g, 0, none⟩ : Addr).add i = ⟨g, i, none⟩ := by unfold Addr.add; split <;> simp_all
theorem own_below2 {α : Type} {L : Lay α} {e : TypeId} {w w' : World} {B n c : Nat} {G : Nat → Prop} {A : Option Addr} {xs : List α} (h : L.own e w B G A n c xs) (q : Below w.heap.size w w') : L.own e w' B G A n c xs := Lay.own_below h q
theorem own_frozen {α : Type} {L : Lay α} {e : TypeId} {w : World} {B n c g : Nat} {G : Nat → Prop} {xs : List α} (h : L.own e w B G (some ⟨g, 0, none⟩) n c xs) (i : Nat) : w.frozen? ⟨g, i, none⟩ = false := by
  obtain ⟨_, cs, _, _, h2⟩ := h
  rcases h2 with ⟨e, _⟩ | ⟨g', cap, cur, e, _, hb, _⟩
  · cases e
  · injection e with e
    injection e with e
    injection e with e
    subst e
    exact Blk.frozen hb i
theorem own_some {α : Type} {L : Lay α} {e : TypeId} {w : World} {B n c : Nat} {G : Nat → Prop} {A : Option Addr} {xs : List α} (h : L.own e w B G A n c xs) (hn : 0 < n) : ∃ g, A = some ⟨g, 0, none⟩ ∧ B ≤ g ∧ g < w.heap.size := by
  obtain ⟨_, cs, _, hrow⟩ := h
  obtain ⟨g, cap, hv, h1, h2⟩ := World.ownsRow.form hrow hn
  injection hv with hA
  exact ⟨g, hA, h1, h2⟩
set_option maxRecDepth 100000 in
set_option maxHeartbeats 8000000 in
theorem rowsC_any (F : Nat → Prop) (A : Option Addr) (m c : Nat) (l : List (List VV)) (w : World) (h : LR.rd w F A m l) (hmc : m ≤ c) (hc : c ≤ 9223372036854775807) :
    Calls Try.prog 52 #[.slice A m c] w fun e w' => ∃ A' k c', e = .returned (.slice A' k c') ∧ LR.own 89 w' w.heap.size (Since w w') A' k c' (rowsC l) ∧ Below w.heap.size w w' := by
  have HC := Lib.hid (cutR F A m c 5 l w h hmc hc (by omega))
  rw [show ((5 : Nat) : Int) = 5 from rfl] at HC
  obtain ⟨kk, hkk⟩ : ∃ kk, kk = min m 5 := ⟨_, rfl⟩
  rw [← hkk] at HC
  have hkk5 : kk ≤ 5 := by omega
  obtain ⟨l5, hl5⟩ : ∃ l5, l5 = l.take 5 := ⟨_, rfl⟩
  rw [← hl5] at HC
  rw [show rowsC l = l5.map shortR from by rw [hl5]; rfl]
  clear h hmc hc hkk hl5
  go_enter Try.func52, Try.ntmps52
  go_wp2_with fail
  refine HC.out.mono ?_
  clear HC
  rintro e w1 ⟨A1, c1, rfl, ho1, q1⟩
  have HLN := Lib.hid (Lay.own_len ho1)
  have HR1 := Lib.hid (Lay.own_rd (F := fun _ => True) ho1 (fun _ _ _ => trivial) (fun _ _ _ => trivial))
  have HQ1 := Lib.hid q1
  have hs1 := q1.size
  clear ho1 q1
  go_wp2_with fail
  go_loopg [3, 11] kk (fun g o s wr => ∃ (i c' : Nat) (A' : Option Addr), i + g = kk ∧ s = .int .i64 i ∧ o = .slice A' i c' ∧ LR.own 89 wr w1.heap.size (Since w1 wr) A' i c' ((l5.map shortR).take i) ∧ Below w1.heap.size w1 wr)
  case atStart => exact ⟨0, 0, none, by omega, rfl, rfl, by simpa using Lay.own_nil w1 w1.heap.size, Below.refl _ _⟩
  case round =>
    obtain ⟨i, c', A', hig, rfl, rfl, ho, bb⟩ := hrel
    have HO := Lib.hid ho
    have HBB := Lib.hid bb
    have hsr := bb.size
    by_cases hi : i < kk
    · have hi1 : (i : Int) < (kk : Int) := by omega
      obtain ⟨ad, r, Ar, nr, cr, rfl, hri, hc0, l1, l2, hrd⟩ := LR_at (Lay.rd_below HR1.out bb) hi
      have HS := Lib.hid (show (l5.map shortR).take (i + 1) = (l5.map shortR).take i ++ [shortR r] from by rw [List.take_add_one, List.getElem?_map, hri]; rfl)
      have HCV := Lib.hid (cutVV _ Ar nr cr 17 r wr hrd l1 l2 (by omega))
      rw [show ((17 : Nat) : Int) = 17 from rfl] at HCV
      obtain ⟨k2, hk2⟩ : ∃ k2, k2 = min nr 17 := ⟨_, rfl⟩
      rw [← hk2] at HCV
      have hk17 : k2 ≤ 17 := by omega
      obtain ⟨r7, hr7⟩ : ∃ r7, r7 = r.take 17 := ⟨_, rfl⟩
      rw [← hr7] at HCV
      rw [show shortR r = r7.map VV.short from by rw [hr7]; rfl] at HS
      clear hri hrd l1 l2 hk2 hr7 ho bb
      go_wp2_with fail
      refine HCV.out.mono ?_
      clear HCV hc0
      rintro e w2 ⟨A2, c2, rfl, hov, q2⟩
      have HOV2 := Lib.hid (lvown_any (G := NoB) hov)
      have hl2 := Lay.own_len hov
      have HQ2 := Lib.hid q2
      have HO2 := Lib.hid (Lay.own_below HO.out q2)
      have hs2 := q2.size
      clear hov q2
      go_wp2_with fail
      obtain ⟨gi, rfl⟩ : ∃ g, g = gk := ⟨_, rfl⟩
      obtain ⟨ws, rfl⟩ : ∃ x, x = wr := ⟨_, rfl⟩
      go_loopg [19] k2 (fun g s wr => ∃ j : Nat, j + g = k2 ∧ s = .int .i64 j ∧ LV.own 142 wr ws.heap.size NoB A2 k2 c2 (mixV r7 j) ∧ Below ws.heap.size ws wr)
      case atStart => exact ⟨0, by omega, rfl, by simpa [mixV] using HOV2.out, HQ2.out⟩
      case round =>
        obtain ⟨j, hjg, rfl, hov, hbi⟩ := hrel
        have HOV := Lib.hid hov
        have HBI := Lib.hid hbi
        by_cases hj : j < k2
        · have hj1 : (j : Int) < (k2 : Int) := by omega
          have hwj : IntKind.i64.wrap (j : Int) = (j : Int) := by simp [IntKind.wrap, IntKind.signed, IntKind.bits]; omega
          obtain ⟨g2, rfl, hgb, hg2⟩ := own_some hov (by omega)
          obtain ⟨ad2, v, e, hv, q⟩ := LV_at (Lay.own_rd (F := fun _ => True) hov (fun _ _ _ => trivial) (fun _ _ _ => trivial)) hj
          injection e with e
          subst e
          have e3 : wr.cell? ⟨g2, j * 4 + 3, none⟩ = some (.string v.s) := by
            have := q.c3
            rw [addr_zero] at this
            exact this
          have HFZ := Lib.hid (fun w9 (hT : Below wr.heap.size wr w9) => own_frozen (Lay.own_below hov hT) (j * 4 + 3))
          have HV := Lib.hid hv
          have HV2 := Lib.hid (mixV_at hv (by omega))
          clear hov hbi hv q
          by_cases hsz : v.s.size ≤ 41
          · have hcs : cutS v.s = v.s := if_pos hsz
            have hmn : min (v.s.size : Int) 41 = (v.s.size : Int) := by omega
            go_wp2_with fail
            refine wp_region_ps (S := Seq1 17 (fun _ w' => Below wr.heap.size wr w') (fun _ w' => ∃ w6, Below wr.heap.size wr w6 ∧ w' = w6.setCell ⟨g2, j * 4 + 3, none⟩ (.string v.s))) (by kernel_rfl) ?spswpa ?ppswpa
            case spswpa =>
              exact Seq1.start (by decide) (Below.refl _ _).drew
            refine Ps.st (i := 0) (d := some 22) (u := _) rfl rfl (StepS.pure (Seq1.pass (by decide)) rfl fun w9 => by go_simp; try rfl) ?_
            try simp only [Act.put, sA, sZ, sS]
            refine Ps.st (i := 1) (d := some 23) (u := _) rfl rfl (StepS.pure (Seq1.pass (by decide)) rfl fun w9 => by go_simp; try rfl) ?_
            try simp only [Act.put, sA, sZ, sS]
            refine Ps.st (i := 2) (d := some 24) (u := _) rfl rfl (StepS.pure (Seq1.pass (by decide)) rfl fun w9 => by go_simp; try rfl) ?_
            try simp only [Act.put, sA, sZ, sS]
            refine Ps.st (i := 3) (d := some 25) (u := _) rfl rfl (StepS.pure (Seq1.pass (by decide)) rfl fun w9 => by go_simp; try rfl) ?_
            try simp only [Act.put, sA, sZ, sS]
            refine Ps.st (i := 4) (d := some 26) (u := _) rfl rfl (StepS.pure (Seq1.pass (by decide)) rfl fun w9 => by go_simp; try rfl) ?_
            try simp only [Act.put, sA, sZ, sS]
            refine Ps.st (i := 5) (d := some 27) (u := _) rfl rfl (StepS.pure (Seq1.pass (by decide)) rfl fun w9 => by go_simp; try rfl) ?_
            try simp only [Act.put, sA, sZ, sS]
            refine Ps.st (i := 6) (d := some 28) (u := ?uwpa_7) rfl rfl ?ywpa_7 ?rwpa_7
            case ywpa_7 =>
              refine StepS.read [] (by kernel_rfl) (Seq1.pass (by decide)) (by rfl) (fun L9 m9 w9 hSh hAt hDn hS => ?_)
              have hT : Below wr.heap.size wr w9 := Seq1.at1 (reach_no hSh (f := 22) (j := 17) (by kernel_rfl) hDn) hS
              have x3 : w9.cell? ⟨g2, j * 4 + 3, none⟩ = some (.string v.s) := cell_ca e3 hg2 hT
              clear hT hS
              go_simp
              try rfl
            try simp only [Act.put, sA, sZ, sS]
            refine Ps.st (i := 7) (d := some 29) (u := _) rfl rfl (StepS.pure (Seq1.pass (by decide)) rfl fun w9 => by go_simp; try rfl) ?_
            try simp only [Act.put, sA, sZ, sS]
            refine Ps.st (i := 8) (d := some 30) (u := _) rfl rfl (StepS.pure (Seq1.pass (by decide)) rfl fun w9 => by go_simp; try rfl) ?_
            try simp only [Act.put, sA, sZ, sS]
            refine Ps.st (i := 9) (d := some 31) (u := _) rfl rfl (StepS.pure (Seq1.pass (by decide)) rfl fun w9 => by go_simp; try rfl) ?_
            try simp only [Act.put, sA, sZ, sS]
            refine Ps.st (i := 10) (d := some 32) (u := _) rfl rfl (StepS.pure (Seq1.pass (by decide)) rfl fun w9 => by go_simp; try rfl) ?_
            try simp only [Act.put, sA, sZ, sS]
            refine Ps.st (i := 11) (d := some 33) (u := ?uwpa_12) rfl rfl ?ywpa_12 ?rwpa_12
            case ywpa_12 =>
              refine StepS.read [] (by kernel_rfl) (Seq1.pass (by decide)) (by rfl) (fun L9 m9 w9 hSh hAt hDn hS => ?_)
              have hT : Below wr.heap.size wr w9 := Seq1.at1 (reach_no hSh (f := 22) (j := 17) (by kernel_rfl) hDn) hS
              have x3 : w9.cell? ⟨g2, j * 4 + 3, none⟩ = some (.string v.s) := cell_ca e3 hg2 hT
              clear hT hS
              go_simp
              try rfl
            try simp only [Act.put, sA, sZ, sS]
            refine Ps.st (i := 12) (d := some 34) (u := _) rfl rfl (StepS.pure (Seq1.pass (by decide)) rfl fun w9 => by go_simp; try rfl) ?_
            try simp only [Act.put, sA, sZ, sS]
            refine Ps.st (i := 13) (d := some 35) (u := _) rfl rfl (StepS.pure (Seq1.pass (by decide)) rfl fun w9 => by go_simp; try rfl) ?_
            try simp only [Act.put, sA, sZ, sS]
            refine Ps.st (i := 14) (d := some 36) (u := _) rfl rfl (StepS.pure (Seq1.pass (by decide)) rfl fun w9 => by go_simp; try rfl) ?_
            try simp only [Act.put, sA, sZ, sS]
            refine Ps.st (i := 15) (d := some 37) (u := _) rfl rfl (StepS.pure (Seq1.pass (by decide)) rfl fun w9 => by go_simp; try rfl) ?_
            try simp only [Act.put, sA, sZ, sS]
            refine Ps.st (i := 16) (d := some 38) (u := _) rfl rfl (StepS.pure (Seq1.pass (by decide)) rfl fun w9 => by go_simp; try rfl) ?_
            try simp only [Act.put, sA, sZ, sS]
            refine Ps.st (i := 17) (d := none) (u := undef) rfl rfl ?ywpa_18 ?rwpa_18
            case ywpa_18 =>
              refine StepS.store [] (by kernel_rfl) (by rfl) (fun L9 m9 w9 hSh hAt hDn hS => ?_)
              have hT : Below wr.heap.size wr w9 := Seq1.at1 hDn hS
              have x3 : w9.cell? ⟨g2, j * 4 + 3, none⟩ = some (.string v.s) := cell_ca e3 hg2 hT
              have f3 : w9.frozen? ⟨g2, j * 4 + 3, none⟩ = false := HFZ.out w9 hT
              refine ⟨w9.setCell ⟨g2, j * 4 + 3, none⟩ (.string v.s), ?_, Seq1.set1 ⟨w9, hT, rfl⟩⟩
              clear hT hS
              go_simp
            try simp only [Act.put]
            refine Ps.done (by kernel_rfl) (fun wpa hS => ?_) _
            obtain ⟨w6, hT, e6⟩ := Seq1.fin (by rfl) hS
            clear hS
            have hset := Lay.own_part (L := LV) (j := 3) (vs := [.string v.s]) (x := v.short) (Lay.own_below HOV.out hT) HV.out (by show 3 + 1 ≤ 4; decide) (fun ds hds => by have h9 : ds = [.int .i64 v.k, .int .i64 v.n, .int .u64 v.u, .string v.s] := hds; subst h9; show _ = [_, _, _, _]; simp [VV.short, hcs])
            have e7 : w6.setCells g2 (j * LV.size + 3) [.string v.s] = w6.setCell ⟨g2, j * 4 + 3, none⟩ (.string v.s) := rfl
            rw [e7, ← e6] at hset
            have HOV7 := Lib.hid hset.1
            have HB7 := Lib.hid ((bl_ca HBI.out hT).grown hset.2 (by have := (bl_ca HBI.out hT).size; omega) (fun k e => by injection e with e; omega))
            clear hset e6 hT e7
            obtain ⟨w7, rfl⟩ : ∃ x, x = wpa := ⟨_, rfl⟩
            rw [mixV_set HV2.out] at HOV7
            go_wp2
            go_roundg (gk - 1)
            · exact ⟨j + 1, by omega, by go_num, HOV7.out, HB7.out⟩
            · omega
          · have hcs : cutS v.s = v.s.extract 0 41 := if_neg hsz
            have hmn : min (v.s.size : Int) 41 = 41 := by omega
            have hle : (41 : Int) ≤ (v.s.size : Int) := by omega
            go_wp2_with fail
            refine wp_region_ps (S := Seq1 17 (fun _ w' => Below wr.heap.size wr w') (fun _ w' => ∃ w6, Below wr.heap.size wr w6 ∧ w' = w6.setCell ⟨g2, j * 4 + 3, none⟩ (.string (v.s.extract 0 41)))) (by kernel_rfl) ?spswpb ?ppswpb
            case spswpb =>
              exact Seq1.start (by decide) (Below.refl _ _).drew
            refine Ps.st (i := 0) (d := some 22) (u := _) rfl rfl (StepS.pure (Seq1.pass (by decide)) rfl fun w9 => by go_simp; try rfl) ?_
            try simp only [Act.put, sA, sZ, sS]
            refine Ps.st (i := 1) (d := some 23) (u := _) rfl rfl (StepS.pure (Seq1.pass (by decide)) rfl fun w9 => by go_simp; try rfl) ?_
            try simp only [Act.put, sA, sZ, sS]
            refine Ps.st (i := 2) (d := some 24) (u := _) rfl rfl (StepS.pure (Seq1.pass (by decide)) rfl fun w9 => by go_simp; try rfl) ?_
            try simp only [Act.put, sA, sZ, sS]
            refine Ps.st (i := 3) (d := some 25) (u := _) rfl rfl (StepS.pure (Seq1.pass (by decide)) rfl fun w9 => by go_simp; try rfl) ?_
            try simp only [Act.put, sA, sZ, sS]
            refine Ps.st (i := 4) (d := some 26) (u := _) rfl rfl (StepS.pure (Seq1.pass (by decide)) rfl fun w9 => by go_simp; try rfl) ?_
            try simp only [Act.put, sA, sZ, sS]
            refine Ps.st (i := 5) (d := some 27) (u := _) rfl rfl (StepS.pure (Seq1.pass (by decide)) rfl fun w9 => by go_simp; try rfl) ?_
            try simp only [Act.put, sA, sZ, sS]
            refine Ps.st (i := 6) (d := some 28) (u := ?uwpb_25) rfl rfl ?ywpb_25 ?rwpb_25
            case ywpb_25 =>
              refine StepS.read [] (by kernel_rfl) (Seq1.pass (by decide)) (by rfl) (fun L9 m9 w9 hSh hAt hDn hS => ?_)
              have hT : Below wr.heap.size wr w9 := Seq1.at1 (reach_no hSh (f := 22) (j := 17) (by kernel_rfl) hDn) hS
              have x3 : w9.cell? ⟨g2, j * 4 + 3, none⟩ = some (.string v.s) := cell_ca e3 hg2 hT
              clear hT hS
              go_simp
              try rfl
            try simp only [Act.put, sA, sZ, sS]
            refine Ps.st (i := 7) (d := some 29) (u := _) rfl rfl (StepS.pure (Seq1.pass (by decide)) rfl fun w9 => by go_simp; try rfl) ?_
            try simp only [Act.put, sA, sZ, sS]
            refine Ps.st (i := 8) (d := some 30) (u := _) rfl rfl (StepS.pure (Seq1.pass (by decide)) rfl fun w9 => by go_simp; try rfl) ?_
            try simp only [Act.put, sA, sZ, sS]
            refine Ps.st (i := 9) (d := some 31) (u := _) rfl rfl (StepS.pure (Seq1.pass (by decide)) rfl fun w9 => by go_simp; try rfl) ?_
            try simp only [Act.put, sA, sZ, sS]
            refine Ps.st (i := 10) (d := some 32) (u := _) rfl rfl (StepS.pure (Seq1.pass (by decide)) rfl fun w9 => by go_simp; try rfl) ?_
            try simp only [Act.put, sA, sZ, sS]
            refine Ps.st (i := 11) (d := some 33) (u := ?uwpb_30) rfl rfl ?ywpb_30 ?rwpb_30
            case ywpb_30 =>
              refine StepS.read [] (by kernel_rfl) (Seq1.pass (by decide)) (by rfl) (fun L9 m9 w9 hSh hAt hDn hS => ?_)
              have hT : Below wr.heap.size wr w9 := Seq1.at1 (reach_no hSh (f := 22) (j := 17) (by kernel_rfl) hDn) hS
              have x3 : w9.cell? ⟨g2, j * 4 + 3, none⟩ = some (.string v.s) := cell_ca e3 hg2 hT
              clear hT hS
              go_simp
              try rfl
            try simp only [Act.put, sA, sZ, sS]
            refine Ps.st (i := 12) (d := some 34) (u := _) rfl rfl (StepS.pure (Seq1.pass (by decide)) rfl fun w9 => by go_simp; try rfl) ?_
            try simp only [Act.put, sA, sZ, sS]
            refine Ps.st (i := 13) (d := some 35) (u := _) rfl rfl (StepS.pure (Seq1.pass (by decide)) rfl fun w9 => by go_simp; try rfl) ?_
            try simp only [Act.put, sA, sZ, sS]
            refine Ps.st (i := 14) (d := some 36) (u := _) rfl rfl (StepS.pure (Seq1.pass (by decide)) rfl fun w9 => by go_simp; try rfl) ?_
            try simp only [Act.put, sA, sZ, sS]
            refine Ps.st (i := 15) (d := some 37) (u := _) rfl rfl (StepS.pure (Seq1.pass (by decide)) rfl fun w9 => by go_simp; try rfl) ?_
            try simp only [Act.put, sA, sZ, sS]
            refine Ps.st (i := 16) (d := some 38) (u := _) rfl rfl (StepS.pure (Seq1.pass (by decide)) rfl fun w9 => by go_simp; try rfl) ?_
            try simp only [Act.put, sA, sZ, sS]
            refine Ps.st (i := 17) (d := none) (u := undef) rfl rfl ?ywpb_36 ?rwpb_36
            case ywpb_36 =>
              refine StepS.store [] (by kernel_rfl) (by rfl) (fun L9 m9 w9 hSh hAt hDn hS => ?_)
              have hT : Below wr.heap.size wr w9 := Seq1.at1 hDn hS
              have x3 : w9.cell? ⟨g2, j * 4 + 3, none⟩ = some (.string v.s) := cell_ca e3 hg2 hT
              have f3 : w9.frozen? ⟨g2, j * 4 + 3, none⟩ = false := HFZ.out w9 hT
              refine ⟨w9.setCell ⟨g2, j * 4 + 3, none⟩ (.string (v.s.extract 0 41)), ?_, Seq1.set1 ⟨w9, hT, rfl⟩⟩
              clear hT hS
              go_simp
            try simp only [Act.put]
            refine Ps.done (by kernel_rfl) (fun wpb hS => ?_) _
            obtain ⟨w6, hT, e6⟩ := Seq1.fin (by rfl) hS
            clear hS
            have hset := Lay.own_part (L := LV) (j := 3) (vs := [.string (v.s.extract 0 41)]) (x := v.short) (Lay.own_below HOV.out hT) HV.out (by show 3 + 1 ≤ 4; decide) (fun ds hds => by have h9 : ds = [.int .i64 v.k, .int .i64 v.n, .int .u64 v.u, .string v.s] := hds; subst h9; show _ = [_, _, _, _]; simp [VV.short, hcs])
            have e7 : w6.setCells g2 (j * LV.size + 3) [.string (v.s.extract 0 41)] = w6.setCell ⟨g2, j * 4 + 3, none⟩ (.string (v.s.extract 0 41)) := rfl
            rw [e7, ← e6] at hset
            have HOV7 := Lib.hid hset.1
            have HB7 := Lib.hid ((bl_ca HBI.out hT).grown hset.2 (by have := (bl_ca HBI.out hT).size; omega) (fun k e => by injection e with e; omega))
            clear hset e6 hT e7
            obtain ⟨w7, rfl⟩ : ∃ x, x = wpb := ⟨_, rfl⟩
            rw [mixV_set HV2.out] at HOV7
            go_wp2
            go_roundg (gk - 1)
            · exact ⟨j + 1, by omega, by go_num, HOV7.out, HB7.out⟩
            · omega
        · obtain rfl : j = k2 := by omega
          have hj1 : (j : Int) ≤ (j : Int) := by omega
          rw [show mixV r7 j = r7.map VV.short from by unfold mixV; rw [← hl2, List.take_length, List.drop_length, List.append_nil]] at HOV
          have hrep := row_rep HOV.out HO.out hsr
          have hs3 := hbi.size
          have ho2 := Lay.own_weak (G' := Since w1 wr) (fun b hb _ => ⟨hb.1, Nat.lt_of_lt_of_le hb.2 hs3⟩) (own_below2 HO.out hbi)
          have ho3 := Lay.own_alloc ho2 (.cells #[.slice A2 j c2] 89)
          have hb2 := Blk.new wr 89 #[.slice A2 j c2]
          have hrep3 := LR.keep (fun b hb hlt => Below.heap_alloc wr (.cells #[.slice A2 j c2] 89) b hlt) hrep
          have b3 := bl_al (HBB.out.trans (hbi.mono hsr)) (.cells #[.slice A2 j c2] 89)
          have hszz := b3.size
          have hGG : ∀ b, Since w1 wr b → b < (wr.alloc (.cells #[.slice A2 j c2] 89)).heap.size := fun b hb => by have := hb.2; simp only [World.size_alloc]; omega
          clear hrep ho2 hbi HOV
          go_wp2_with (at_builtin; refine wpList_appL (L := LR) rfl (.tmp 40) (.tmp 42) 43 rfl _ 1 24 Try.underlying43 infoR rfl rfl (by omega) w1.heap.size (Since w1 wr) A' i c' ((l5.map shortR).take i) wr.heap.size 1 89 _ (r7.map VV.short) rfl rfl ho3 hb2 hrep3 hGG (by omega) (by simp only [maxLen]; omega) hszz ?_; intro A4 c4 w4 ho4 b4)
          have ho5 := Lay.own_weak (G' := Since w1 w4) (fun b hb hlt => ⟨hb.1, hlt⟩) ho4
          go_roundg (gi - 1)
          · exact ⟨i + 1, c4, A4, by omega, by go_num, rfl, by rw [HS.out]; exact ho5, b3.trans b4⟩
          · omega
    · obtain rfl : i = kk := by omega
      have hi1 : (i : Int) ≤ (i : Int) := by omega
      have e : (l5.map shortR).take i = l5.map shortR := List.take_of_length_le (by rw [List.length_map, HLN.out]; exact Nat.le_refl _)
      rw [e] at ho
      have HF := Lib.hid (Lay.own_lessB (Lay.own_weak (G' := Since w wr) (fun b hb _ => ⟨by have := hb.1; omega, hb.2⟩) ho) hs1)
      have HBF := Lib.hid (bl_ca HQ1.out bb)
      clear e ho bb
      go_wp2
      go_ret
      exact ⟨A', i, c', rfl, HF.out, HBF.out⟩
end Go.Proofs.Ytojghgbaiiajfaa
/- The references' equality of values, rows, batches and senders. Conditions: the slices read so. -/
namespace Go.Proofs.Ytojghgbaiiajfaa
open Go.RowKit
theorem sign_any (b : Bool) (w : World) : Calls Try.prog 123 #[.bool b] w fun e w' => (∃ z : Int, e = .returned (.int .i64 z) ∧ z ≠ 0) ∧ w = w' := by
  cases b
  all_goals
    go_enter Try.func123, Try.ntmps123
    go_wp2
    go_ret
    exact ⟨⟨_, rfl, by decide⟩, rfl⟩
/-- a number that is 0 where these are one, and only there -/
def Zr (P : Prop) (w : World) (e : Ending) (w' : World) : Prop := ∃ z : Int, e = .returned (.int .i64 z) ∧ (z = 0 ↔ P) ∧ Below w.heap.size w w'
theorem VV.ext' {a b : VV} (h0 : a.k = b.k) (h1 : a.n = b.n) (h2 : a.u = b.u) (h3 : a.s.toList = b.s.toList) : a = b := (eqVV_iff a b).1 (by simp [eqVV, h0, h1, h2, h3])
set_option maxRecDepth 100000 in
set_option maxHeartbeats 4000000 in
theorem value05_any (a b : VV) (w : World) : Calls Try.prog 122 #[.agg #[.int .i64 a.k, .int .i64 a.n, .int .u64 a.u, .string a.s], .agg #[.int .i64 b.k, .int .i64 b.n, .int .u64 b.u, .string b.s]] w (Zr (a = b) w) := by
  have b1 := bl_al (bl_al (Below.refl w.heap.size w) (.cells #[.int .i64 a.k, .int .i64 a.n, .int .u64 a.u, .string a.s] 142)) (.cells #[.int .i64 b.k, .int .i64 b.n, .int .u64 b.u, .string b.s] 142)
  have HB := Lib.hid b1
  have HX := Lib.hid (fun h0 h1 h2 h3 => @VV.ext' a b h0 h1 h2 h3)
  have HN := Lib.hid (fun h : a = b => (⟨by rw [h], by rw [h], by rw [h], by rw [h]⟩ : a.k = b.k ∧ a.n = b.n ∧ a.u = b.u ∧ a.s.toList = b.s.toList))
  have HSG := Lib.hid (fun z W => sign_any z W)
  obtain ⟨P, hP⟩ : ∃ P : Prop, P = (a = b) := ⟨_, rfl⟩
  rw [← hP] at HX HN ⊢
  clear hP b1
  obtain ⟨ak, an, au, sa⟩ := a
  obtain ⟨bk, bn, bu, sb⟩ := b
  dsimp only at *
  by_cases h0 : ak = bk
  · subst h0
    by_cases h1 : an = bn
    · subst h1
      by_cases h2 : au = bu
      · subst h2
        by_cases h3 : sa.toList = sb.toList
        · have HP := Lib.hid (HX.out rfl rfl rfl h3)
          go_enter Try.func122, Try.ntmps122
          go_wp2
          go_ret
          exact ⟨0, rfl, ⟨fun _ => HP.out, fun _ => rfl⟩, HB.out⟩
        · have d0 : (sa.toList == sb.toList) = false := by simpa using h3
          have d : (!(sa.toList == sb.toList)) = true := by rw [d0]; rfl
          have HP := Lib.hid (fun hp => h3 (HN.out hp).2.2.2)
          go_enter Try.func122, Try.ntmps122
          go_wp2_with fail
          refine (HSG.out _ _).mono ?_
          rintro e w2 ⟨⟨z, rfl, hz⟩, rfl⟩
          have HZ0 := Lib.hid hz
          clear hz
          go_wp2
          go_ret
          exact ⟨z, rfl, ⟨fun h => (HZ0.out h).elim, fun hp => (HP.out hp).elim⟩, HB.out⟩
      · have d : (au != bu) = true := by simpa using h2
        have HP := Lib.hid (fun hp => h2 (HN.out hp).2.2.1)
        go_enter Try.func122, Try.ntmps122
        go_wp2_with fail
        refine (HSG.out _ _).mono ?_
        rintro e w2 ⟨⟨z, rfl, hz⟩, rfl⟩
        have HZ0 := Lib.hid hz
        clear hz
        go_wp2
        go_ret
        exact ⟨z, rfl, ⟨fun h => (HZ0.out h).elim, fun hp => (HP.out hp).elim⟩, HB.out⟩
    · have d : (an != bn) = true := by simpa using h1
      have HP := Lib.hid (fun hp => h1 (HN.out hp).2.1)
      go_enter Try.func122, Try.ntmps122
      go_wp2_with fail
      refine (HSG.out _ _).mono ?_
      rintro e w2 ⟨⟨z, rfl, hz⟩, rfl⟩
      have HZ0 := Lib.hid hz
      clear hz
      go_wp2
      go_ret
      exact ⟨z, rfl, ⟨fun h => (HZ0.out h).elim, fun hp => (HP.out hp).elim⟩, HB.out⟩
  · have d : (ak != bk) = true := by simpa using h0
    have HP := Lib.hid (fun hp => h0 (HN.out hp).1)
    go_enter Try.func122, Try.ntmps122
    go_wp2_with fail
    refine (HSG.out _ _).mono ?_
    rintro e w2 ⟨⟨z, rfl, hz⟩, rfl⟩
    have HZ0 := Lib.hid hz
    clear hz
    go_wp2
    go_ret
    exact ⟨z, rfl, ⟨fun h => (HZ0.out h).elim, fun hp => (HP.out hp).elim⟩, HB.out⟩
theorem SV.ca {w w' : World} {p : Addr} {v : VV} (h : SV w p v) (hl : p.block < w.heap.size) (q : Below w.heap.size w w') : SV w' p v :=
  ⟨(q.cell (p := p) hl).trans h.c0, (q.cell (p := ⟨p.block, p.off + 1, none⟩) hl).trans h.c1, (q.cell (p := ⟨p.block, p.off + 2, none⟩) hl).trans h.c2, (q.cell (p := ⟨p.block, p.off + 3, none⟩) hl).trans h.c3⟩
theorem cell_lt {w : World} {p : Addr} {v : Value} (h : w.cell? p = some v) : p.block < w.heap.size := cells_block h
theorem SV.lt {w : World} {p : Addr} {v : VV} (h : SV w p v) : p.block < w.heap.size := cells_block h.c0
set_option maxRecDepth 100000 in
set_option maxHeartbeats 8000000 in
theorem compare05_any (F G : Nat → Prop) (A B : Option Addr) (m c n d : Nat) (xs ys : List VV) (w : World) (hx : LV.rd w F A m xs) (hy : LV.rd w G B n ys) (hm : m ≤ 9223372036854775807) (hn : n ≤ 9223372036854775807) :
    Calls Try.prog 111 #[.slice A m c, .slice B n d] w (Zr (xs = ys) w) := by
  have HXL := Lib.hid (Lay.rd_len hx)
  have HYL := Lib.hid (Lay.rd_len hy)
  have HSG := Lib.hid (fun z W => sign_any z W)
  go_enter Try.func111, Try.ntmps111
  go_wp2_with fail
  go_loopg [5] m (fun g s wr => ∃ i : Nat, i + g = m ∧ i ≤ n ∧ s = .int .i64 i ∧ xs.take i = ys.take i ∧ Below w.heap.size w wr)
  case atStart => exact ⟨0, by omega, by omega, rfl, rfl, Below.refl _ _⟩
  case round =>
    obtain ⟨i, hi1, hin, rfl, hp, bb⟩ := hrel
    have HBB := Lib.hid bb
    have HP := Lib.hid hp
    clear hp
    by_cases hi : i < m
    · have hil : (i : Int) < (m : Int) := by omega
      have hl1 : i < m := hi
      by_cases hj : i < n
      · have hjl : (i : Int) < (n : Int) := by omega
        obtain ⟨p1, v, rfl, hv, s1⟩ := LV_at (Lay.rd_below hx bb) hi
        obtain ⟨p2, u, rfl, hu, s2⟩ := LV_at (Lay.rd_below hy bb) hj
        have HS1 := Lib.hid (fun W (q : Below wr.heap.size wr W) => s1.ca s1.lt q)
        have HS2 := Lib.hid (fun W (q : Below wr.heap.size wr W) => s2.ca s2.lt q)
        have HVI := Lib.hid hv
        have HUI := Lib.hid hu
        clear hv hu hx hy bb s1 s2
        go_wp2_with fail
        refine wp_region_ps (S := fun _ _ w' => Below wr.heap.size wr w') (by kernel_rfl) ?spswqc ?ppswqc
        case spswqc =>
          exact (Below.refl _ _).drew
        refine Ps.st (i := 0) (d := some 19) (u := _) rfl rfl (StepS.pure (fun _ _ _ h => h) rfl fun w9 => by go_simp; try rfl) ?_
        try simp only [Act.put, sA, sZ, sS]
        refine Ps.st (i := 1) (d := some 20) (u := _) rfl rfl (StepS.pure (fun _ _ _ h => h) rfl fun w9 => by go_simp; try rfl) ?_
        try simp only [Act.put, sA, sZ, sS]
        refine Ps.st (i := 2) (d := some 21) (u := _) rfl rfl (StepS.pure (fun _ _ _ h => h) rfl fun w9 => by go_simp; try rfl) ?_
        try simp only [Act.put, sA, sZ, sS]
        refine Ps.st (i := 3) (d := some 22) (u := ?uwqc_4) rfl rfl ?ywqc_4 ?rwqc_4
        case ywqc_4 =>
          refine StepS.read [] (by kernel_rfl) (fun _ _ _ h => h) (by rfl) (fun L9 m9 w9 hSh hAt hDn hS => ?_)
          have hT : Below _ _ w9 := hS
          have x0 := (HS1.out w9 hT).c0
          have x1 := (HS1.out w9 hT).c1
          have x2 := (HS1.out w9 hT).c2
          have x3 := (HS1.out w9 hT).c3
          clear hT hS
          go_simp
          try rfl
        try simp only [Act.put, sA, sZ, sS]
        refine Ps.st (i := 4) (d := some 23) (u := _) rfl rfl (StepS.pure (fun _ _ _ h => h) rfl fun w9 => by go_simp; try rfl) ?_
        try simp only [Act.put, sA, sZ, sS]
        refine Ps.st (i := 5) (d := some 24) (u := _) rfl rfl (StepS.pure (fun _ _ _ h => h) rfl fun w9 => by go_simp; try rfl) ?_
        try simp only [Act.put, sA, sZ, sS]
        refine Ps.st (i := 6) (d := some 25) (u := _) rfl rfl (StepS.pure (fun _ _ _ h => h) rfl fun w9 => by go_simp; try rfl) ?_
        try simp only [Act.put, sA, sZ, sS]
        refine Ps.st (i := 7) (d := some 26) (u := ?uwqc_8) rfl rfl ?ywqc_8 ?rwqc_8
        case ywqc_8 =>
          refine StepS.read [] (by kernel_rfl) (fun _ _ _ h => h) (by rfl) (fun L9 m9 w9 hSh hAt hDn hS => ?_)
          have hT : Below _ _ w9 := hS
          have x0 := (HS2.out w9 hT).c0
          have x1 := (HS2.out w9 hT).c1
          have x2 := (HS2.out w9 hT).c2
          have x3 := (HS2.out w9 hT).c3
          clear hT hS
          go_simp
          try rfl
        try simp only [Act.put, sA, sZ, sS]
        refine Ps.one (k := 8) (d := some 27) rfl rfl (by kernel_rfl) (TurnS.call (V := fun x => ∃ z : Int, x = .int .i64 z ∧ (z = 0 ↔ v = u)) ?fwqc_9 ?awqc_9 [] (by kernel_rfl) (by rfl) (fun w9 => ?hwqc_9) (fun L9 m9 w9 hSh hAt hDn hS => ?cwqc_9)) (fun v8 hVv8 => ?rwqc_9)
        case hwqc_9 => go_simp; refine ⟨?_, ?_⟩ <;> rfl
        case cwqc_9 =>
          have hT : Below _ _ w9 := hS
          refine (value05_any v u w9).mono ?_
          rintro e w8 ⟨z, rfl, hz, q8⟩
          exact ⟨_, rfl, ⟨z, rfl, hz⟩, bl_ca hT q8⟩
        try simp only [Act.put, sA, sZ, sS]
        obtain ⟨z, rfl, hz⟩ := hVv8
        have HZ := Lib.hid hz
        clear hz
        refine Ps.st (i := 9) (d := some 6) (u := _) rfl rfl (StepS.pure (fun _ _ _ h => h) rfl fun w9 => by go_simp; try rfl) ?_
        try simp only [Act.put, sA, sZ, sS]
        refine Ps.done (by kernel_rfl) (fun wqc hS => ?_) _
        have HQ := Lib.hid (show Below wr.heap.size wr _ from hS)
        clear hS
        obtain ⟨w7, rfl⟩ : ∃ x, x = wqc := ⟨_, rfl⟩
        by_cases hz0 : z = 0
        · have d0 : ((z : Int) != 0) = false := by simpa using hz0
          have HP2 := Lib.hid (show xs.take (i + 1) = ys.take (i + 1) from by rw [List.take_add_one, List.take_add_one, HP.out, HVI.out, HUI.out, HZ.out.1 hz0])
          clear hz0
          go_wp2
          go_roundg (gk - 1)
          · exact ⟨i + 1, by omega, by omega, by go_num, HP2.out, bl_ca HBB.out HQ.out⟩
          · omega
        · have d0 : ((z : Int) != 0) = true := by simpa using hz0
          have HF := Lib.hid (show z = 0 ↔ xs = ys from ⟨fun h => (hz0 h).elim, fun h => HZ.out.2 (by have h1 := HVI.out; rw [h, HUI.out] at h1; injection h1 with h1; exact h1.symm)⟩)
          clear hz0
          go_wp2
          go_ret
          exact ⟨z, rfl, HF.out, bl_ca HBB.out HQ.out⟩
      · obtain rfl : i = n := by omega
        have hjl : (i : Int) ≤ (i : Int) := by omega
        have hne : ((m : Int) == (i : Int)) = false := by simp; omega
        have HF := Lib.hid (show ¬ xs = ys from fun h => by have h1 := HXL.out; rw [h, HYL.out] at h1; omega)
        clear hx hy bb hj
        go_wp2_with fail
        refine (HSG.out _ _).mono ?_
        rintro e w2 ⟨⟨z, rfl, hz⟩, rfl⟩
        have HZ0 := Lib.hid hz
        clear hz
        go_wp2
        go_ret
        exact ⟨z, rfl, ⟨fun h => (HZ0.out h).elim, fun hp => (HF.out hp).elim⟩, HBB.out⟩
    · obtain rfl : i = m := by omega
      have hil : (i : Int) ≤ (i : Int) := by omega
      by_cases hmn : i = n
      · subst hmn
        have HF := Lib.hid (show xs = ys from by
          have hp := HP.out
          rwa [List.take_of_length_le (by rw [HXL.out]; omega), List.take_of_length_le (by rw [HYL.out]; omega)] at hp)
        clear hx hy bb
        go_wp2
        go_ret
        exact ⟨0, rfl, ⟨fun _ => HF.out, fun _ => rfl⟩, HBB.out⟩
      · have hne : ((i : Int) == (n : Int)) = false := by simp; omega
        have HF := Lib.hid (show ¬ xs = ys from fun h => by have h1 := HXL.out; rw [h, HYL.out] at h1; omega)
        clear hx hy bb hmn
        go_wp2_with fail
        refine (HSG.out _ _).mono ?_
        rintro e w2 ⟨⟨z, rfl, hz⟩, rfl⟩
        have HZ0 := Lib.hid hz
        clear hz
        go_wp2
        go_ret
        exact ⟨z, rfl, ⟨fun h => (HZ0.out h).elim, fun hp => (HF.out hp).elim⟩, HBB.out⟩
set_option maxRecDepth 100000 in
set_option maxHeartbeats 8000000 in
theorem same05_any (F G : Nat → Prop) (A B : Option Addr) (m c n d : Nat) (xs ys : List (List VV)) (w : World) (hx : LR.rd w F A m xs) (hy : LR.rd w G B n ys) (hm : m ≤ 9223372036854775807) :
    Calls Try.prog 87 #[.slice A m c, .slice B n d] w fun e w' => e = .returned (.bool (decide (xs = ys))) ∧ Below w.heap.size w w' := by
  have hxl := Lay.rd_len hx
  have hyl := Lay.rd_len hy
  by_cases hmn : m = n
  · subst hmn
    obtain ⟨r, hr⟩ : ∃ r, r = decide (xs = ys) := ⟨_, rfl⟩
    rw [← hr]
    have HR := Lib.hid hr
    have HXL := Lib.hid hxl
    have HYL := Lib.hid hyl
    skip
    clear hr hxl hyl
    go_enter Try.func87, Try.ntmps87
    go_wp2_with fail
    go_loopg [5] m (fun g s wr => ∃ i : Nat, i + g ≤ m ∧ m ≤ i + g ∧ s = .int .i64 i ∧ xs.take i = ys.take i ∧ Below w.heap.size w wr)
    case atStart => exact ⟨0, by omega, by omega, rfl, rfl, Below.refl _ _⟩
    case round =>
      obtain ⟨i, hi1, hi2, rfl, hp, bb⟩ := hrel
      have HBB := Lib.hid bb
      have HP := Lib.hid hp
      clear hp
      by_cases hi : i < m
      · have hil : (i : Int) < (m : Int) := by omega
        obtain ⟨p1, v, B1, k1, c1, rfl, hv, e0, hk1, hk2, hr1⟩ := LR_at (Lay.rd_below hx bb) hi
        obtain ⟨p2, u, B2, k2, c2, rfl, hu, f0, hk3, hk4, hr2⟩ := LR_at (Lay.rd_below hy bb) hi
        have HE0 := Lib.hid (fun W (q : Below wr.heap.size wr W) => (q.cell (p := p1.add i) (cells_block e0)).trans e0)
        have HF0 := Lib.hid (fun W (q : Below wr.heap.size wr W) => (q.cell (p := p2.add i) (cells_block f0)).trans f0)
        have HCO := Lib.hid (fun W (q : Below wr.heap.size wr W) => compare05_any F G B1 B2 k1 c1 k2 c2 v u W (Lay.rd_below hr1 q) (Lay.rd_below hr2 q) (Nat.le_trans hk1 hk2) (Nat.le_trans hk3 hk4))
        clear hr1 hr2 e0 f0 hk1 hk2 hk3 hk4
        have HVI := Lib.hid hv
        have HUI := Lib.hid hu
        clear hv hu hx hy bb
        by_cases hvu : v = u
        · have HP2 := Lib.hid (show xs.take (i + 1) = ys.take (i + 1) from by rw [List.take_add_one, List.take_add_one, HP.out, HVI.out, HUI.out, hvu])
          have HVU := Lib.hid hvu
          clear hvu
          go_wp2_with fail
          refine wp_region_ps (S := fun _ _ w' => Below wr.heap.size wr w') (by kernel_rfl) ?spswqst ?ppswqst
          case spswqst =>
            exact (Below.refl _ _).drew
          refine Ps.st (i := 0) (d := some 17) (u := _) rfl rfl (StepS.pure (fun _ _ _ h => h) rfl fun w9 => by go_simp; try rfl) ?_
          try simp only [Act.put, sA, sZ, sS]
          refine Ps.st (i := 1) (d := some 18) (u := _) rfl rfl (StepS.pure (fun _ _ _ h => h) rfl fun w9 => by go_simp; try rfl) ?_
          try simp only [Act.put, sA, sZ, sS]
          refine Ps.st (i := 2) (d := some 19) (u := _) rfl rfl (StepS.pure (fun _ _ _ h => h) rfl fun w9 => by go_simp; try rfl) ?_
          try simp only [Act.put, sA, sZ, sS]
          refine Ps.st (i := 3) (d := some 20) (u := ?uwqst_14) rfl rfl ?ywqst_14 ?rwqst_14
          case ywqst_14 =>
            refine StepS.read [] (by kernel_rfl) (fun _ _ _ h => h) (by rfl) (fun L9 m9 w9 hSh hAt hDn hS => ?_)
            have hT : Below _ _ w9 := hS
            have x0 := HE0.out w9 hT
            clear hT hS
            go_simp
            try rfl
          try simp only [Act.put, sA, sZ, sS]
          refine Ps.st (i := 4) (d := some 21) (u := _) rfl rfl (StepS.pure (fun _ _ _ h => h) rfl fun w9 => by go_simp; try rfl) ?_
          try simp only [Act.put, sA, sZ, sS]
          refine Ps.st (i := 5) (d := some 22) (u := _) rfl rfl (StepS.pure (fun _ _ _ h => h) rfl fun w9 => by go_simp; try rfl) ?_
          try simp only [Act.put, sA, sZ, sS]
          refine Ps.st (i := 6) (d := some 23) (u := _) rfl rfl (StepS.pure (fun _ _ _ h => h) rfl fun w9 => by go_simp; try rfl) ?_
          try simp only [Act.put, sA, sZ, sS]
          refine Ps.st (i := 7) (d := some 24) (u := ?uwqst_18) rfl rfl ?ywqst_18 ?rwqst_18
          case ywqst_18 =>
            refine StepS.read [] (by kernel_rfl) (fun _ _ _ h => h) (by rfl) (fun L9 m9 w9 hSh hAt hDn hS => ?_)
            have hT : Below _ _ w9 := hS
            have x0 := HF0.out w9 hT
            clear hT hS
            go_simp
            try rfl
          try simp only [Act.put, sA, sZ, sS]
          refine Ps.one (k := 8) (d := some 25) rfl rfl (by kernel_rfl) (TurnS.call (V := fun x => ∃ z : Int, x = .int .i64 z ∧ (z = 0 ↔ v = u)) ?fwqst_19 ?awqst_19 [] (by kernel_rfl) (by rfl) (fun w9 => ?hwqst_19) (fun L9 m9 w9 hSh hAt hDn hS => ?cwqst_19)) (fun v8 hVv8 => ?rwqst_19)
          case hwqst_19 => go_simp; refine ⟨?_, ?_⟩ <;> rfl
          case cwqst_19 =>
            have hT : Below _ _ w9 := hS
            refine (HCO.out w9 hT).mono ?_
            rintro e w8 ⟨z, rfl, hz, q8⟩
            exact ⟨_, rfl, ⟨z, rfl, hz⟩, bl_ca hT q8⟩
          try simp only [Act.put, sA, sZ, sS]
          obtain ⟨z, rfl, hz⟩ := hVv8
          have HZ := Lib.hid hz
          clear hz
          refine Ps.st (i := 9) (d := some 26) (u := _) rfl rfl (StepS.pure (fun _ _ _ h => h) rfl fun w9 => by go_simp; try rfl) ?_
          try simp only [Act.put, sA, sZ, sS]
          refine Ps.done (by kernel_rfl) (fun wqst hS => ?_) _
          have HBN := Lib.hid (bl_ca HBB.out (show Below wr.heap.size wr _ from hS))
          clear hS
          obtain ⟨w7, rfl⟩ : ∃ x, x = wqst := ⟨_, rfl⟩
          obtain rfl : z = 0 := HZ.out.2 HVU.out
          go_wp2
          go_roundg (gk - 1)
          · exact ⟨i + 1, by omega, by omega, by go_num, HP2.out, HBN.out⟩
          · omega
        · have HF := Lib.hid (show r = false from by
            rw [HR.out]
            refine decide_eq_false fun e => hvu ?_
            have h1 := HVI.out
            rw [e, HUI.out] at h1
            injection h1 with h1
            exact h1.symm)
          have HVU := Lib.hid hvu
          clear hvu
          go_wp2_with fail
          refine wp_region_ps (S := fun _ _ w' => Below wr.heap.size wr w') (by kernel_rfl) ?spswqsf ?ppswqsf
          case spswqsf =>
            exact (Below.refl _ _).drew
          refine Ps.st (i := 0) (d := some 17) (u := _) rfl rfl (StepS.pure (fun _ _ _ h => h) rfl fun w9 => by go_simp; try rfl) ?_
          try simp only [Act.put, sA, sZ, sS]
          refine Ps.st (i := 1) (d := some 18) (u := _) rfl rfl (StepS.pure (fun _ _ _ h => h) rfl fun w9 => by go_simp; try rfl) ?_
          try simp only [Act.put, sA, sZ, sS]
          refine Ps.st (i := 2) (d := some 19) (u := _) rfl rfl (StepS.pure (fun _ _ _ h => h) rfl fun w9 => by go_simp; try rfl) ?_
          try simp only [Act.put, sA, sZ, sS]
          refine Ps.st (i := 3) (d := some 20) (u := ?uwqsf_24) rfl rfl ?ywqsf_24 ?rwqsf_24
          case ywqsf_24 =>
            refine StepS.read [] (by kernel_rfl) (fun _ _ _ h => h) (by rfl) (fun L9 m9 w9 hSh hAt hDn hS => ?_)
            have hT : Below _ _ w9 := hS
            have x0 := HE0.out w9 hT
            clear hT hS
            go_simp
            try rfl
          try simp only [Act.put, sA, sZ, sS]
          refine Ps.st (i := 4) (d := some 21) (u := _) rfl rfl (StepS.pure (fun _ _ _ h => h) rfl fun w9 => by go_simp; try rfl) ?_
          try simp only [Act.put, sA, sZ, sS]
          refine Ps.st (i := 5) (d := some 22) (u := _) rfl rfl (StepS.pure (fun _ _ _ h => h) rfl fun w9 => by go_simp; try rfl) ?_
          try simp only [Act.put, sA, sZ, sS]
          refine Ps.st (i := 6) (d := some 23) (u := _) rfl rfl (StepS.pure (fun _ _ _ h => h) rfl fun w9 => by go_simp; try rfl) ?_
          try simp only [Act.put, sA, sZ, sS]
          refine Ps.st (i := 7) (d := some 24) (u := ?uwqsf_28) rfl rfl ?ywqsf_28 ?rwqsf_28
          case ywqsf_28 =>
            refine StepS.read [] (by kernel_rfl) (fun _ _ _ h => h) (by rfl) (fun L9 m9 w9 hSh hAt hDn hS => ?_)
            have hT : Below _ _ w9 := hS
            have x0 := HF0.out w9 hT
            clear hT hS
            go_simp
            try rfl
          try simp only [Act.put, sA, sZ, sS]
          refine Ps.one (k := 8) (d := some 25) rfl rfl (by kernel_rfl) (TurnS.call (V := fun x => ∃ z : Int, x = .int .i64 z ∧ (z = 0 ↔ v = u)) ?fwqsf_29 ?awqsf_29 [] (by kernel_rfl) (by rfl) (fun w9 => ?hwqsf_29) (fun L9 m9 w9 hSh hAt hDn hS => ?cwqsf_29)) (fun v8 hVv8 => ?rwqsf_29)
          case hwqsf_29 => go_simp; refine ⟨?_, ?_⟩ <;> rfl
          case cwqsf_29 =>
            have hT : Below _ _ w9 := hS
            refine (HCO.out w9 hT).mono ?_
            rintro e w8 ⟨z, rfl, hz, q8⟩
            exact ⟨_, rfl, ⟨z, rfl, hz⟩, bl_ca hT q8⟩
          try simp only [Act.put, sA, sZ, sS]
          obtain ⟨z, rfl, hz⟩ := hVv8
          have HZ := Lib.hid hz
          clear hz
          refine Ps.st (i := 9) (d := some 26) (u := _) rfl rfl (StepS.pure (fun _ _ _ h => h) rfl fun w9 => by go_simp; try rfl) ?_
          try simp only [Act.put, sA, sZ, sS]
          refine Ps.done (by kernel_rfl) (fun wqsf hS => ?_) _
          have HBN := Lib.hid (bl_ca HBB.out (show Below wr.heap.size wr _ from hS))
          clear hS
          obtain ⟨w7, rfl⟩ : ∃ x, x = wqsf := ⟨_, rfl⟩
          have d0 : ((z : Int) != 0) = true := by simp; exact fun h => HVU.out (HZ.out.1 h)
          go_wp2
          go_ret
          exact ⟨ret_bool (by rw [HF.out]), HBN.out⟩
      · obtain rfl : i = m := by omega
        have hil : (i : Int) ≤ (i : Int) := by omega
        have HT := Lib.hid (show r = true from by
          have hp := HP.out
          rw [List.take_of_length_le (by rw [HXL.out]; omega), List.take_of_length_le (by rw [HYL.out]; omega)] at hp
          rw [HR.out]
          exact decide_eq_true hp)
        clear hx hy bb
        go_wp2
        go_ret
        exact ⟨ret_bool (by rw [HT.out]), HBB.out⟩
  · have e : decide (xs = ys) = false := decide_eq_false fun e => hmn (by rw [← hxl, ← hyl, e])
    rw [e]
    clear e hx hy hxl hyl
    go_enter Try.func87, Try.ntmps87
    go_wp2
    go_ret
    exact ⟨rfl, Below.refl _ _⟩
end Go.Proofs.Ytojghgbaiiajfaa
/- The references' equality of batches and senders. Conditions: the slices read so. -/
namespace Go.Proofs.Ytojghgbaiiajfaa
open Go.RowKit
set_option maxRecDepth 100000 in
set_option maxHeartbeats 4000000 in
theorem rsameB_any (F G : Nat → Prop) (a b : BC) (A B : Option Addr) (m c n d : Nat) (w : World) (hx : LR.rd w F A m a.rows) (hy : LR.rd w G B n b.rows) (hm : m ≤ 9223372036854775807) :
    Calls Try.prog 38 #[.agg (a.cells A m c), .agg (b.cells B n d)] w fun e w' => e = .returned (.bool (eqBC a b)) ∧ Below w.heap.size w w' := by
  have b1 := bl_al (bl_al (Below.refl w.heap.size w) (.cells (a.cells A m c) 45)) (.cells (b.cells B n d) 45)
  have HE := Lib.hid (same05_any F G A B m c n d a.rows b.rows _ (Lay.rd_below hx b1) (Lay.rd_below hy b1) hm)
  have HB := Lib.hid b1
  have HR := Lib.hid (show eqBC a b = (a.fin == b.fin && (a.cnt == b.cnt && decide (a.rows = b.rows))) from rfl)
  generalize eqBC a b = r at *
  clear hx hy b1
  obtain ⟨ra, fa, na⟩ := a
  obtain ⟨rb, fb, nb⟩ := b
  dsimp only at *
  generalize decide (ra = rb) = z at *
  by_cases hf : fa = fb
  · subst hf
    by_cases hn : na = nb
    · subst hn
      go_enter Try.func38, Try.ntmps38
      go_wp2_with fail
      refine HE.out.mono ?_
      rintro e w2 ⟨rfl, q2⟩
      have HQ := Lib.hid (bl_ca HB.out q2)
      clear q2
      go_wp2
      go_ret
      exact ⟨ret_bool (by rw [HR.out]; simp), HQ.out⟩
    · have d1 : (na == nb) = false := by simpa using hn
      clear hn
      go_enter Try.func38, Try.ntmps38
      go_wp2
      go_ret
      exact ⟨ret_bool (by rw [HR.out, d1]; simp), HB.out⟩
  · have d1 : (fa == fb) = false := by simpa using hf
    clear hf
    go_enter Try.func38, Try.ntmps38
    go_wp2
    go_ret
    exact ⟨ret_bool (by rw [HR.out, d1]; simp), HB.out⟩
theorem SB.ca {w w' : World} {F : Nat → Prop} {p : Addr} {b : BC} {B : Option Addr} {n c : Nat} (h : SB w F p b B n c) (q : Below w.heap.size w w') : SB w' F p b B n c :=
  ⟨(q.cell (p := p) (cells_block h.c0)).trans h.c0, (q.cell (p := ⟨p.block, p.off + 1, none⟩) (cells_block h.c1)).trans h.c1, (q.cell (p := ⟨p.block, p.off + 2, none⟩) (cells_block h.c2)).trans h.c2, h.nc, h.cm, Lay.rd_below h.rd q⟩
set_option maxRecDepth 100000 in
set_option maxHeartbeats 8000000 in
theorem rsameBs_any (F G : Nat → Prop) (A B : Option Addr) (m c n d : Nat) (xs ys : List BC) (w : World) (hx : LB3.rd w F A m xs) (hy : LB3.rd w G B n ys) (hm : m ≤ 9223372036854775807) :
    Calls Try.prog 50 #[.slice A m c, .slice B n d] w fun e w' => e = .returned (.bool (decide (xs = ys))) ∧ Below w.heap.size w w' := by
  have hxl := Lay.rd_len hx
  have hyl := Lay.rd_len hy
  by_cases hmn : m = n
  · subst hmn
    obtain ⟨r, hr⟩ : ∃ r, r = decide (xs = ys) := ⟨_, rfl⟩
    rw [← hr]
    have HR := Lib.hid hr
    have HXL := Lib.hid hxl
    have HYL := Lib.hid hyl
    skip
    clear hr hxl hyl
    go_enter Try.func50, Try.ntmps50
    go_wp2_with fail
    go_loopg [13] m (fun g s wr => ∃ i : Nat, i + g ≤ m ∧ m ≤ i + g ∧ s = .int .i64 i ∧ xs.take i = ys.take i ∧ Below w.heap.size w wr)
    case atStart => exact ⟨0, by omega, by omega, rfl, rfl, Below.refl _ _⟩
    case round =>
      obtain ⟨i, hi1, hi2, rfl, hp, bb⟩ := hrel
      have HBB := Lib.hid bb
      have HP := Lib.hid hp
      clear hp
      by_cases hi : i < m
      · have hil : (i : Int) < (m : Int) := by omega
        obtain ⟨p1, v, B1, k1, c1, rfl, hv, s1⟩ := LB3_at (Lay.rd_below hx bb) hi
        obtain ⟨p2, u, B2, k2, c2, rfl, hu, s2⟩ := LB3_at (Lay.rd_below hy bb) hi
        have HS1 := Lib.hid (fun W (q : Below wr.heap.size wr W) => s1.ca q)
        have HS2 := Lib.hid (fun W (q : Below wr.heap.size wr W) => s2.ca q)
        have HCO := Lib.hid (fun W (q : Below wr.heap.size wr W) => rsameB_any F G v u B1 B2 k1 c1 k2 c2 W (s1.ca q).rd (s2.ca q).rd (Nat.le_trans s1.nc s1.cm))
        clear s1 s2
        have HVI := Lib.hid hv
        have HUI := Lib.hid hu
        clear hv hu hx hy bb
        by_cases hvu : v = u
        · have HP2 := Lib.hid (show xs.take (i + 1) = ys.take (i + 1) from by rw [List.take_add_one, List.take_add_one, HP.out, HVI.out, HUI.out, hvu])
          have HVU := Lib.hid hvu
          clear hvu
          have HEQ := Lib.hid (show eqBC v u = true from (eqBC_iff v u).2 HVU.out)
          go_wp2_with fail
          refine wp_region_ps (S := fun _ _ w' => Below wr.heap.size wr w') (by kernel_rfl) ?spswqst ?ppswqst
          case spswqst =>
            exact (Below.refl _ _).drew
          refine Ps.st (i := 0) (d := some 16) (u := _) rfl rfl (StepS.pure (fun _ _ _ h => h) rfl fun w9 => by go_simp; try rfl) ?_
          try simp only [Act.put, sA, sZ, sS]
          refine Ps.st (i := 1) (d := some 17) (u := _) rfl rfl (StepS.pure (fun _ _ _ h => h) rfl fun w9 => by go_simp; try rfl) ?_
          try simp only [Act.put, sA, sZ, sS]
          refine Ps.st (i := 2) (d := some 18) (u := _) rfl rfl (StepS.pure (fun _ _ _ h => h) rfl fun w9 => by go_simp; try rfl) ?_
          try simp only [Act.put, sA, sZ, sS]
          refine Ps.st (i := 3) (d := some 19) (u := ?uwqst_4) rfl rfl ?ywqst_4 ?rwqst_4
          case ywqst_4 =>
            refine StepS.read [] (by kernel_rfl) (fun _ _ _ h => h) (by rfl) (fun L9 m9 w9 hSh hAt hDn hS => ?_)
            have hT : Below _ _ w9 := hS
            have x0 := (HS1.out w9 hT).c0
            have x1 := (HS1.out w9 hT).c1
            have x2 := (HS1.out w9 hT).c2
            clear hT hS
            go_simp
            try rfl
          try simp only [Act.put, sA, sZ, sS]
          refine Ps.st (i := 4) (d := some 20) (u := _) rfl rfl (StepS.pure (fun _ _ _ h => h) rfl fun w9 => by go_simp; try rfl) ?_
          try simp only [Act.put, sA, sZ, sS]
          refine Ps.st (i := 5) (d := some 21) (u := _) rfl rfl (StepS.pure (fun _ _ _ h => h) rfl fun w9 => by go_simp; try rfl) ?_
          try simp only [Act.put, sA, sZ, sS]
          refine Ps.st (i := 6) (d := some 22) (u := _) rfl rfl (StepS.pure (fun _ _ _ h => h) rfl fun w9 => by go_simp; try rfl) ?_
          try simp only [Act.put, sA, sZ, sS]
          refine Ps.st (i := 7) (d := some 23) (u := ?uwqst_8) rfl rfl ?ywqst_8 ?rwqst_8
          case ywqst_8 =>
            refine StepS.read [] (by kernel_rfl) (fun _ _ _ h => h) (by rfl) (fun L9 m9 w9 hSh hAt hDn hS => ?_)
            have hT : Below _ _ w9 := hS
            have x0 := (HS2.out w9 hT).c0
            have x1 := (HS2.out w9 hT).c1
            have x2 := (HS2.out w9 hT).c2
            clear hT hS
            go_simp
            try rfl
          try simp only [Act.put, sA, sZ, sS]
          refine Ps.st (i := 8) (d := some 24) (u := (.bool true)) rfl rfl ?ywqst_9 ?rwqst_9
          case ywqst_9 =>
            refine StepS.call ?fwqst_9 ?awqst_9 [] (by kernel_rfl) (by rfl) (fun w9 => ?hwqst_9) (fun L9 m9 w9 hSh hAt hDn hS => ?cwqst_9)
            case hwqst_9 => go_simp; refine ⟨?_, ?_⟩ <;> rfl
            case cwqst_9 =>
              have hT : Below _ _ w9 := hS
              refine (HCO.out w9 hT).mono ?_
              rintro e w8 ⟨rfl, q8⟩
              exact ⟨by rw [HEQ.out], bl_ca hT q8⟩
          try simp only [Act.put, sA, sZ, sS]
          refine Ps.st (i := 9) (d := some 25) (u := _) rfl rfl (StepS.pure (fun _ _ _ h => h) rfl fun w9 => by go_simp; try rfl) ?_
          try simp only [Act.put, sA, sZ, sS]
          refine Ps.done (by kernel_rfl) (fun wqst hS => ?_) _
          have HBN := Lib.hid (bl_ca HBB.out (show Below wr.heap.size wr _ from hS))
          clear hS
          obtain ⟨w7, rfl⟩ : ∃ x, x = wqst := ⟨_, rfl⟩
          go_wp2
          go_roundg (gk - 1)
          · exact ⟨i + 1, by omega, by omega, by go_num, HP2.out, HBN.out⟩
          · omega
        · have HF := Lib.hid (show r = false from by
            rw [HR.out]
            refine decide_eq_false fun e => hvu ?_
            have h1 := HVI.out
            rw [e, HUI.out] at h1
            injection h1 with h1
            exact h1.symm)
          have HVU := Lib.hid hvu
          clear hvu
          have HEQ := Lib.hid (show eqBC v u = false from by cases he : eqBC v u; rfl; exact absurd ((eqBC_iff v u).1 he) HVU.out)
          go_wp2_with fail
          refine wp_region_ps (S := fun _ _ w' => Below wr.heap.size wr w') (by kernel_rfl) ?spswqsf ?ppswqsf
          case spswqsf =>
            exact (Below.refl _ _).drew
          refine Ps.st (i := 0) (d := some 16) (u := _) rfl rfl (StepS.pure (fun _ _ _ h => h) rfl fun w9 => by go_simp; try rfl) ?_
          try simp only [Act.put, sA, sZ, sS]
          refine Ps.st (i := 1) (d := some 17) (u := _) rfl rfl (StepS.pure (fun _ _ _ h => h) rfl fun w9 => by go_simp; try rfl) ?_
          try simp only [Act.put, sA, sZ, sS]
          refine Ps.st (i := 2) (d := some 18) (u := _) rfl rfl (StepS.pure (fun _ _ _ h => h) rfl fun w9 => by go_simp; try rfl) ?_
          try simp only [Act.put, sA, sZ, sS]
          refine Ps.st (i := 3) (d := some 19) (u := ?uwqsf_14) rfl rfl ?ywqsf_14 ?rwqsf_14
          case ywqsf_14 =>
            refine StepS.read [] (by kernel_rfl) (fun _ _ _ h => h) (by rfl) (fun L9 m9 w9 hSh hAt hDn hS => ?_)
            have hT : Below _ _ w9 := hS
            have x0 := (HS1.out w9 hT).c0
            have x1 := (HS1.out w9 hT).c1
            have x2 := (HS1.out w9 hT).c2
            clear hT hS
            go_simp
            try rfl
          try simp only [Act.put, sA, sZ, sS]
          refine Ps.st (i := 4) (d := some 20) (u := _) rfl rfl (StepS.pure (fun _ _ _ h => h) rfl fun w9 => by go_simp; try rfl) ?_
          try simp only [Act.put, sA, sZ, sS]
          refine Ps.st (i := 5) (d := some 21) (u := _) rfl rfl (StepS.pure (fun _ _ _ h => h) rfl fun w9 => by go_simp; try rfl) ?_
          try simp only [Act.put, sA, sZ, sS]
          refine Ps.st (i := 6) (d := some 22) (u := _) rfl rfl (StepS.pure (fun _ _ _ h => h) rfl fun w9 => by go_simp; try rfl) ?_
          try simp only [Act.put, sA, sZ, sS]
          refine Ps.st (i := 7) (d := some 23) (u := ?uwqsf_18) rfl rfl ?ywqsf_18 ?rwqsf_18
          case ywqsf_18 =>
            refine StepS.read [] (by kernel_rfl) (fun _ _ _ h => h) (by rfl) (fun L9 m9 w9 hSh hAt hDn hS => ?_)
            have hT : Below _ _ w9 := hS
            have x0 := (HS2.out w9 hT).c0
            have x1 := (HS2.out w9 hT).c1
            have x2 := (HS2.out w9 hT).c2
            clear hT hS
            go_simp
            try rfl
          try simp only [Act.put, sA, sZ, sS]
          refine Ps.st (i := 8) (d := some 24) (u := (.bool false)) rfl rfl ?ywqsf_19 ?rwqsf_19
          case ywqsf_19 =>
            refine StepS.call ?fwqsf_19 ?awqsf_19 [] (by kernel_rfl) (by rfl) (fun w9 => ?hwqsf_19) (fun L9 m9 w9 hSh hAt hDn hS => ?cwqsf_19)
            case hwqsf_19 => go_simp; refine ⟨?_, ?_⟩ <;> rfl
            case cwqsf_19 =>
              have hT : Below _ _ w9 := hS
              refine (HCO.out w9 hT).mono ?_
              rintro e w8 ⟨rfl, q8⟩
              exact ⟨by rw [HEQ.out], bl_ca hT q8⟩
          try simp only [Act.put, sA, sZ, sS]
          refine Ps.st (i := 9) (d := some 25) (u := _) rfl rfl (StepS.pure (fun _ _ _ h => h) rfl fun w9 => by go_simp; try rfl) ?_
          try simp only [Act.put, sA, sZ, sS]
          refine Ps.done (by kernel_rfl) (fun wqsf hS => ?_) _
          have HBN := Lib.hid (bl_ca HBB.out (show Below wr.heap.size wr _ from hS))
          clear hS
          obtain ⟨w7, rfl⟩ : ∃ x, x = wqsf := ⟨_, rfl⟩
          go_wp2
          go_ret
          exact ⟨ret_bool (by rw [HF.out]), HBN.out⟩
      · obtain rfl : i = m := by omega
        have hil : (i : Int) ≤ (i : Int) := by omega
        have HT := Lib.hid (show r = true from by
          have hp := HP.out
          rw [List.take_of_length_le (by rw [HXL.out]; omega), List.take_of_length_le (by rw [HYL.out]; omega)] at hp
          rw [HR.out]
          exact decide_eq_true hp)
        clear hx hy bb
        go_wp2
        go_ret
        exact ⟨ret_bool (by rw [HT.out]), HBB.out⟩
  · have e : decide (xs = ys) = false := decide_eq_false fun e => hmn (by rw [← hxl, ← hyl, e])
    rw [e]
    clear e hx hy hxl hyl
    go_enter Try.func50, Try.ntmps50
    go_wp2
    go_ret
    exact ⟨rfl, Below.refl _ _⟩
set_option maxRecDepth 100000 in
set_option maxHeartbeats 8000000 in
theorem rsameS_any (F G : Nat → Prop) (a b : SC) (A B : Option Addr) (m c n d : Nat) (w : World) (hx : LB3.rd w F A m a.q) (hy : LB3.rd w G B n b.q) (hm : m ≤ 9223372036854775807) :
    Calls Try.prog 12 #[.agg (a.cells A m c), .agg (b.cells B n d)] w fun e w' => e = .returned (.bool (eqSC a b)) ∧ Below w.heap.size w w' := by
  have b1 := bl_al (bl_al (Below.refl w.heap.size w) (.cells (a.cells A m c) 29)) (.cells (b.cells B n d) 29)
  have HE := Lib.hid (rsameBs_any F G A B m c n d a.q b.q _ (Lay.rd_below hx b1) (Lay.rd_below hy b1) hm)
  have HB := Lib.hid b1
  have HR := Lib.hid (show eqSC a b = (flatSC a b && decide (a.q = b.q)) from rfl)
  generalize eqSC a b = r at *
  clear hx hy b1
  obtain ⟨a0, a1, qa, a3, a4, a5, a6⟩ := a
  obtain ⟨b0, b1, qb, b3, b4, b5, b6⟩ := b
  unfold flatSC at HR
  dsimp only at *
  generalize decide (qa = qb) = z at *
  by_cases h0 : a0 = b0
  · subst h0
    by_cases h1 : a1 = b1
    · subst h1
      by_cases h2 : a3 = b3
      · subst h2
        by_cases h3 : a4 = b4
        · subst h3
          by_cases h4 : a5 = b5
          · subst h4
            by_cases h5 : a6 = b6
            · subst h5
              go_enter Try.func12, Try.ntmps12
              go_wp2_with fail
              refine HE.out.mono ?_
              rintro e w2 ⟨rfl, q2⟩
              have HQ := Lib.hid (bl_ca HB.out q2)
              clear q2
              go_wp2
              go_ret
              exact ⟨ret_bool (by rw [HR.out]; simp), HQ.out⟩
            · have d1 : (a6 == b6) = false := by simpa using h5
              clear h5
              go_enter Try.func12, Try.ntmps12
              go_wp2
              go_ret
              exact ⟨ret_bool (by rw [HR.out, d1]; simp), HB.out⟩
          · have d1 : (a5 == b5) = false := by simpa using h4
            clear h4
            go_enter Try.func12, Try.ntmps12
            go_wp2
            go_ret
            exact ⟨ret_bool (by rw [HR.out, d1]; simp), HB.out⟩
        · have d1 : (a4 == b4) = false := by simpa using h3
          clear h3
          go_enter Try.func12, Try.ntmps12
          go_wp2
          go_ret
          exact ⟨ret_bool (by rw [HR.out, d1]; simp), HB.out⟩
      · have d1 : (a3 == b3) = false := by simpa using h2
        clear h2
        go_enter Try.func12, Try.ntmps12
        go_wp2
        go_ret
        exact ⟨ret_bool (by rw [HR.out, d1]; simp), HB.out⟩
    · have d1 : (a1 == b1) = false := by simpa using h1
      clear h1
      go_enter Try.func12, Try.ntmps12
      go_wp2
      go_ret
      exact ⟨ret_bool (by rw [HR.out, d1]; simp), HB.out⟩
  · have d1 : (a0 == b0) = false := by simpa using h0
    clear h0
    go_enter Try.func12, Try.ntmps12
    go_wp2
    go_ret
    exact ⟨ret_bool (by rw [HR.out, d1]; simp), HB.out⟩
end Go.Proofs.Ytojghgbaiiajfaa
