/- bowspritlaw22.rows. Conditions: the slice reads as these rows. -/
import Derived.Test.YtojghgbaiiajfaaPkS6
namespace Go.Proofs.Ytojghgbaiiajfaa
open Go.RowKit
def Since (w0 w : World) : Nat → Prop := fun b => w0.heap.size ≤ b ∧ b < w.heap.size
def NoB : Nat → Prop := fun _ => False
theorem lvreps_any {w : World} {F G : Nat → Prop} : ∀ {xs : List VV} {cs : List Value}, LV.reps w F xs cs → LV.reps w G xs cs
  | [], _, h => h
  | _ :: _, _, ⟨a, b, e, ha, hb⟩ => ⟨a, b, e, ha, lvreps_any hb⟩
theorem lvown_any {e : TypeId} {w : World} {B n c : Nat} {F G : Nat → Prop} {A : Option Addr} {xs : List VV} (h : LV.own e w B F A n c xs) : LV.own e w B G A n c xs := by
  obtain ⟨hl, cs, hr, ho⟩ := h
  exact ⟨hl, cs, lvreps_any hr, ho⟩
theorem row_rep {w0 w1 w : World} {A : Option Addr} {k c : Nat} {r : List VV} {A' : Option Addr} {n' c' : Nat} {xs : List (List VV)} (h : LV.own 142 w w1.heap.size NoB A k c r) (ho : LR.own 89 w1 w0.heap.size (Since w0 w1) A' n' c' xs) (h01 : w0.heap.size ≤ w1.heap.size) :
    LR.rep w (fun b => Since w0 w b ∧ (Value.slice A' n' c').ownBlock ≠ some b) r [.slice A k c] := by
  have hc := Lay.own_caps h
  refine ⟨A, k, c, rfl, hc.1, hc.2, Lay.own_rd h (fun b hb hlt => ⟨⟨by omega, hlt⟩, fun e => ?_⟩) (fun b hb => hb.elim)⟩
  obtain ⟨_, _, _, hrow⟩ := ho
  have := (own_base' hrow b e).2
  omega
/-- the first ones shortened -/
def mixV (r : List VV) (j : Nat) : List VV := (r.take j).map VV.short ++ r.drop j
theorem mixV_set {r : List VV} {j : Nat} {v : VV} (h : r[j]? = some v) : (mixV r j).set j v.short = mixV r (j + 1) := by
  obtain ⟨hl, rfl⟩ := List.getElem?_eq_some_iff.1 h
  unfold mixV
  rw [List.take_succ_eq_append_getElem hl, List.map_append, List.set_append_right _ _ (by simp; omega)]
  simp [Nat.min_eq_left (Nat.le_of_lt hl)]
  rw [List.drop_eq_getElem_cons hl, List.set_cons_zero]
theorem mixV_at {r : List VV} {j : Nat} {v : VV} (h : (mixV r j)[j]? = some v) (hj : j < r.length) : r[j]? = some v := by
  unfold mixV at h
  rw [List.getElem?_append_right (by simp; omega), List.length_map, List.length_take, Nat.min_eq_left (by omega), Nat.sub_self] at h
  simpa using h
theorem mixV_len (r : List VV) (j : Nat) : (mixV r j).length = r.length := by unfold mixV; simp; omega
theorem cell_ca {w w2 : World} {p : Addr} {v : Value} (h : w.cell? p = some v) (hp : p.block < w.heap.size) (q : Below w.heap.size w w2) : w2.cell? p = some v := (q.cell hp).trans h
theorem addr_zero (g i : Nat) : (⟨g, 0, none⟩ : Addr).add i = ⟨g, i, none⟩ := by unfold Addr.add; split <;> simp_all
theorem own_below2 {α : Type} {L : Lay α} {e : TypeId} {w w' : World} {B n c : Nat} {G : Nat → Prop} {A : Option Addr} {xs : List α} (h : L.own e w B G A n c xs) (q : Below w.heap.size w w') : L.own e w' B G A n c xs := Lay.own_below h q
theorem own_frozen {α : Type} {L : Lay α} {e : TypeId} {w : World} {B n c g : Nat} {G : Nat → Prop} {xs : List α} (h : L.own e w B G (some ⟨g, 0, none⟩) n c xs) (i : Nat) : w.frozen? ⟨g, i, none⟩ = false := by
  obtain ⟨_, cs, _, _, h2⟩ := h
  rcases h2 with ⟨e, _⟩ | ⟨g', cap, cur, e, _, hb, _⟩
  · cases e
  · injection e with e
    injection e with e
    injection e with e
    subst e
    exact Blk.frozen hb i
theorem own_some {α : Type} {L : Lay α} {e : TypeId} {w : World} {B n c : Nat} {G : Nat → Prop} {A : Option Addr} {xs : List α} (h : L.own e w B G A n c xs) (hn : 0 < n) : ∃ g, A = some ⟨g, 0, none⟩ ∧ B ≤ g ∧ g < w.heap.size := by
  obtain ⟨_, cs, _, hrow⟩ := h
  obtain ⟨g, cap, hv, h1, h2⟩ := World.ownsRow.form hrow hn
  injection hv with hA
  exact ⟨g, hA, h1, h2⟩
set_option maxRecDepth 100000 in
set_option maxHeartbeats 8000000 in
theorem rowsC_any (F : Nat → Prop) (A : Option Addr) (m c : Nat) (l : List (List VV)) (w : World) (h : LR.rd w F A m l) (hmc : m ≤ c) (hc : c ≤ 9223372036854775807) :
    Calls Try.prog 52 #[.slice A m c] w fun e w' => ∃ A' k c', e = .returned (.slice A' k c') ∧ LR.own 89 w' w.heap.size (Since w w') A' k c' (rowsC l) ∧ Below w.heap.size w w' := by
  have HC := Lib.hid (cutR F A m c 5 l w h hmc hc (by omega))
  rw [show ((5 : Nat) : Int) = 5 from rfl] at HC
  obtain ⟨kk, hkk⟩ : ∃ kk, kk = min m 5 := ⟨_, rfl⟩
  rw [← hkk] at HC
  have hkk5 : kk ≤ 5 := by omega
  obtain ⟨l5, hl5⟩ : ∃ l5, l5 = l.take 5 := ⟨_, rfl⟩
  rw [← hl5] at HC
  rw [show rowsC l = l5.map shortR from by rw [hl5]; rfl]
  clear h hmc hc hkk hl5
  go_enter Try.func52, Try.ntmps52
  go_wp2_with fail
  refine HC.out.mono ?_
  clear HC
  rintro e w1 ⟨A1, c1, rfl, ho1, q1⟩
  have HLN := Lib.hid (Lay.own_len ho1)
  have HR1 := Lib.hid (Lay.own_rd (F := fun _ => True) ho1 (fun _ _ _ => trivial) (fun _ _ _ => trivial))
  have HQ1 := Lib.hid q1
  have hs1 := q1.size
  clear ho1 q1
  go_wp2_with fail
  go_loopg [3, 11] kk (fun g o s wr => ∃ (i c' : Nat) (A' : Option Addr), i + g = kk ∧ s = .int .i64 i ∧ o = .slice A' i c' ∧ LR.own 89 wr w1.heap.size (Since w1 wr) A' i c' ((l5.map shortR).take i) ∧ Below w1.heap.size w1 wr)
  case atStart => exact ⟨0, 0, none, by omega, rfl, rfl, by simpa using Lay.own_nil w1 w1.heap.size, Below.refl _ _⟩
  case round =>
    obtain ⟨i, c', A', hig, rfl, rfl, ho, bb⟩ := hrel
    have HO := Lib.hid ho
    have HBB := Lib.hid bb
    have hsr := bb.size
    by_cases hi : i < kk
    · have hi1 : (i : Int) < (kk : Int) := by omega
      obtain ⟨ad, r, Ar, nr, cr, rfl, hri, hc0, l1, l2, hrd⟩ := LR_at (Lay.rd_below HR1.out bb) hi
      have HS := Lib.hid (show (l5.map shortR).take (i + 1) = (l5.map shortR).take i ++ [shortR r] from by rw [List.take_add_one, List.getElem?_map, hri]; rfl)
      have HCV := Lib.hid (cutVV _ Ar nr cr 17 r wr hrd l1 l2 (by omega))
      rw [show ((17 : Nat) : Int) = 17 from rfl] at HCV
      obtain ⟨k2, hk2⟩ : ∃ k2, k2 = min nr 17 := ⟨_, rfl⟩
      rw [← hk2] at HCV
      have hk17 : k2 ≤ 17 := by omega
      obtain ⟨r7, hr7⟩ : ∃ r7, r7 = r.take 17 := ⟨_, rfl⟩
      rw [← hr7] at HCV
      rw [show shortR r = r7.map VV.short from by rw [hr7]; rfl] at HS
      clear hri hrd l1 l2 hk2 hr7 ho bb
      go_wp2_with fail
      refine HCV.out.mono ?_
      clear HCV hc0
      rintro e w2 ⟨A2, c2, rfl, hov, q2⟩
      have HOV2 := Lib.hid (lvown_any (G := NoB) hov)
      have hl2 := Lay.own_len hov
      have HQ2 := Lib.hid q2
      have HO2 := Lib.hid (Lay.own_below HO.out q2)
      have hs2 := q2.size
      clear hov q2
      go_wp2_with fail
      obtain ⟨gi, rfl⟩ : ∃ g, g = gk := ⟨_, rfl⟩
      obtain ⟨ws, rfl⟩ : ∃ x, x = wr := ⟨_, rfl⟩
      go_loopg [19] k2 (fun g s wr => ∃ j : Nat, j + g = k2 ∧ s = .int .i64 j ∧ LV.own 142 wr ws.heap.size NoB A2 k2 c2 (mixV r7 j) ∧ Below ws.heap.size ws wr)
      case atStart => exact ⟨0, by omega, rfl, by simpa [mixV] using HOV2.out, HQ2.out⟩
      case round =>
        obtain ⟨j, hjg, rfl, hov, hbi⟩ := hrel
        have HOV := Lib.hid hov
        have HBI := Lib.hid hbi
        by_cases hj : j < k2
        · have hj1 : (j : Int) < (k2 : Int) := by omega
          have hwj : IntKind.i64.wrap (j : Int) = (j : Int) := by simp [IntKind.wrap, IntKind.signed, IntKind.bits]; omega
          obtain ⟨g2, rfl, hgb, hg2⟩ := own_some hov (by omega)
          obtain ⟨ad2, v, e, hv, q⟩ := LV_at (Lay.own_rd (F := fun _ => True) hov (fun _ _ _ => trivial) (fun _ _ _ => trivial)) hj
          injection e with e
          subst e
          have e3 : wr.cell? ⟨g2, j * 4 + 3, none⟩ = some (.string v.s) := by
            have := q.c3
            rw [addr_zero] at this
            exact this
          have HFZ := Lib.hid (fun w9 (hT : Below wr.heap.size wr w9) => own_frozen (Lay.own_below hov hT) (j * 4 + 3))
          have HV := Lib.hid hv
          have HV2 := Lib.hid (mixV_at hv (by omega))
          clear hov hbi hv q
          by_cases hsz : v.s.size ≤ 41
          · have hcs : cutS v.s = v.s := if_pos hsz
            have hmn : min (v.s.size : Int) 41 = (v.s.size : Int) := by omega
            go_wp2_with fail
            refine wp_region_ps (S := Seq1 17 (fun _ w' => Below wr.heap.size wr w') (fun _ w' => ∃ w6, Below wr.heap.size wr w6 ∧ w' = w6.setCell ⟨g2, j * 4 + 3, none⟩ (.string v.s))) (by kernel_rfl) ?spswpa ?ppswpa
            case spswpa =>
              exact Seq1.start (by decide) (Below.refl _ _).drew
            refine Ps.st (i := 0) (d := some 22) (u := _) rfl rfl (StepS.pure (Seq1.pass (by decide)) rfl fun w9 => by go_simp; try rfl) ?_
            try simp only [Act.put, sA, sZ, sS]
            refine Ps.st (i := 1) (d := some 23) (u := _) rfl rfl (StepS.pure (Seq1.pass (by decide)) rfl fun w9 => by go_simp; try rfl) ?_
            try simp only [Act.put, sA, sZ, sS]
            refine Ps.st (i := 2) (d := some 24) (u := _) rfl rfl (StepS.pure (Seq1.pass (by decide)) rfl fun w9 => by go_simp; try rfl) ?_
            try simp only [Act.put, sA, sZ, sS]
            refine Ps.st (i := 3) (d := some 25) (u := _) rfl rfl (StepS.pure (Seq1.pass (by decide)) rfl fun w9 => by go_simp; try rfl) ?_
            try simp only [Act.put, sA, sZ, sS]
            refine Ps.st (i := 4) (d := some 26) (u := _) rfl rfl (StepS.pure (Seq1.pass (by decide)) rfl fun w9 => by go_simp; try rfl) ?_
            try simp only [Act.put, sA, sZ, sS]
            refine Ps.st (i := 5) (d := some 27) (u := _) rfl rfl (StepS.pure (Seq1.pass (by decide)) rfl fun w9 => by go_simp; try rfl) ?_
            try simp only [Act.put, sA, sZ, sS]
            refine Ps.st (i := 6) (d := some 28) (u := ?uwpa_7) rfl rfl ?ywpa_7 ?rwpa_7
            case ywpa_7 =>
              refine StepS.read [] (by kernel_rfl) (Seq1.pass (by decide)) (by rfl) (fun L9 m9 w9 hSh hAt hDn hS => ?_)
              have hT : Below wr.heap.size wr w9 := Seq1.at1 (reach_no hSh (f := 22) (j := 17) (by kernel_rfl) hDn) hS
              have x3 : w9.cell? ⟨g2, j * 4 + 3, none⟩ = some (.string v.s) := cell_ca e3 hg2 hT
              clear hT hS
              go_simp
              try rfl
            try simp only [Act.put, sA, sZ, sS]
            refine Ps.st (i := 7) (d := some 29) (u := _) rfl rfl (StepS.pure (Seq1.pass (by decide)) rfl fun w9 => by go_simp; try rfl) ?_
            try simp only [Act.put, sA, sZ, sS]
            refine Ps.st (i := 8) (d := some 30) (u := _) rfl rfl (StepS.pure (Seq1.pass (by decide)) rfl fun w9 => by go_simp; try rfl) ?_
            try simp only [Act.put, sA, sZ, sS]
            refine Ps.st (i := 9) (d := some 31) (u := _) rfl rfl (StepS.pure (Seq1.pass (by decide)) rfl fun w9 => by go_simp; try rfl) ?_
            try simp only [Act.put, sA, sZ, sS]
            refine Ps.st (i := 10) (d := some 32) (u := _) rfl rfl (StepS.pure (Seq1.pass (by decide)) rfl fun w9 => by go_simp; try rfl) ?_
            try simp only [Act.put, sA, sZ, sS]
            refine Ps.st (i := 11) (d := some 33) (u := ?uwpa_12) rfl rfl ?ywpa_12 ?rwpa_12
            case ywpa_12 =>
              refine StepS.read [] (by kernel_rfl) (Seq1.pass (by decide)) (by rfl) (fun L9 m9 w9 hSh hAt hDn hS => ?_)
              have hT : Below wr.heap.size wr w9 := Seq1.at1 (reach_no hSh (f := 22) (j := 17) (by kernel_rfl) hDn) hS
              have x3 : w9.cell? ⟨g2, j * 4 + 3, none⟩ = some (.string v.s) := cell_ca e3 hg2 hT
              clear hT hS
              go_simp
              try rfl
            try simp only [Act.put, sA, sZ, sS]
            refine Ps.st (i := 12) (d := some 34) (u := _) rfl rfl (StepS.pure (Seq1.pass (by decide)) rfl fun w9 => by go_simp; try rfl) ?_
            try simp only [Act.put, sA, sZ, sS]
            refine Ps.st (i := 13) (d := some 35) (u := _) rfl rfl (StepS.pure (Seq1.pass (by decide)) rfl fun w9 => by go_simp; try rfl) ?_
            try simp only [Act.put, sA, sZ, sS]
            refine Ps.st (i := 14) (d := some 36) (u := _) rfl rfl (StepS.pure (Seq1.pass (by decide)) rfl fun w9 => by go_simp; try rfl) ?_
            try simp only [Act.put, sA, sZ, sS]
            refine Ps.st (i := 15) (d := some 37) (u := _) rfl rfl (StepS.pure (Seq1.pass (by decide)) rfl fun w9 => by go_simp; try rfl) ?_
            try simp only [Act.put, sA, sZ, sS]
            refine Ps.st (i := 16) (d := some 38) (u := _) rfl rfl (StepS.pure (Seq1.pass (by decide)) rfl fun w9 => by go_simp; try rfl) ?_
            try simp only [Act.put, sA, sZ, sS]
            refine Ps.st (i := 17) (d := none) (u := undef) rfl rfl ?ywpa_18 ?rwpa_18
            case ywpa_18 =>
              refine StepS.store [] (by kernel_rfl) (by rfl) (fun L9 m9 w9 hSh hAt hDn hS => ?_)
              have hT : Below wr.heap.size wr w9 := Seq1.at1 hDn hS
              have x3 : w9.cell? ⟨g2, j * 4 + 3, none⟩ = some (.string v.s) := cell_ca e3 hg2 hT
              have f3 : w9.frozen? ⟨g2, j * 4 + 3, none⟩ = false := HFZ.out w9 hT
              refine ⟨w9.setCell ⟨g2, j * 4 + 3, none⟩ (.string v.s), ?_, Seq1.set1 ⟨w9, hT, rfl⟩⟩
              clear hT hS
              go_simp
            try simp only [Act.put]
            refine Ps.done (by kernel_rfl) (fun wpa hS => ?_) _
            obtain ⟨w6, hT, e6⟩ := Seq1.fin (by rfl) hS
            clear hS
            have hset := Lay.own_part (L := LV) (j := 3) (vs := [.string v.s]) (x := v.short) (Lay.own_below HOV.out hT) HV.out (by show 3 + 1 ≤ 4; decide) (fun ds hds => by have h9 : ds = [.int .i64 v.k, .int .i64 v.n, .int .u64 v.u, .string v.s] := hds; subst h9; show _ = [_, _, _, _]; simp [VV.short, hcs])
            have e7 : w6.setCells g2 (j * LV.size + 3) [.string v.s] = w6.setCell ⟨g2, j * 4 + 3, none⟩ (.string v.s) := rfl
            rw [e7, ← e6] at hset
            have HOV7 := Lib.hid hset.1
            have HB7 := Lib.hid ((bl_ca HBI.out hT).grown hset.2 (by have := (bl_ca HBI.out hT).size; omega) (fun k e => by injection e with e; omega))
            clear hset e6 hT e7
            obtain ⟨w7, rfl⟩ : ∃ x, x = wpa := ⟨_, rfl⟩
            rw [mixV_set HV2.out] at HOV7
            go_wp2
            go_roundg (gk - 1)
            · exact ⟨j + 1, by omega, by go_num, HOV7.out, HB7.out⟩
            · omega
          · have hcs : cutS v.s = v.s.extract 0 41 := if_neg hsz
            have hmn : min (v.s.size : Int) 41 = 41 := by omega
            have hle : (41 : Int) ≤ (v.s.size : Int) := by omega
            go_wp2_with fail
            refine wp_region_ps (S := Seq1 17 (fun _ w' => Below wr.heap.size wr w') (fun _ w' => ∃ w6, Below wr.heap.size wr w6 ∧ w' = w6.setCell ⟨g2, j * 4 + 3, none⟩ (.string (v.s.extract 0 41)))) (by kernel_rfl) ?spswpb ?ppswpb
            case spswpb =>
              exact Seq1.start (by decide) (Below.refl _ _).drew
            refine Ps.st (i := 0) (d := some 22) (u := _) rfl rfl (StepS.pure (Seq1.pass (by decide)) rfl fun w9 => by go_simp; try rfl) ?_
            try simp only [Act.put, sA, sZ, sS]
            refine Ps.st (i := 1) (d := some 23) (u := _) rfl rfl (StepS.pure (Seq1.pass (by decide)) rfl fun w9 => by go_simp; try rfl) ?_
            try simp only [Act.put, sA, sZ, sS]
            refine Ps.st (i := 2) (d := some 24) (u := _) rfl rfl (StepS.pure (Seq1.pass (by decide)) rfl fun w9 => by go_simp; try rfl) ?_
            try simp only [Act.put, sA, sZ, sS]
            refine Ps.st (i := 3) (d := some 25) (u := _) rfl rfl (StepS.pure (Seq1.pass (by decide)) rfl fun w9 => by go_simp; try rfl) ?_
            try simp only [Act.put, sA, sZ, sS]
            refine Ps.st (i := 4) (d := some 26) (u := _) rfl rfl (StepS.pure (Seq1.pass (by decide)) rfl fun w9 => by go_simp; try rfl) ?_
            try simp only [Act.put, sA, sZ, sS]
            refine Ps.st (i := 5) (d := some 27) (u := _) rfl rfl (StepS.pure (Seq1.pass (by decide)) rfl fun w9 => by go_simp; try rfl) ?_
            try simp only [Act.put, sA, sZ, sS]
            refine Ps.st (i := 6) (d := some 28) (u := ?uwpb_25) rfl rfl ?ywpb_25 ?rwpb_25
            case ywpb_25 =>
              refine StepS.read [] (by kernel_rfl) (Seq1.pass (by decide)) (by rfl) (fun L9 m9 w9 hSh hAt hDn hS => ?_)
              have hT : Below wr.heap.size wr w9 := Seq1.at1 (reach_no hSh (f := 22) (j := 17) (by kernel_rfl) hDn) hS
              have x3 : w9.cell? ⟨g2, j * 4 + 3, none⟩ = some (.string v.s) := cell_ca e3 hg2 hT
              clear hT hS
              go_simp
              try rfl
            try simp only [Act.put, sA, sZ, sS]
            refine Ps.st (i := 7) (d := some 29) (u := _) rfl rfl (StepS.pure (Seq1.pass (by decide)) rfl fun w9 => by go_simp; try rfl) ?_
            try simp only [Act.put, sA, sZ, sS]
            refine Ps.st (i := 8) (d := some 30) (u := _) rfl rfl (StepS.pure (Seq1.pass (by decide)) rfl fun w9 => by go_simp; try rfl) ?_
            try simp only [Act.put, sA, sZ, sS]
            refine Ps.st (i := 9) (d := some 31) (u := _) rfl rfl (StepS.pure (Seq1.pass (by decide)) rfl fun w9 => by go_simp; try rfl) ?_
            try simp only [Act.put, sA, sZ, sS]
            refine Ps.st (i := 10) (d := some 32) (u := _) rfl rfl (StepS.pure (Seq1.pass (by decide)) rfl fun w9 => by go_simp; try rfl) ?_
            try simp only [Act.put, sA, sZ, sS]
            refine Ps.st (i := 11) (d := some 33) (u := ?uwpb_30) rfl rfl ?ywpb_30 ?rwpb_30
            case ywpb_30 =>
              refine StepS.read [] (by kernel_rfl) (Seq1.pass (by decide)) (by rfl) (fun L9 m9 w9 hSh hAt hDn hS => ?_)
              have hT : Below wr.heap.size wr w9 := Seq1.at1 (reach_no hSh (f := 22) (j := 17) (by kernel_rfl) hDn) hS
              have x3 : w9.cell? ⟨g2, j * 4 + 3, none⟩ = some (.string v.s) := cell_ca e3 hg2 hT
              clear hT hS
              go_simp
              try rfl
            try simp only [Act.put, sA, sZ, sS]
            refine Ps.st (i := 12) (d := some 34) (u := _) rfl rfl (StepS.pure (Seq1.pass (by decide)) rfl fun w9 => by go_simp; try rfl) ?_
            try simp only [Act.put, sA, sZ, sS]
            refine Ps.st (i := 13) (d := some 35) (u := _) rfl rfl (StepS.pure (Seq1.pass (by decide)) rfl fun w9 => by go_simp; try rfl) ?_
            try simp only [Act.put, sA, sZ, sS]
            refine Ps.st (i := 14) (d := some 36) (u := _) rfl rfl (StepS.pure (Seq1.pass (by decide)) rfl fun w9 => by go_simp; try rfl) ?_
            try simp only [Act.put, sA, sZ, sS]
            refine Ps.st (i := 15) (d := some 37) (u := _) rfl rfl (StepS.pure (Seq1.pass (by decide)) rfl fun w9 => by go_simp; try rfl) ?_
            try simp only [Act.put, sA, sZ, sS]
            refine Ps.st (i := 16) (d := some 38) (u := _) rfl rfl (StepS.pure (Seq1.pass (by decide)) rfl fun w9 => by go_simp; try rfl) ?_
            try simp only [Act.put, sA, sZ, sS]
            refine Ps.st (i := 17) (d := none) (u := undef) rfl rfl ?ywpb_36 ?rwpb_36
            case ywpb_36 =>
              refine StepS.store [] (by kernel_rfl) (by rfl) (fun L9 m9 w9 hSh hAt hDn hS => ?_)
              have hT : Below wr.heap.size wr w9 := Seq1.at1 hDn hS
              have x3 : w9.cell? ⟨g2, j * 4 + 3, none⟩ = some (.string v.s) := cell_ca e3 hg2 hT
              have f3 : w9.frozen? ⟨g2, j * 4 + 3, none⟩ = false := HFZ.out w9 hT
              refine ⟨w9.setCell ⟨g2, j * 4 + 3, none⟩ (.string (v.s.extract 0 41)), ?_, Seq1.set1 ⟨w9, hT, rfl⟩⟩
              clear hT hS
              go_simp
            try simp only [Act.put]
            refine Ps.done (by kernel_rfl) (fun wpb hS => ?_) _
            obtain ⟨w6, hT, e6⟩ := Seq1.fin (by rfl) hS
            clear hS
            have hset := Lay.own_part (L := LV) (j := 3) (vs := [.string (v.s.extract 0 41)]) (x := v.short) (Lay.own_below HOV.out hT) HV.out (by show 3 + 1 ≤ 4; decide) (fun ds hds => by have h9 : ds = [.int .i64 v.k, .int .i64 v.n, .int .u64 v.u, .string v.s] := hds; subst h9; show _ = [_, _, _, _]; simp [VV.short, hcs])
            have e7 : w6.setCells g2 (j * LV.size + 3) [.string (v.s.extract 0 41)] = w6.setCell ⟨g2, j * 4 + 3, none⟩ (.string (v.s.extract 0 41)) := rfl
            rw [e7, ← e6] at hset
            have HOV7 := Lib.hid hset.1
            have HB7 := Lib.hid ((bl_ca HBI.out hT).grown hset.2 (by have := (bl_ca HBI.out hT).size; omega) (fun k e => by injection e with e; omega))
            clear hset e6 hT e7
            obtain ⟨w7, rfl⟩ : ∃ x, x = wpb := ⟨_, rfl⟩
            rw [mixV_set HV2.out] at HOV7
            go_wp2
            go_roundg (gk - 1)
            · exact ⟨j + 1, by omega, by go_num, HOV7.out, HB7.out⟩
            · omega
        · obtain rfl : j = k2 := by omega
          have hj1 : (j : Int) ≤ (j : Int) := by omega
          rw [show mixV r7 j = r7.map VV.short from by unfold mixV; rw [← hl2, List.take_length, List.drop_length, List.append_nil]] at HOV
          have hrep := row_rep HOV.out HO.out hsr
          have hs3 := hbi.size
          have ho2 := Lay.own_weak (G' := Since w1 wr) (fun b hb _ => ⟨hb.1, Nat.lt_of_lt_of_le hb.2 hs3⟩) (own_below2 HO.out hbi)
          have ho3 := Lay.own_alloc ho2 (.cells #[.slice A2 j c2] 89)
          have hb2 := Blk.new wr 89 #[.slice A2 j c2]
          have hrep3 := LR.keep (fun b hb hlt => Below.heap_alloc wr (.cells #[.slice A2 j c2] 89) b hlt) hrep
          have b3 := bl_al (HBB.out.trans (hbi.mono hsr)) (.cells #[.slice A2 j c2] 89)
          have hszz := b3.size
          have hGG : ∀ b, Since w1 wr b → b < (wr.alloc (.cells #[.slice A2 j c2] 89)).heap.size := fun b hb => by have := hb.2; simp only [World.size_alloc]; omega
          clear hrep ho2 hbi HOV
          go_wp2_with (at_builtin; refine wpList_appL (L := LR) rfl (.tmp 40) (.tmp 42) 43 rfl _ 1 24 Try.underlying43 infoR rfl rfl (by omega) w1.heap.size (Since w1 wr) A' i c' ((l5.map shortR).take i) wr.heap.size 1 89 _ (r7.map VV.short) rfl rfl ho3 hb2 hrep3 hGG (by omega) (by simp only [maxLen]; omega) hszz ?_; intro A4 c4 w4 ho4 b4)
          have ho5 := Lay.own_weak (G' := Since w1 w4) (fun b hb hlt => ⟨hb.1, hlt⟩) ho4
          go_roundg (gi - 1)
          · exact ⟨i + 1, c4, A4, by omega, by go_num, rfl, by rw [HS.out]; exact ho5, b3.trans b4⟩
          · omega
    · obtain rfl : i = kk := by omega
      have hi1 : (i : Int) ≤ (i : Int) := by omega
      have e : (l5.map shortR).take i = l5.map shortR := List.take_of_length_le (by rw [List.length_map, HLN.out]; exact Nat.le_refl _)
      rw [e] at ho
      have HF := Lib.hid (Lay.own_lessB (Lay.own_weak (G' := Since w wr) (fun b hb _ => ⟨by have := hb.1; omega, hb.2⟩) ho) hs1)
      have HBF := Lib.hid (bl_ca HQ1.out bb)
      clear e ho bb
      go_wp2
      go_ret
      exact ⟨A', i, c', rfl, HF.out, HBF.out⟩
end Go.Proofs.Ytojghgbaiiajfaa
