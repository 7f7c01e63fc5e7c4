/- bowspritlaw22.rows. Conditions: the slice reads as these rows. -/
import Derived.Test.YtojghgbaiiajfaaPkE11
import Derived.WalkLawsBesides
import Derived.WalkMore
namespace Go.Proofs.Ytojghgbaiiajfaa
open Go.RowKit
def Since (w0 w : World) : Nat → Prop := fun b => w0.heap.size ≤ b ∧ b < w.heap.size
def NoB : Nat → Prop := fun _ => False
theorem lvreps_any {w : World} {F G : Nat → Prop} : ∀ {xs : List VV} {cs : List Value}, LV.reps w F xs cs → LV.reps w G xs cs
 | [], _, h => h
 | _ :: _, _, ⟨a, b, e, ha, hb⟩ => ⟨a, b, e, ha, lvreps_any hb⟩
theorem lvown_any {e : TypeId} {w : World} {B n c : Nat} {F G : Nat → Prop} {A : Option Addr} {xs : List VV} (h : LV.own e w B F A n c xs) : LV.own e w B G A n c xs := by
 obtain ⟨hl, cs, hr, ho⟩ := h
 exact ⟨hl, cs, lvreps_any hr, ho⟩
theorem row_rep {w0 w1 w : World} {A : Option Addr} {k c : Nat} {r : List VV} {A' : Option Addr} {n' c' : Nat} {xs : List (List VV)} (h : LV.own 142 w w1.heap.size NoB A k c r) (ho : LR.own 89 w1 w0.heap.size (Since w0 w1) A' n' c' xs) (h01 : w0.heap.size ≤ w1.heap.size) :
 LR.rep w (fun b => Since w0 w b ∧ (Value.slice A' n' c').ownBlock ≠ some b) r [.slice A k c] := by
 have hc := Lay.own_caps h
 refine ⟨A, k, c, rfl, hc.1, hc.2, Lay.own_rd h (fun b hb hlt => ⟨⟨by omega, hlt⟩, fun e => ?_⟩) (fun b hb => hb.elim)⟩
 obtain ⟨_, _, _, hrow⟩ := ho
 have := (own_base' hrow b e).2
 omega
/-- the first ones shortened -/
def mixV (r : List VV) (j : Nat) : List VV := (r.take j).map VV.short ++ r.drop j
theorem mixV_set {r : List VV} {j : Nat} {v : VV} (h : r[j]? = some v) : (mixV r j).set j v.short = mixV r (j + 1) := by
 obtain ⟨hl, rfl⟩ := List.getElem?_eq_some_iff.1 h
 unfold mixV
 rw [List.take_succ_eq_append_getElem hl, List.map_append, List.set_append_right _ _ (by simp; omega)]
 simp [Nat.min_eq_left (Nat.le_of_lt hl)]
 rw [List.drop_eq_getElem_cons hl, List.set_cons_zero]
theorem mixV_at {r : List VV} {j : Nat} {v : VV} (h : (mixV r j)[j]? = some v) (hj : j < r.length) : r[j]? = some v := by
 unfold mixV at h
 rw [List.getElem?_append_right (by simp; omega), List.length_map, List.length_take, Nat.min_eq_left (by omega), Nat.sub_self] at h
 simpa using h
theorem cell_ca {w w2 : World} {p : Addr} {v : Value} (h : w.cell? p = some v) (hp : p.block < w.heap.size) (q : Below w.heap.size w w2) : w2.cell? p = some v := (q.cell hp).trans h
theorem addr_zero (g i : Nat) : (⟨g, 0, none⟩ : Addr).add i = ⟨g, i, none⟩ := by unfold Addr.add; split <;> simp_all
theorem own_below2 {α : Type} {L : Lay α} {e : TypeId} {w w' : World} {B n c : Nat} {G : Nat → Prop} {A : Option Addr} {xs : List α} (h : L.own e w B G A n c xs) (q : Below w.heap.size w w') : L.own e w' B G A n c xs := Lay.own_below h q
theorem own_frozen {α : Type} {L : Lay α} {e : TypeId} {w : World} {B n c g : Nat} {G : Nat → Prop} {xs : List α} (h : L.own e w B G (some ⟨g, 0, none⟩) n c xs) (i : Nat) : w.frozen? ⟨g, i, none⟩ = false := by
 obtain ⟨_, cs, _, _, h2⟩ := h
 rcases h2 with ⟨e, _⟩ | ⟨g', cap, cur, e, _, hb, _⟩
 · cases e
 · injection e with e
   injection e with e
   injection e with e
   subst e
   exact Blk.frozen hb i
theorem own_some {α : Type} {L : Lay α} {e : TypeId} {w : World} {B n c : Nat} {G : Nat → Prop} {A : Option Addr} {xs : List α} (h : L.own e w B G A n c xs) (hn : 0 < n) : ∃ g, A = some ⟨g, 0, none⟩ ∧ B ≤ g ∧ g < w.heap.size := by
 obtain ⟨_, cs, _, hrow⟩ := h
 obtain ⟨g, cap, hv, h1, h2⟩ := World.ownsRow.form hrow hn
 injection hv with hA
 exact ⟨g, hA, h1, h2⟩
set_option maxRecDepth 100000 in
set_option maxHeartbeats 8000000 in
theorem rowsC_any (F : Nat → Prop) (A : Option Addr) (m c : Nat) (l : List (List VV)) (w : World) (h : LR.rd w F A m l) (hmc : m ≤ c) (hc : c ≤ 9223372036854775807) :
 Calls Try.prog 52 #[.slice A m c] w fun e w' => ∃ A' k c', e = .returned (.slice A' k c') ∧ LR.own 89 w' w.heap.size (Since w w') A' k c' (rowsC l) ∧ Below w.heap.size w w' := by
 have HC := Lib.hid (cutR F A m c 5 l w h hmc hc (by omega))
 rw [show ((5 : Nat) : Int) = 5 from rfl] at HC
 obtain ⟨kk, hkk⟩ : ∃ kk, kk = min m 5 := ⟨_, rfl⟩
 rw [← hkk] at HC
 have hkk5 : kk ≤ 5 := by omega
 obtain ⟨l5, hl5⟩ : ∃ l5, l5 = l.take 5 := ⟨_, rfl⟩
 rw [← hl5] at HC
 rw [show rowsC l = l5.map shortR from by rw [hl5]; rfl]
 clear h hmc hc hkk hl5
 go_enter Try.func52, Try.ntmps52
 go_wp2_with fail
 refine HC.out.mono ?_
 clear HC
 rintro e w1 ⟨A1, c1, rfl, ho1, q1⟩
 have HLN := Lib.hid (Lay.own_len ho1)
 have HR1 := Lib.hid (Lay.own_rd (F := fun _ => True) ho1 (fun _ _ _ => trivial) (fun _ _ _ => trivial))
 have HQ1 := Lib.hid q1
 have hs1 := q1.size
 clear ho1 q1
 go_wp2_with fail
 go_loopg [3, 11] kk (fun g o s wr => ∃ (i c' : Nat) (A' : Option Addr), i + g = kk ∧ s = .int .i64 i ∧ o = .slice A' i c' ∧ LR.own 89 wr w1.heap.size (Since w1 wr) A' i c' ((l5.map shortR).take i) ∧ Below w1.heap.size w1 wr)
 case atStart => exact ⟨0, 0, none, by omega, rfl, rfl, by simpa using Lay.own_nil w1 w1.heap.size, Below.refl _ _⟩
 case round =>
  obtain ⟨i, c', A', hig, rfl, rfl, ho, bb⟩ := hrel
  have HO := Lib.hid ho
  have HBB := Lib.hid bb
  have hsr := bb.size
  by_cases hi : i < kk
  · have hi1 : (i : Int) < (kk : Int) := by omega
    obtain ⟨ad, r, Ar, nr, cr, rfl, hri, hc0, l1, l2, hrd⟩ := LR_at (Lay.rd_below HR1.out bb) hi
    have HS := Lib.hid (show (l5.map shortR).take (i + 1) = (l5.map shortR).take i ++ [shortR r] from by rw [List.take_add_one, List.getElem?_map, hri]; rfl)
    have HCV := Lib.hid (cutVV _ Ar nr cr 17 r wr hrd l1 l2 (by omega))
    rw [show ((17 : Nat) : Int) = 17 from rfl] at HCV
    obtain ⟨k2, hk2⟩ : ∃ k2, k2 = min nr 17 := ⟨_, rfl⟩
    rw [← hk2] at HCV
    have hk17 : k2 ≤ 17 := by omega
    obtain ⟨r7, hr7⟩ : ∃ r7, r7 = r.take 17 := ⟨_, rfl⟩
    rw [← hr7] at HCV
    rw [show shortR r = r7.map VV.short from by rw [hr7]; rfl] at HS
    clear hri hrd l1 l2 hk2 hr7 ho bb
    go_wp2_with fail
    refine HCV.out.mono ?_
    clear HCV hc0
    rintro e w2 ⟨A2, c2, rfl, hov, q2⟩
    have HOV2 := Lib.hid (lvown_any (G := NoB) hov)
    have hl2 := Lay.own_len hov
    have HQ2 := Lib.hid q2
    have HO2 := Lib.hid (Lay.own_below HO.out q2)
    have hs2 := q2.size
    clear hov q2
    go_wp2_with fail
    obtain ⟨gi, rfl⟩ : ∃ g, g = gk := ⟨_, rfl⟩
    obtain ⟨ws, rfl⟩ : ∃ x, x = wr := ⟨_, rfl⟩
    go_loopg [19] k2 (fun g s wr => ∃ j : Nat, j + g = k2 ∧ s = .int .i64 j ∧ LV.own 142 wr ws.heap.size NoB A2 k2 c2 (mixV r7 j) ∧ Below ws.heap.size ws wr)
    case atStart => exact ⟨0, by omega, rfl, by simpa [mixV] using HOV2.out, HQ2.out⟩
    case round =>
     obtain ⟨j, hjg, rfl, hov, hbi⟩ := hrel
     have HOV := Lib.hid hov
     have HBI := Lib.hid hbi
     by_cases hj : j < k2
     · have hj1 : (j : Int) < (k2 : Int) := by omega
       have hwj : IntKind.i64.wrap (j : Int) = (j : Int) := by simp [IntKind.wrap, IntKind.signed, IntKind.bits]; omega
       obtain ⟨g2, rfl, hgb, hg2⟩ := own_some hov (by omega)
       obtain ⟨ad2, v, e, hv, q⟩ := LV_at (Lay.own_rd (F := fun _ => True) hov (fun _ _ _ => trivial) (fun _ _ _ => trivial)) hj
       injection e with e
       subst e
       have e3 : wr.cell? ⟨g2, j * 4 + 3, none⟩ = some (.string v.s) := by
        have := q.c3
        rw [addr_zero] at this
        exact this
       have HFZ := Lib.hid (fun w9 (hT : Below wr.heap.size wr w9) => own_frozen (Lay.own_below hov hT) (j * 4 + 3))
       have HV := Lib.hid hv
       have HV2 := Lib.hid (mixV_at hv (by omega))
       clear hov hbi hv q
       by_cases hsz : v.s.size ≤ 41
       · have hcs : cutS v.s = v.s := if_pos hsz
         have hmn : min (v.s.size : Int) 41 = (v.s.size : Int) := by omega
         go_wp2_with fail
         refine wp_region_ps (S := Seq1 17 (fun _ w' => Below wr.heap.size wr w') (fun _ w' => ∃ w6, Below wr.heap.size wr w6 ∧ w' = w6.setCell ⟨g2, j * 4 + 3, none⟩ (.string v.s))) (by kernel_rfl) ?spswpa ?ppswpa
         case spswpa =>
          exact Seq1.start (by decide) (Below.refl _ _).drew
         refine Pz 0 (some 22) _ rfl rfl (StepS.pure (Seq1.pass (by decide)) rfl fun w9 => by go_simp; try rfl) ?_
         try simp only [Act.put, sA, sZ, sS]
         refine Pz 1 (some 23) _ rfl rfl (StepS.pure (Seq1.pass (by decide)) rfl fun w9 => by go_simp; try rfl) ?_
         try simp only [Act.put, sA, sZ, sS]
         refine Pz 2 (some 24) _ rfl rfl (StepS.pure (Seq1.pass (by decide)) rfl fun w9 => by go_simp; try rfl) ?_
         try simp only [Act.put, sA, sZ, sS]
         refine Pz 3 (some 25) _ rfl rfl (StepS.pure (Seq1.pass (by decide)) rfl fun w9 => by go_simp; try rfl) ?_
         try simp only [Act.put, sA, sZ, sS]
         refine Pz 4 (some 26) _ rfl rfl (StepS.pure (Seq1.pass (by decide)) rfl fun w9 => by go_simp; try rfl) ?_
         try simp only [Act.put, sA, sZ, sS]
         refine Pz 5 (some 27) _ rfl rfl (StepS.pure (Seq1.pass (by decide)) rfl fun w9 => by go_simp; try rfl) ?_
         try simp only [Act.put, sA, sZ, sS]
         refine Pz 6 (some 28) ?uwpa_7 rfl rfl ?ywpa_7 ?rwpa_7
         case ywpa_7 =>
          refine StepS.read [] (by kernel_rfl) (Seq1.pass (by decide)) (by rfl) (fun L9 m9 w9 hSh hAt hDn hS => ?_)
          have hT : Below wr.heap.size wr w9 := Seq1.at1 (reach_no hSh (f := 22) (j := 17) (by kernel_rfl) hDn) hS
          have x3 : w9.cell? ⟨g2, j * 4 + 3, none⟩ = some (.string v.s) := cell_ca e3 hg2 hT
          clear hT hS
          go_simp
          try rfl
         try simp only [Act.put, sA, sZ, sS]
         refine Pz 7 (some 29) _ rfl rfl (StepS.pure (Seq1.pass (by decide)) rfl fun w9 => by go_simp; try rfl) ?_
         try simp only [Act.put, sA, sZ, sS]
         refine Pz 8 (some 30) _ rfl rfl (StepS.pure (Seq1.pass (by decide)) rfl fun w9 => by go_simp; try rfl) ?_
         try simp only [Act.put, sA, sZ, sS]
         refine Pz 9 (some 31) _ rfl rfl (StepS.pure (Seq1.pass (by decide)) rfl fun w9 => by go_simp; try rfl) ?_
         try simp only [Act.put, sA, sZ, sS]
         refine Pz 10 (some 32) _ rfl rfl (StepS.pure (Seq1.pass (by decide)) rfl fun w9 => by go_simp; try rfl) ?_
         try simp only [Act.put, sA, sZ, sS]
         refine Pz 11 (some 33) ?uwpa_12 rfl rfl ?ywpa_12 ?rwpa_12
         case ywpa_12 =>
          refine StepS.read [] (by kernel_rfl) (Seq1.pass (by decide)) (by rfl) (fun L9 m9 w9 hSh hAt hDn hS => ?_)
          have hT : Below wr.heap.size wr w9 := Seq1.at1 (reach_no hSh (f := 22) (j := 17) (by kernel_rfl) hDn) hS
          have x3 : w9.cell? ⟨g2, j * 4 + 3, none⟩ = some (.string v.s) := cell_ca e3 hg2 hT
          clear hT hS
          go_simp
          try rfl
         try simp only [Act.put, sA, sZ, sS]
         refine Pz 12 (some 34) _ rfl rfl (StepS.pure (Seq1.pass (by decide)) rfl fun w9 => by go_simp; try rfl) ?_
         try simp only [Act.put, sA, sZ, sS]
         refine Pz 13 (some 35) _ rfl rfl (StepS.pure (Seq1.pass (by decide)) rfl fun w9 => by go_simp; try rfl) ?_
         try simp only [Act.put, sA, sZ, sS]
         refine Pz 14 (some 36) _ rfl rfl (StepS.pure (Seq1.pass (by decide)) rfl fun w9 => by go_simp; try rfl) ?_
         try simp only [Act.put, sA, sZ, sS]
         refine Pz 15 (some 37) _ rfl rfl (StepS.pure (Seq1.pass (by decide)) rfl fun w9 => by go_simp; try rfl) ?_
         try simp only [Act.put, sA, sZ, sS]
         refine Pz 16 (some 38) _ rfl rfl (StepS.pure (Seq1.pass (by decide)) rfl fun w9 => by go_simp; try rfl) ?_
         try simp only [Act.put, sA, sZ, sS]
         refine Pz 17 none undef rfl rfl ?ywpa_18 ?rwpa_18
         case ywpa_18 =>
          refine StepS.store [] (by kernel_rfl) (by rfl) (fun L9 m9 w9 hSh hAt hDn hS => ?_)
          have hT : Below wr.heap.size wr w9 := Seq1.at1 hDn hS
          have x3 : w9.cell? ⟨g2, j * 4 + 3, none⟩ = some (.string v.s) := cell_ca e3 hg2 hT
          have f3 : w9.frozen? ⟨g2, j * 4 + 3, none⟩ = false := HFZ.out w9 hT
          refine ⟨w9.setCell ⟨g2, j * 4 + 3, none⟩ (.string v.s), ?_, Seq1.set1 ⟨w9, hT, rfl⟩⟩
          clear hT hS
          go_simp
         try simp only [Act.put]
         refine Ps.done (by kernel_rfl) (fun wpa hS => ?_) _
         obtain ⟨w6, hT, e6⟩ := Seq1.fin (by rfl) hS
         clear hS
         have hset := Lay.own_part (L := LV) (j := 3) (vs := [.string v.s]) (x := v.short) (Lay.own_below HOV.out hT) HV.out (by show 3 + 1 ≤ 4; decide) (fun ds hds => by have h9 : ds = [.int .i64 v.k, .int .i64 v.n, .int .u64 v.u, .string v.s] := hds; subst h9; show _ = [_, _, _, _]; simp [VV.short, hcs])
         have e7 : w6.setCells g2 (j * LV.size + 3) [.string v.s] = w6.setCell ⟨g2, j * 4 + 3, none⟩ (.string v.s) := rfl
         rw [e7, ← e6] at hset
         have HOV7 := Lib.hid hset.1
         have HB7 := Lib.hid ((bl_ca HBI.out hT).grown hset.2 (by have := (bl_ca HBI.out hT).size; omega) (fun k e => by injection e with e; omega))
         clear hset e6 hT e7
         obtain ⟨w7, rfl⟩ : ∃ x, x = wpa := ⟨_, rfl⟩
         rw [mixV_set HV2.out] at HOV7
         go_wp2
         go_roundg (gk - 1)
         · exact ⟨j + 1, by omega, by go_num, HOV7.out, HB7.out⟩
         · omega
       · have hcs : cutS v.s = v.s.extract 0 41 := if_neg hsz
         have hmn : min (v.s.size : Int) 41 = 41 := by omega
         have hle : (41 : Int) ≤ (v.s.size : Int) := by omega
         go_wp2_with fail
         refine wp_region_ps (S := Seq1 17 (fun _ w' => Below wr.heap.size wr w') (fun _ w' => ∃ w6, Below wr.heap.size wr w6 ∧ w' = w6.setCell ⟨g2, j * 4 + 3, none⟩ (.string (v.s.extract 0 41)))) (by kernel_rfl) ?spswpb ?ppswpb
         case spswpb =>
          exact Seq1.start (by decide) (Below.refl _ _).drew
         refine Pz 0 (some 22) _ rfl rfl (StepS.pure (Seq1.pass (by decide)) rfl fun w9 => by go_simp; try rfl) ?_
         try simp only [Act.put, sA, sZ, sS]
         refine Pz 1 (some 23) _ rfl rfl (StepS.pure (Seq1.pass (by decide)) rfl fun w9 => by go_simp; try rfl) ?_
         try simp only [Act.put, sA, sZ, sS]
         refine Pz 2 (some 24) _ rfl rfl (StepS.pure (Seq1.pass (by decide)) rfl fun w9 => by go_simp; try rfl) ?_
         try simp only [Act.put, sA, sZ, sS]
         refine Pz 3 (some 25) _ rfl rfl (StepS.pure (Seq1.pass (by decide)) rfl fun w9 => by go_simp; try rfl) ?_
         try simp only [Act.put, sA, sZ, sS]
         refine Pz 4 (some 26) _ rfl rfl (StepS.pure (Seq1.pass (by decide)) rfl fun w9 => by go_simp; try rfl) ?_
         try simp only [Act.put, sA, sZ, sS]
         refine Pz 5 (some 27) _ rfl rfl (StepS.pure (Seq1.pass (by decide)) rfl fun w9 => by go_simp; try rfl) ?_
         try simp only [Act.put, sA, sZ, sS]
         refine Pz 6 (some 28) ?uwpb_25 rfl rfl ?ywpb_25 ?rwpb_25
         case ywpb_25 =>
          refine StepS.read [] (by kernel_rfl) (Seq1.pass (by decide)) (by rfl) (fun L9 m9 w9 hSh hAt hDn hS => ?_)
          have hT : Below wr.heap.size wr w9 := Seq1.at1 (reach_no hSh (f := 22) (j := 17) (by kernel_rfl) hDn) hS
          have x3 : w9.cell? ⟨g2, j * 4 + 3, none⟩ = some (.string v.s) := cell_ca e3 hg2 hT
          clear hT hS
          go_simp
          try rfl
         try simp only [Act.put, sA, sZ, sS]
         refine Pz 7 (some 29) _ rfl rfl (StepS.pure (Seq1.pass (by decide)) rfl fun w9 => by go_simp; try rfl) ?_
         try simp only [Act.put, sA, sZ, sS]
         refine Pz 8 (some 30) _ rfl rfl (StepS.pure (Seq1.pass (by decide)) rfl fun w9 => by go_simp; try rfl) ?_
         try simp only [Act.put, sA, sZ, sS]
         refine Pz 9 (some 31) _ rfl rfl (StepS.pure (Seq1.pass (by decide)) rfl fun w9 => by go_simp; try rfl) ?_
         try simp only [Act.put, sA, sZ, sS]
         refine Pz 10 (some 32) _ rfl rfl (StepS.pure (Seq1.pass (by decide)) rfl fun w9 => by go_simp; try rfl) ?_
         try simp only [Act.put, sA, sZ, sS]
         refine Pz 11 (some 33) ?uwpb_30 rfl rfl ?ywpb_30 ?rwpb_30
         case ywpb_30 =>
          refine StepS.read [] (by kernel_rfl) (Seq1.pass (by decide)) (by rfl) (fun L9 m9 w9 hSh hAt hDn hS => ?_)
          have hT : Below wr.heap.size wr w9 := Seq1.at1 (reach_no hSh (f := 22) (j := 17) (by kernel_rfl) hDn) hS
          have x3 : w9.cell? ⟨g2, j * 4 + 3, none⟩ = some (.string v.s) := cell_ca e3 hg2 hT
          clear hT hS
          go_simp
          try rfl
         try simp only [Act.put, sA, sZ, sS]
         refine Pz 12 (some 34) _ rfl rfl (StepS.pure (Seq1.pass (by decide)) rfl fun w9 => by go_simp; try rfl) ?_
         try simp only [Act.put, sA, sZ, sS]
         refine Pz 13 (some 35) _ rfl rfl (StepS.pure (Seq1.pass (by decide)) rfl fun w9 => by go_simp; try rfl) ?_
         try simp only [Act.put, sA, sZ, sS]
         refine Pz 14 (some 36) _ rfl rfl (StepS.pure (Seq1.pass (by decide)) rfl fun w9 => by go_simp; try rfl) ?_
         try simp only [Act.put, sA, sZ, sS]
         refine Pz 15 (some 37) _ rfl rfl (StepS.pure (Seq1.pass (by decide)) rfl fun w9 => by go_simp; try rfl) ?_
         try simp only [Act.put, sA, sZ, sS]
         refine Pz 16 (some 38) _ rfl rfl (StepS.pure (Seq1.pass (by decide)) rfl fun w9 => by go_simp; try rfl) ?_
         try simp only [Act.put, sA, sZ, sS]
         refine Pz 17 none undef rfl rfl ?ywpb_36 ?rwpb_36
         case ywpb_36 =>
          refine StepS.store [] (by kernel_rfl) (by rfl) (fun L9 m9 w9 hSh hAt hDn hS => ?_)
          have hT : Below wr.heap.size wr w9 := Seq1.at1 hDn hS
          have x3 : w9.cell? ⟨g2, j * 4 + 3, none⟩ = some (.string v.s) := cell_ca e3 hg2 hT
          have f3 : w9.frozen? ⟨g2, j * 4 + 3, none⟩ = false := HFZ.out w9 hT
          refine ⟨w9.setCell ⟨g2, j * 4 + 3, none⟩ (.string (v.s.extract 0 41)), ?_, Seq1.set1 ⟨w9, hT, rfl⟩⟩
          clear hT hS
          go_simp
         try simp only [Act.put]
         refine Ps.done (by kernel_rfl) (fun wpb hS => ?_) _
         obtain ⟨w6, hT, e6⟩ := Seq1.fin (by rfl) hS
         clear hS
         have hset := Lay.own_part (L := LV) (j := 3) (vs := [.string (v.s.extract 0 41)]) (x := v.short) (Lay.own_below HOV.out hT) HV.out (by show 3 + 1 ≤ 4; decide) (fun ds hds => by have h9 : ds = [.int .i64 v.k, .int .i64 v.n, .int .u64 v.u, .string v.s] := hds; subst h9; show _ = [_, _, _, _]; simp [VV.short, hcs])
         have e7 : w6.setCells g2 (j * LV.size + 3) [.string (v.s.extract 0 41)] = w6.setCell ⟨g2, j * 4 + 3, none⟩ (.string (v.s.extract 0 41)) := rfl
         rw [e7, ← e6] at hset
         have HOV7 := Lib.hid hset.1
         have HB7 := Lib.hid ((bl_ca HBI.out hT).grown hset.2 (by have := (bl_ca HBI.out hT).size; omega) (fun k e => by injection e with e; omega))
         clear hset e6 hT e7
         obtain ⟨w7, rfl⟩ : ∃ x, x = wpb := ⟨_, rfl⟩
         rw [mixV_set HV2.out] at HOV7
         go_wp2
         go_roundg (gk - 1)
         · exact ⟨j + 1, by omega, by go_num, HOV7.out, HB7.out⟩
         · omega
     · obtain rfl : j = k2 := by omega
       have hj1 : (j : Int) ≤ (j : Int) := by omega
       rw [show mixV r7 j = r7.map VV.short from by unfold mixV; rw [← hl2, List.take_length, List.drop_length, List.append_nil]] at HOV
       have hrep := row_rep HOV.out HO.out hsr
       have hs3 := hbi.size
       have ho2 := Lay.own_weak (G' := Since w1 wr) (fun b hb _ => ⟨hb.1, Nat.lt_of_lt_of_le hb.2 hs3⟩) (own_below2 HO.out hbi)
       have ho3 := Lay.own_alloc ho2 (.cells #[.slice A2 j c2] 89)
       have hb2 := Blk.new wr 89 #[.slice A2 j c2]
       have hrep3 := LR.keep (fun b hb hlt => Below.heap_alloc wr (.cells #[.slice A2 j c2] 89) b hlt) hrep
       have b3 := bl_al (HBB.out.trans (hbi.mono hsr)) (.cells #[.slice A2 j c2] 89)
       have hszz := b3.size
       have hGG : ∀ b, Since w1 wr b → b < (wr.alloc (.cells #[.slice A2 j c2] 89)).heap.size := fun b hb => by have := hb.2; simp only [World.size_alloc]; omega
       clear hrep ho2 hbi HOV
       go_wp2_with (at_builtin; refine wpList_appL (L := LR) rfl (.tmp 40) (.tmp 42) 43 rfl _ 1 24 Try.underlying43 infoR rfl rfl (by omega) w1.heap.size (Since w1 wr) A' i c' ((l5.map shortR).take i) wr.heap.size 1 89 _ (r7.map VV.short) rfl rfl ho3 hb2 hrep3 hGG (by omega) (by simp only [maxLen]; omega) hszz ?_; intro A4 c4 w4 ho4 b4)
       have ho5 := Lay.own_weak (G' := Since w1 w4) (fun b hb hlt => ⟨hb.1, hlt⟩) ho4
       go_roundg (gi - 1)
       · exact ⟨i + 1, c4, A4, by omega, by go_num, rfl, by rw [HS.out]; exact ho5, b3.trans b4⟩
       · omega
  · obtain rfl : i = kk := by omega
    have hi1 : (i : Int) ≤ (i : Int) := by omega
    have e : (l5.map shortR).take i = l5.map shortR := List.take_of_length_le (by rw [List.length_map, HLN.out]; exact Nat.le_refl _)
    rw [e] at ho
    have HF := Lib.hid (Lay.own_lessB (Lay.own_weak (G' := Since w wr) (fun b hb _ => ⟨by have := hb.1; omega, hb.2⟩) ho) hs1)
    have HBF := Lib.hid (bl_ca HQ1.out bb)
    clear e ho bb
    go_wp2
    go_ret
    exact ⟨A', i, c', rfl, HF.out, HBF.out⟩
end Go.Proofs.Ytojghgbaiiajfaa
/- The references' equality of values, rows, batches and senders. Conditions: the slices read so. -/
namespace Go.Proofs.Ytojghgbaiiajfaa
open Go.RowKit
theorem SV.ca {w w' : World} {p : Addr} {v : VV} (h : SV w p v) (hl : p.block < w.heap.size) (q : Below w.heap.size w w') : SV w' p v :=
 ⟨(q.cell (p := p) hl).trans h.c0, (q.cell (p := ⟨p.block, p.off + 1, none⟩) hl).trans h.c1, (q.cell (p := ⟨p.block, p.off + 2, none⟩) hl).trans h.c2, (q.cell (p := ⟨p.block, p.off + 3, none⟩) hl).trans h.c3⟩
theorem SV.lt {w : World} {p : Addr} {v : VV} (h : SV w p v) : p.block < w.heap.size := cells_block h.c0
end Go.Proofs.Ytojghgbaiiajfaa
/- The references' equality of batches and senders. Conditions: the slices read so. -/
namespace Go.Proofs.Ytojghgbaiiajfaa
open Go.RowKit
theorem SB.ca {w w' : World} {F : Nat → Prop} {p : Addr} {b : BC} {B : Option Addr} {n c : Nat} (h : SB w F p b B n c) (q : Below w.heap.size w w') : SB w' F p b B n c :=
 ⟨(q.cell (p := p) (cells_block h.c0)).trans h.c0, (q.cell (p := ⟨p.block, p.off + 1, none⟩) (cells_block h.c1)).trans h.c1, (q.cell (p := ⟨p.block, p.off + 2, none⟩) (cells_block h.c2)).trans h.c2, h.nc, h.cm, Lay.rd_below h.rd q⟩
end Go.Proofs.Ytojghgbaiiajfaa
/- Rows of one's own, written to. Conditions: none. -/
namespace Go.Proofs.Ytojghgbaiiajfaa
open Go.RowKit
theorem own_there {α : Type} {L : Lay α} {e : TypeId} {w : World} {B n c g i j k : Nat} {G : Nat → Prop} {xs : List α} (h : L.own e w B G (some ⟨g, 0, none⟩) n c xs) (hi : i < n) (hj : j + k ≤ L.size) : w.there g (i * L.size + j) k := by
 intro x hx
 refine ⟨?_, own_frozen h _⟩
 obtain ⟨hl, cs, hreps, hrow⟩ := h
 have hcl := Lay.reps_len hreps
 have h2 : (i + 1) * L.size ≤ xs.length * L.size := Nat.mul_le_mul_right _ (by omega)
 rw [Nat.succ_mul] at h2
 have hlt : i * L.size + j + x < cs.length := by omega
 have := hrow.cells (g := g) rfl (i * L.size + j + x) _ (List.getElem?_eq_getElem hlt)
 rw [addr_zero] at this
 rw [this]; rfl
theorem own_cells {α : Type} {L : Lay α} {e : TypeId} {w : World} {B n c : Nat} {G : Nat → Prop} {A : Option Addr} {xs : List α} (h : L.own e w B G A n c xs) : ∀ g, A = some ⟨g, 0, none⟩ → w.there g 0 (n * L.size) := by
 rintro g rfl j hj
 have hp : 0 < L.size := Nat.pos_of_ne_zero (fun h0 => by rw [h0] at hj; simp at hj)
 have h1 : j / L.size < n := (Nat.div_lt_iff_lt_mul hp).2 hj
 have := own_there h (i := j / L.size) (j := j % L.size) (k := 1) h1 (Nat.mod_lt _ hp) 0 (by omega)
 rw [Nat.zero_add]
 rw [Nat.add_zero, Nat.div_add_mod'] at this
 exact this
end Go.Proofs.Ytojghgbaiiajfaa
/- link.Hear, of what changes nothing. Conditions: the rows read as these batches. -/
namespace Go.Proofs.Ytojghgbaiiajfaa
open Go.RowKit
theorem own_form2 {α : Type} {L : Lay α} {e : TypeId} {w : World} {B n c : Nat} {G : Nat → Prop} {A : Option Addr} {xs : List α} (h : L.own e w B G A n c xs) : A = none ∨ ∃ g, A = some ⟨g, 0, none⟩ := by
 obtain ⟨hl, cs, hr, ho⟩ := h
 rcases ho.2 with ⟨e, _⟩ | ⟨g, cap, _, e, _⟩
 · injection e with e1 _ _; exact .inl e1
 · injection e with e1 _ _; exact .inr ⟨g, e1⟩
theorem mine_own {α : Type} {L : Lay α} {e : TypeId} {w : World} {B n c : Nat} {G : Nat → Prop} {A : Option Addr} {xs : List α} (h : L.own e w B G A n c xs) : Mine w B A (n * L.size) := by
 rintro ad rfl
 rcases own_form2 h with h1 | ⟨g, h1⟩
 · cases h1
 · injection h1 with h1
   subst h1
   have hb := Lay.own_base h g (by simp [Value.ownBlock])
   exact ⟨g, 0, rfl, hb.1, hb.2, own_cells h g rfl⟩
/-- link.hears' answer, with its parts -/
def HearsO (Fr : Nat → Prop) (r : RC) (E : Int) (r2 : RC) (X : Nat → Prop) (Y : World → Prop) (w : World) (C : Array Value) (N : Int) (w' : World) : Prop :=
 if recB r then Chg X w w' ∧ Y w' ∧ ((E ≠ 0 ∧ C = zeroR.cells none 0 0 none 0 0 ∧ N = E) ∨ (E = 0 ∧ N = 0 ∧ ∃ A3 n3 c3 A4 m4 d4, C = r2.cells A3 n3 c3 A4 m4 d4 ∧ RecO w' (w.heap.size + 2) (fun k => k < w'.heap.size ∧ (Fr k ∨ w.heap.size + 2 ≤ k)) A3 n3 c3 A4 m4 d4 r2))
 else C = zeroR.cells none 0 0 none 0 0 ∧ N = 320 ∧ Below w.heap.size w w'
theorem hears_o {Fr : Nat → Prop} {r : RC} {E : Int} {r2 : RC} {X : Nat → Prop} {Y : World → Prop} {w w' : World} {e : Ending} (h : HearsC Fr r E r2 X Y w e w') : ∃ (t : RC) (A : Option Addr) (n c : Nat) (A2 : Option Addr) (m d : Nat) (N : Int), e = .returned (.tuple #[.agg (t.cells A n c A2 m d), .int .i64 N]) ∧ HearsO Fr r E r2 X Y w (t.cells A n c A2 m d) N w' := by
 unfold HearsC at h
 cases hs : recB r
 · rw [hs] at h
   refine ⟨zeroR, none, 0, 0, none, 0, 0, 320, h.1, ?_⟩
   unfold HearsO
   rw [hs]
   exact ⟨rfl, rfl, h.2⟩
 · rw [hs] at h
   obtain ⟨h1, h2, h3, h4⟩ := h
   by_cases hE : E = 0
   · obtain ⟨A3, n3, c3, A4, m4, d4, he, ho⟩ := h4 hE
     refine ⟨r2, A3, n3, c3, A4, m4, d4, 0, he, ?_⟩
     unfold HearsO
     rw [hs]
     exact ⟨h1, h2, .inr ⟨hE, rfl, A3, n3, c3, A4, m4, d4, rfl, ho⟩⟩
   · refine ⟨zeroR, none, 0, 0, none, 0, 0, E, h3 hE, ?_⟩
     unfold HearsO
     rw [hs]
     exact ⟨h1, h2, .inl ⟨hE, rfl, rfl⟩⟩
/-- the caller has laid blocks of its own and stores the answer into one of them -/
theorem HearsO.out {Fr : Nat → Prop} {r : RC} {E : Int} {r2 : RC} {X X' : Nat → Prop} {Y : World → Prop} {w w1 w2 w3 : World} {C : Array Value} {N : Int} {k : Nat} (h : HearsO Fr r E r2 X Y w1 C N w2) (b1 : Below w.heap.size w w1) (gz : w2.grownBy w3 (some k))
 (hFr : ∀ b, Fr b → b < k) (hk : w.heap.size ≤ k) (hk1 : k < w1.heap.size) (h2 : w.heap.size + 2 ≤ w1.heap.size) (hX : ∀ b, X b → b < w.heap.size → X' b) (hY : ∀ w1 w2, Y w1 → w1.grownBy w2 (some k) → Y w2) : HearsO Fr r E r2 X' Y w C N w3 := by
 unfold HearsO at h ⊢
 cases hs : recB r
 · rw [hs] at h
   exact ⟨h.1, h.2.1, bl_gr (bl_ca b1 (h.2.2)) gz hk⟩
 · rw [hs] at h
   obtain ⟨hc, hy, h3⟩ := h
   have hs1 := b1.size
   have hC : Chg X' w w2 := ⟨hc.os.trans b1.os, hc.tape.trans b1.tape, hc.output.trans b1.output, Nat.le_trans hs1 hc.size, fun b hb hx => (hc.block b (by omega) (fun h => hx (hX b h hb))).trans (b1.block b hb)⟩
   refine ⟨hC.grown gz (fun j e => .inr (by injection e with e; omega)), hY _ _ hy gz, ?_⟩
   rcases h3 with h3 | ⟨hE, hN, A3, n3, c3, A4, m4, d4, hC2, ho⟩
   · exact .inl h3
   · exact .inr ⟨hE, hN, A3, n3, c3, A4, m4, d4, hC2, ho.grown gz (by omega) (by omega) (fun j hj => ⟨hj.2.elim (fun h => by have := hFr j h; omega) (fun h => by omega), Nat.lt_of_lt_of_le hj.1 gz.size, hj.2.elim .inl (fun h => .inr (by omega))⟩)⟩
theorem HearsO.blk {Fr : Nat → Prop} {r : RC} {E : Int} {r2 : RC} {X : Nat → Prop} {Y : World → Prop} {w w' : World} {C : Array Value} {N : Int} {g : Nat} {t : TypeId} {cs : Array Value} (h : HearsO Fr r E r2 X Y w C N w') (hb : Blk w g t cs) (hx : ¬ X g) : Blk w' g t cs := by
 unfold HearsO at h
 cases hs : recB r
 · rw [hs] at h
   exact hb.ca h.2.2
 · rw [hs] at h
   exact hb.chg h.1 hx
/-- a packet that a receiver looks at -/
def heardA (r : RC) (pk : PK) : Bool := checkP pk && (decide (pk.kind = 1) && decide (pk.ses = r.ses))
set_option maxRecDepth 100000 in
set_option maxHeartbeats 16000000 in
theorem hear_do (Fr : Nat → Prop) (r r2 : RC) (A : Option Addr) (n c : Nat) (A2 : Option Addr) (m d : Nat) (pk : PK) (pA : Option Addr) (pn pc : Nat) (w : World) (hFr : ∀ k, Fr k → k < w.heap.size) (h : LH4.rd w Fr A n r.ahead) (h2 : LB3.rd w Fr A2 m r.buf) (hr : LR.rd w Fr pA pn pk.b.rows) (hn : n ≤ 9223372036854775807) (hm : m ≤ 9223372036854775807)
 (hD : ∀ w0, Blk w0 (w.heap.size + 1) 47 (pk.cells pA pn pc) → LR.rd w0 Fr pA pn pk.b.rows → (∀ k, Fr k → k < w0.heap.size) → DoR 75 #[.pointer (some ⟨w.heap.size + 1, 0, none⟩)] w0 Fr r 0 r2 noX noY) :
 Calls Try.prog 29 #[.agg (r.cells A n c A2 m d), .agg (pk.cells pA pn pc)] w fun e w' => ∃ (t : RC) (A' : Option Addr) (n' c' : Nat) (B' : Option Addr) (m' d' : Nat) (N : Int), e = .returned (.tuple #[.agg (t.cells A' n' c' B' m' d'), .int .i64 N]) ∧ HearsO Fr r 0 r2 noX noY w (t.cells A' n' c' B' m' d') N w' := by
 have q1 := bl_al (Below.refl w.heap.size w) (.cells (r.cells A n c A2 m d) 36)
 have q2 := bl_al (Below.refl (w.alloc (.cells (r.cells A n c A2 m d) 36)).heap.size (w.alloc (.cells (r.cells A n c A2 m d) 36))) (.cells (pk.cells pA pn pc) 47)
 have q12 := bl_ca q1 q2
 have hsz2 : ((w.alloc (.cells (r.cells A n c A2 m d) 36)).alloc (.cells (pk.cells pA pn pc) 47)).heap.size = w.heap.size + 2 := by simp only [World.size_alloc]
 have HS2 := (Blk.new w 36 (r.cells A n c A2 m d)).ca q2
 have HP2 : Blk ((w.alloc (.cells (r.cells A n c A2 m d) 36)).alloc (.cells (pk.cells pA pn pc) 47)) (w.heap.size + 1) 47 (pk.cells pA pn pc) := Blk.mk' (by simp only [World.size_alloc])
 generalize hw2 : (w.alloc (.cells (r.cells A n c A2 m d) 36)).alloc (.cells (pk.cells pA pn pc) 47) = w2 at *
 have q3 := bl_al (Below.refl w2.heap.size w2) (.cells (zeroR.cells none 0 0 none 0 0) 36)
 have HZ := Lib.hid (show Blk (w2.alloc (.cells (zeroR.cells none 0 0 none 0 0) 36)) (w.heap.size + 2) 36 (zeroR.cells none 0 0 none 0 0) from by rw [← hsz2]; exact Blk.new _ _ _)
 have HB := Lib.hid (bl_ca q12 q3)
 have hsz : (w2.alloc (.cells (zeroR.cells none 0 0 none 0 0) 36)).heap.size = w.heap.size + 3 := by simp only [World.size_alloc]; omega
 have HSE := Lib.hid (hears_any Fr r A n c A2 m d 75 #[.pointer (some ⟨w.heap.size + 1, 0, none⟩)] 0 r2 noX noY _ (Lay.rd_below (Lay.rd_below h q12) q3) (Lay.rd_below (Lay.rd_below h2 q12) q3) (fun k h => by have := hFr k h; omega) hn hm (Go.Proofs.enters_of Try.func75 (by kernel_rfl) rfl)
  (hD _ (HP2.ca q3) (Lay.rd_below (Lay.rd_below hr q12) q3) (fun k h => by have := hFr k h; omega)) (fun k h => h.elim) (fun _ _ h _ => h))
 have HS := Lib.hid (HS2.ca q3)
 subst hw2
 clear h h2 hr hD q1 q2 q12 q3 HS2 HP2 hsz2
 go_enter Try.func29, Try.ntmps29
 go_wp2_with (refine wpList_load_blk rfl 36 (.tmp 2) rfl w.heap.size rfl 36 _ (r.cells A n c A2 m d) HS.out rfl rfl receiverI ?_)
 refine HSE.out.mono ?_
 clear HSE
 rintro e w4 h4
 obtain ⟨t, A', n', c', B', m', d', N, rfl, ho⟩ := hears_o h4
 have HZ4 := Lib.hid (ho.blk HZ.out (fun h => h))
 have HO := Lib.hid ho
 clear h4 ho HS HZ
 go_wp2_with (refine wpList_store_blk rfl 36 (.tmp 4) (.tmp 9) rfl (w.heap.size + 2) 36 _ (t.cells A' n' c' B' m' d') rfl rfl HZ4.out rfl receiverI (by obtain ⟨s1, s2, s3, s4, s5, s6⟩ := t; simp [Value.oneCell', RC.cells]) ?_; intro wz hZ gz)
 exact bodyPost_ret (res2 Try.results29 rfl rfl hZ Try.underlying36 rfl receiverI) rfl ⟨t, A', n', c', B', m', d', N, rfl, HO.out.out HB.out gz (fun k h => by have := hFr k h; omega) (by omega) (by omega) (by omega) (fun b h _ => h.elim) (fun _ _ h _ => h)⟩
end Go.Proofs.Ytojghgbaiiajfaa
