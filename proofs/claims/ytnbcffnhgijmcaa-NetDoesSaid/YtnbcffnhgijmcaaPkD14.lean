/- bowspritref24.Come. Conditions: the slice reads as these parcels, not too many. -/
import Derived.Test.YtnbcffnhgijmcaaPkD13
import Derived.Deep.Upon
import Derived.ArgAppend
import Derived.IntWalk
namespace Go.Proofs.Ytnbcffnhgijmcaa
open Go.RowKit
def rcomeE (ps : List PC) (x : Int) : Int := if hasB ps x then 0 else 4
def rcomeR (sent : Int) (ps : List PC) (x : Int) : Int × List PC := if hasB ps x then (sent, ps.take (ixP ps x) ++ ps.drop (ixP ps x + 1)) else (0, [])
def rcomeP (ps : List PC) (x : Int) : PC := if hasB ps x then getP ps x else zeroPC
theorem SeqN.none {ks : List Nat} {B : Nat → (Nat → Value) → World → Prop} {L : Array Bool} {m : Nat → Value} {w : World} (h : ∀ x ∈ ks, Dn L x = false) (hS : SeqN ks B L m w) : B 0 m w := by
  unfold SeqN at hS
  rw [cntD_none h] at hS
  exact hS
theorem below_of_grown {w w' : World} (h : w.grownBy w' none) : Below w.heap.size w w' := ⟨h.os, h.tape, h.output, h.size, fun k hk => h.block k hk (fun e => by cases e)⟩
theorem mem_parts {α : Type} {l : List α} {i : Nat} {x : α} (h : x ∈ l.take i ++ l.drop (i + 1)) : x ∈ l := (List.mem_append.1 h).elim (fun h => List.mem_of_mem_take h) (fun h => List.mem_of_mem_drop h)
theorem map_parts {α β : Type} {f : α → β} {l : List α} {i : Nat} : (l.take i ++ l.drop (i + 1)).map f = (l.map f).take i ++ (l.map f).drop (i + 1) := by rw [List.map_append, List.map_take, List.map_drop]
theorem add0 (g k : Nat) : (⟨g, 0, none⟩ : Addr).add k = ⟨g, k, none⟩ := by unfold Addr.add; split <;> simp_all
theorem Ro.parts {w : World} {B g n c i : Nat} {es : List El} (h : Ro w B (some ⟨g, 0, none⟩) n c es) (hi : i + 1 ≤ n) :
    (∀ j u, (ecells (es.take i))[j]? = some u → w.cell? ((⟨g, 0, none⟩ : Addr).add j) = some u) ∧ (∀ j u, (ecells (es.drop (i + 1)))[j]? = some u → w.cell? ((⟨g, (i + 1) * 5, none⟩ : Addr).add j) = some u) := by
  obtain ⟨ad, e, _, hc⟩ := (Reads.of_own h).2 (by omega)
  injection e with e
  subst e
  refine ⟨fun j u hu => hc j u ?_, fun j u hu => ?_⟩
  · rw [show es = es.take i ++ es.drop i from (List.take_append_drop i es).symm, ecells_append, List.getElem?_append_left (List.getElem?_eq_some_iff.1 hu).1]
    exact hu
  · rw [show (⟨g, (i + 1) * 5, none⟩ : Addr) = (⟨g, 0, none⟩ : Addr).add ((i + 1) * 5) from (add0 g _).symm, add_of_add]
    refine hc _ u ?_
    have hl : (ecells (es.take (i + 1))).length = (i + 1) * 5 := by rw [ecells_len, List.length_take, h.len, Nat.min_eq_left hi]
    rw [show es = es.take (i + 1) ++ es.drop (i + 1) from (List.take_append_drop (i + 1) es).symm, ecells_append, List.getElem?_append_right (by rw [hl]; omega), hl, Nat.add_sub_cancel_left]
    exact hu
set_option maxRecDepth 100000 in
set_option maxHeartbeats 32000000 in
theorem rcome_any (sent : Int) (A : Option Addr) (m c : Nat) (ps : List PC) (x : Int) (w : World) (h : LP.rd w AllB A m ps) (hm : m ≤ 20000) (hb : ∀ p ∈ ps, p.bs.length ≤ 100000) :
    Calls Try.prog 56 #[.agg #[.int .u64 sent, .slice A m c], .int .u64 x] w fun e w' => ∃ A2 m2 c2 pA pn pc, e = .returned (.tuple #[.agg #[.int .u64 (rcomeR sent ps x).1, .slice A2 m2 c2], .agg #[.int .u64 (rcomeP ps x).num, .int .i64 (rcomeP ps x).frm, .int .i64 (rcomeP ps x).to, .slice pA pn pc, .bool (rcomeP ps x).sp], .int .i64 (rcomeE ps x)]) ∧ LP.rd w' (fun b => w.heap.size ≤ b) A2 m2 (rcomeR sent ps x).2 ∧ OwnB w' w.heap.size pA pn pc (rcomeP ps x).bs ∧ Below w.heap.size w w' := by
  have HL := Lib.hid h.1
  have bb := Below.refl w.heap.size w
  have bN := Blk.new w 26 #[.int .u64 sent, .slice A m c]
  replace bb := bl_al bb (.cells #[.int .u64 sent, .slice A m c] 26)
  replace bN := bN.ca (bl_al (Below.refl _ _) (.cells #[.int .u64 0, .slice none 0 0] 26))
  have bR : Blk ((w.alloc (.cells #[.int .u64 sent, .slice A m c] 26)).alloc (.cells #[.int .u64 0, .slice none 0 0] 26)) (w.heap.size + 1) 26 #[.int .u64 0, .slice none 0 0] := Blk.mk' (by simp only [World.size_alloc])
  replace bb := bl_al bb (.cells #[.int .u64 0, .slice none 0 0] 26)
  replace bN := bN.ca (bl_al (Below.refl _ _) (.cells #[.int .u64 0, .int .i64 0, .int .i64 0, .slice none 0 0, .bool false] 29))
  replace bR := bR.ca (bl_al (Below.refl _ _) (.cells #[.int .u64 0, .int .i64 0, .int .i64 0, .slice none 0 0, .bool false] 29))
  have bQ : Blk (((w.alloc (.cells #[.int .u64 sent, .slice A m c] 26)).alloc (.cells #[.int .u64 0, .slice none 0 0] 26)).alloc (.cells #[.int .u64 0, .int .i64 0, .int .i64 0, .slice none 0 0, .bool false] 29)) (w.heap.size + 2) 29 #[.int .u64 0, .int .i64 0, .int .i64 0, .slice none 0 0, .bool false] := Blk.mk' (by simp only [World.size_alloc])
  replace bb := bl_al bb (.cells #[.int .u64 0, .int .i64 0, .int .i64 0, .slice none 0 0, .bool false] 29)
  have hsz : w.heap.size + 3 ≤ (((w.alloc (.cells #[.int .u64 sent, .slice A m c] 26)).alloc (.cells #[.int .u64 0, .slice none 0 0] 26)).alloc (.cells #[.int .u64 0, .int .i64 0, .int .i64 0, .slice none 0 0, .bool false] 29)).heap.size := by simp only [World.size_alloc]; omega
  have n0 : (((w.alloc (.cells #[.int .u64 sent, .slice A m c] 26)).alloc (.cells #[.int .u64 0, .slice none 0 0] 26)).alloc (.cells #[.int .u64 0, .int .i64 0, .int .i64 0, .slice none 0 0, .bool false] 29)).cell? ⟨w.heap.size, 0, none⟩ = some (.int .u64 sent) := bN.cell 0
  have n1 : (((w.alloc (.cells #[.int .u64 sent, .slice A m c] 26)).alloc (.cells #[.int .u64 0, .slice none 0 0] 26)).alloc (.cells #[.int .u64 0, .int .i64 0, .int .i64 0, .slice none 0 0, .bool false] 29)).cell? ⟨w.heap.size, 1, none⟩ = some (.slice A m c) := bN.cell 1
  have hrd := Lib.hid (Lay.rd_below h bb)
  have HFI := Lib.hid (rfind_any sent A m c ps x _ hrd.out (by omega))
  clear h
  cases hh : hasB ps x
  · rw [show findI ps x = -1 from by unfold findI; rw [hh]; rfl] at HFI
    rw [show rcomeE ps x = 4 from by unfold rcomeE; rw [hh]; rfl, show rcomeR sent ps x = (0, []) from by unfold rcomeR; rw [hh]; rfl, show rcomeP ps x = zeroPC from by unfold rcomeP; rw [hh]; rfl]
    clear hh
    go_enter Try.func56, Try.ntmps56
    go_wp2_with fail
    generalize (((w.alloc (.cells #[.int .u64 sent, .slice A m c] 26)).alloc (.cells #[.int .u64 0, .slice none 0 0] 26)).alloc (.cells #[.int .u64 0, .int .i64 0, .int .i64 0, .slice none 0 0, .bool false] 29)) = w1 at *
    refine HFI.out.mono ?_
    rintro e w2 ⟨rfl, q2⟩
    have HR2 := Lib.hid (bR.ca q2)
    have HQ2 := Lib.hid (bQ.ca q2)
    have HB2 := Lib.hid (bl_ca bb q2)
    clear q2 n0 n1 bN bR bQ bb HFI
    go_wp2_with (first | (refine wpList_store_blk rfl 26 (.tmp 4) (.tmp 14) rfl (w.heap.size + 1) 26 _ _ rfl rfl HR2.out rfl netI (by simp [Value.oneCell']) ?_; intro wz hZ gz) | (refine wpList_store_blk rfl 29 (.tmp 5) (.tmp 15) rfl (w.heap.size + 2) 29 _ _ rfl rfl (HQ2.out.apart gz (by omega)) rfl parcelI (by simp [Value.oneCell']) ?_; intro wy hY gy))
    exact bodyPost_ret (resNP Try.results56 rfl rfl rfl (hZ.apart gy (by omega)) hY Try.underlying26 Try.underlying29 rfl rfl netI parcelI) rfl ⟨none, 0, 0, none, 0, 0, rfl, Lay.rd_nil none, OwnB.none_ _ _, bl_gr (bl_gr HB2.out gz (by omega)) gy (by omega)⟩
  · obtain ⟨hat, hil, hgx⟩ := has_at hh
    rw [show findI ps x = (ixP ps x : Int) from by unfold findI; rw [hh]; rfl] at HFI
    rw [show rcomeE ps x = 0 from by unfold rcomeE; rw [hh]; rfl, show rcomeR sent ps x = (sent, ps.take (ixP ps x) ++ ps.drop (ixP ps x + 1)) from by unfold rcomeR; rw [hh]; rfl, show rcomeP ps x = getP ps x from by unfold rcomeP; rw [hh]; rfl]
    generalize ixP ps x = i at *
    generalize getP ps x = q at *
    have him : i < m := by have := HL.out; omega
    have hi0 : (0 : Int) ≤ (i : Int) := by omega
    have hi1 : (i : Int) < (m : Int) := by omega
    have HAT := Lib.hid hat
    clear hh hat hil hgx
    go_enter Try.func56, Try.ntmps56
    go_wp2_with fail
    generalize (((w.alloc (.cells #[.int .u64 sent, .slice A m c] 26)).alloc (.cells #[.int .u64 0, .slice none 0 0] 26)).alloc (.cells #[.int .u64 0, .int .i64 0, .int .i64 0, .slice none 0 0, .bool false] 29)) = w1 at *
    refine HFI.out.mono ?_
    rintro e w2 ⟨rfl, q2⟩
    have x0 : w2.cell? ⟨w.heap.size, 0, none⟩ = some (.int .u64 sent) := (bN.ca q2).cell 0
    have x1 : w2.cell? ⟨w.heap.size, 1, none⟩ = some (.slice A m c) := (bN.ca q2).cell 1
    have hrd2 := Lay.rd_below hrd.out q2
    have HCP := Lib.hid (rcopy_any sent A m c ps w2 hrd2 (by omega) hb)
    have HN2 := Lib.hid (bN.ca q2)
    have HR2 := Lib.hid (bR.ca q2)
    have HQ2 := Lib.hid (bQ.ca q2)
    have HB2 := Lib.hid (bl_ca bb q2)
    have hs2 := Nat.le_trans hsz q2.size
    clear q2 n0 n1 bN bR bQ bb HFI hrd hrd2
    go_wp2_with fail
    refine HCP.out.mono ?_
    clear HCP x0 x1
    rintro e w3 ⟨A2, c2, rfl, ⟨es, hd, hes⟩, q3⟩
    obtain ⟨gr, rfl, hg1, hg2⟩ := hd.row.form (by omega)
    have hcap := hd.row.cap_
    have hcm : c2 ≤ 9223372036854775807 := by have := hcap.2; first | exact this | (unfold maxLen at this; omega)
    have hic : (i : Int) ≤ (c2 : Int) := by have := hcap.1; omega
    have HN3 := Lib.hid (HN2.out.ca q3)
    have HR3 := Lib.hid (HR2.out.ca q3)
    have HQ3 := Lib.hid (HQ2.out.ca q3)
    have HB3 := Lib.hid (bl_ca HB2.out q3)
    have HD3 := Lib.hid hd
    have HES := Lib.hid hes
    have hs3 := Nat.le_trans hs2 q3.size
    have hp' : (es.map El.p)[i]? = some q := by rw [hes]; exact HAT.out
    obtain ⟨e, hei, hep⟩ := el_at hp'
    obtain ⟨d0, d1, d2, d3, d4⟩ := hd.row.cell hei
    rw [hep] at d0 d1 d2 d4
    have heo := hd.own e (List.mem_of_getElem? hei)
    rw [hep] at heo
    obtain ⟨ep, pA, pn, pc⟩ := e
    dsimp only at d3 heo
    have HEO := Lib.hid heo
    clear hes hp' hei hep heo hcap q3 HN2 HR2 HQ2 HB2
    go_wp2_with (first | (refine wpList_store_blk rfl 26 (.tmp 2) (.tmp 17) rfl w.heap.size 26 _ _ rfl rfl HN3.out rfl netI (by simp [Value.oneCell']) ?_; intro wz hZ gz; have z1 : wz.cell? ⟨w.heap.size, 1, none⟩ = some (.slice (some ⟨gr, 0, none⟩) m c2) := hZ.cell 1; have k0 := (gz.cell_far ⟨gr, i * 5, none⟩ hg2 (by simp; omega)).trans d0; have k1 := (gz.cell_far ⟨gr, i * 5 + 1, none⟩ hg2 (by simp; omega)).trans d1; have k2 := (gz.cell_far ⟨gr, i * 5 + 2, none⟩ hg2 (by simp; omega)).trans d2; have k3 := (gz.cell_far ⟨gr, i * 5 + 3, none⟩ hg2 (by simp; omega)).trans d3; have k4 := (gz.cell_far ⟨gr, i * 5 + 4, none⟩ hg2 (by simp; omega)).trans d4; have HZ := Lib.hid hZ; have HGZ := Lib.hid gz; clear hZ gz) | (refine wpList_store_blk rfl 29 (.tmp 8) (.tmp 22) rfl wz.heap.size 29 _ _ rfl rfl (Blk.new _ _ _) rfl parcelI (by simp [Value.oneCell']) ?_; intro w6 hX gx; have HX6 := Lib.hid hX; have HT6 := Lib.hid (bl_gr (bl_al (Below.refl wz.heap.size wz) _) gx (Nat.le_refl _)); clear hX gx k0 k1 k2 k3 k4 z1))
    try simp only [Act.put]
    have HN6 := Lib.hid (HZ.out.ca HT6.out)
    have HD6 := Lib.hid ((HD3.out.kept HGZ.out (by omega)).below HT6.out)
    have HR6 := Lib.hid ((HR3.out.apart HGZ.out (by omega)).ca HT6.out)
    have HQ6 := Lib.hid ((HQ3.out.apart HGZ.out (by omega)).ca HT6.out)
    have HB6 := Lib.hid (bl_ca (bl_gr HB3.out HGZ.out (Nat.le_refl _)) HT6.out)
    have HE6 := Lib.hid ((HEO.out.kept HGZ.out (fun e => by have := (HEO.out.base_ _ e).1; omega)).below HT6.out)
    have hgz3 := HGZ.out.size
    obtain ⟨g8, hg8⟩ : ∃ g8, g8 = wz.heap.size := ⟨_, rfl⟩
    have hg9 : w3.heap.size ≤ g8 := by omega
    rw [← hg8] at HX6 ⊢
    obtain ⟨k1, hk1⟩ : ∃ k1 : Nat, k1 = i + 1 := ⟨_, rfl⟩
    have hw : IntKind.i64.wrap ((i : Int) + 1) = (k1 : Int) := by rw [IntWalk.i64_in _ (by omega)]; omega
    have hk2 : (k1 : Int) ≤ (m : Int) := by omega
    have hk0 : (0 : Int) ≤ (k1 : Int) := by omega
    have hmc : (m : Int) ≤ (c2 : Int) := by have := HD6.out.row.cap_.1; omega
    have HK1 := Lib.hid hk1
    have hb2 := hs2
    have hl6 := HQ6.out.lt
    clear hg8 hd hk1 d0 d1 d2 d3 d4 HZ HGZ HT6 HD3 HR3 HQ3 HN3 HB3 HEO
    by_cases hlast : m = k1
    · have hcl : (c2 : Int) ≥ (k1 : Int) := by omega
      subst hlast
      by_cases hfull : m = c2
      · subst hfull
        refine wp_region_ps (S := SeqN [10, 12] (fun j mm w' => match j with | 0 => Below w6.heap.size w6 w' | 1 => Below w6.heap.size w6 w' ∧ ∃ A3 c3, mm 10 = .slice A3 (m - 1) c3 ∧ LP.rd w' (fun b => w.heap.size + 3 ≤ b) A3 (m - 1) (ps.take i ++ ps.drop (i + 1)) | _ => ∃ w7 A3 c3, mm 10 = .slice A3 (m - 1) c3 ∧ LP.rd w' (fun b => w.heap.size + 3 ≤ b) A3 (m - 1) (ps.take i ++ ps.drop (i + 1)) ∧ Below w6.heap.size w6 w7 ∧ Blk w' w.heap.size 26 #[.int .u64 sent, .slice A3 (m - 1) c3] ∧ w7.grownBy w' (some w.heap.size))) (by kernel_rfl) ?spswz6b ?ppswz6b
        case spswz6b =>
          exact SeqN.start (by rfl) (Below.refl _ _).drew
        refine Ps.step (i := 0) (d := some 23) (u := ?uwz6b_24) rfl rfl (by kernel_rfl) (by kernel_rfl) (by kernel_rfl) (by kernel_rfl) ?ywz6b_24 ?rwz6b_24
        case ywz6b_24 =>
          refine StepS.pure (SeqN.pass (by decide)) (by rfl) (fun w9 => ?_)
          go_simp
          try rfl
        try simp only [Act.put, List.setIfInBounds_toArray, List.set_cons_zero, List.set_cons_succ]
        refine Ps.step (i := 1) (d := some 24) (u := ?uwz6b_25) rfl rfl (by kernel_rfl) (by kernel_rfl) (by kernel_rfl) (by kernel_rfl) ?ywz6b_25 ?rwz6b_25
        case ywz6b_25 =>
          refine StepS.read [] (by kernel_rfl) (SeqN.pass (by decide)) (by rfl) (fun L9 m9 w9 hSh hAt hDn hS => ?_)
          have hT : Below w6.heap.size w6 w9 := SeqN.none (B := _) (post_no hSh hDn (by kernel_rfl)) hS
          have n1 : w9.cell? ⟨w.heap.size, 1, none⟩ = some (.slice (some ⟨gr, 0, none⟩) m m) := (HN6.out.ca hT).cell 1
          clear hT hS
          go_simp
          try rfl
        try simp only [Act.put, List.setIfInBounds_toArray, List.set_cons_zero, List.set_cons_succ]
        refine Ps.step (i := 2) (d := some 25) (u := ?uwz6b_26) rfl rfl (by kernel_rfl) (by kernel_rfl) (by kernel_rfl) (by kernel_rfl) ?ywz6b_26 ?rwz6b_26
        case ywz6b_26 =>
          refine StepS.pure (SeqN.pass (by decide)) (by rfl) (fun w9 => ?_)
          go_simp
          try rfl
        try simp only [Act.put, List.setIfInBounds_toArray, List.set_cons_zero, List.set_cons_succ]
        refine Ps.step (i := 3) (d := some 26) (u := ?uwz6b_27) rfl rfl (by kernel_rfl) (by kernel_rfl) (by kernel_rfl) (by kernel_rfl) ?ywz6b_27 ?rwz6b_27
        case ywz6b_27 =>
          refine StepS.pure (SeqN.pass (by decide)) (by rfl) (fun w9 => ?_)
          go_simp
          try rfl
        try simp only [Act.put, List.setIfInBounds_toArray, List.set_cons_zero, List.set_cons_succ]
        refine Ps.step (i := 4) (d := some 27) (u := ?uwz6b_28) rfl rfl (by kernel_rfl) (by kernel_rfl) (by kernel_rfl) (by kernel_rfl) ?ywz6b_28 ?rwz6b_28
        case ywz6b_28 =>
          refine StepS.pure (SeqN.pass (by decide)) (by rfl) (fun w9 => ?_)
          go_simp
          try rfl
        try simp only [Act.put, List.setIfInBounds_toArray, List.set_cons_zero, List.set_cons_succ]
        refine Ps.step (i := 5) (d := some 28) (u := ?uwz6b_29) rfl rfl (by kernel_rfl) (by kernel_rfl) (by kernel_rfl) (by kernel_rfl) ?ywz6b_29 ?rwz6b_29
        case ywz6b_29 =>
          refine StepS.pure (SeqN.pass (by decide)) (by rfl) (fun w9 => ?_)
          go_simp
          try rfl
        try simp only [Act.put, List.setIfInBounds_toArray, List.set_cons_zero, List.set_cons_succ]
        refine Ps.step (i := 6) (d := some 29) (u := ?uwz6b_30) rfl rfl (by kernel_rfl) (by kernel_rfl) (by kernel_rfl) (by kernel_rfl) ?ywz6b_30 ?rwz6b_30
        case ywz6b_30 =>
          refine StepS.read [] (by kernel_rfl) (SeqN.pass (by decide)) (by rfl) (fun L9 m9 w9 hSh hAt hDn hS => ?_)
          have hT : Below w6.heap.size w6 w9 := SeqN.none (B := _) (post_no hSh hDn (by kernel_rfl)) hS
          have n1 : w9.cell? ⟨w.heap.size, 1, none⟩ = some (.slice (some ⟨gr, 0, none⟩) m m) := (HN6.out.ca hT).cell 1
          clear hT hS
          go_simp
          try rfl
        try simp only [Act.put, List.setIfInBounds_toArray, List.set_cons_zero, List.set_cons_succ]
        refine Ps.step (i := 7) (d := some 30) (u := ?uwz6b_31) rfl rfl (by kernel_rfl) (by kernel_rfl) (by kernel_rfl) (by kernel_rfl) ?ywz6b_31 ?rwz6b_31
        case ywz6b_31 =>
          refine StepS.pure (SeqN.pass (by decide)) (by rfl) (fun w9 => ?_)
          go_simp
          try rfl
        try simp only [Act.put, List.setIfInBounds_toArray, List.set_cons_zero, List.set_cons_succ]
        refine Ps.step (i := 8) (d := some 31) (u := ?uwz6b_32) rfl rfl (by kernel_rfl) (by kernel_rfl) (by kernel_rfl) (by kernel_rfl) ?ywz6b_32 ?rwz6b_32
        case ywz6b_32 =>
          refine StepS.pure (SeqN.pass (by decide)) (by rfl) (fun w9 => ?_)
          go_simp
          try rfl
        try simp only [Act.put, List.setIfInBounds_toArray, List.set_cons_zero, List.set_cons_succ]
        refine Ps.step (i := 9) (d := some 32) (u := ?uwz6b_33) rfl rfl (by kernel_rfl) (by kernel_rfl) (by kernel_rfl) (by kernel_rfl) ?ywz6b_33 ?rwz6b_33
        case ywz6b_33 =>
          refine StepS.pure (SeqN.pass (by decide)) (by rfl) (fun w9 => ?_)
          go_simp
          try rfl
        try simp only [Act.put, List.setIfInBounds_toArray, List.set_cons_zero, List.set_cons_succ]
        refine Ps.one (k := 10) (d := some 33) rfl rfl (by kernel_rfl) (TurnS.value (V := fun v => ∃ A3 c3, v = .slice A3 (m - 1) c3) [] (by kernel_rfl) (by rfl) (fun L9 m9 w9 hSh hAt hDn hS => ?cwz6b_34)) (fun v10 hVv10 => ?rwz6b_34)
        case cwz6b_34 =>
          have hk1 := HK1.out
          have hC : Below w6.heap.size w6 w9 := SeqN.at_ [] [12] (m0 := m9) (m1 := m9) hSh (fun d hd => by cases hd) hDn (by kernel_rfl) hS
          have hD9 := HD6.out.below hC
          obtain ⟨i0, hi0, hz0, hz1, hz2⟩ := info_parts Try.parcelInfo
          have hsrc := Src.ofSlice (P := Try.prog) (size := 5) (w := w9) Try.underlying24 ⟨gr, 0, none⟩ 0 0 [] rfl (by simp) (by simp)
          have hrun := run_append_nothing (P := Try.prog) w9 24 24 24 29 i0 Try.underlying24 hi0 (some ⟨gr, 0, none⟩) i i (Nat.le_refl _) _ (by rw [hz1]; exact hsrc)
          have hm1 : m - 1 = i := by omega
          have hrd9 := Lay.rd_take (hD9.rd (F := fun b => w.heap.size + 3 ≤ b) (fun b hb => by omega)) (show i ≤ m by omega)
          rw [HES.out, show ps.take i = ps.take i ++ ps.drop (i + 1) from by rw [List.drop_of_length_le (by have := HL.out; omega), List.append_nil]] at hrd9
          exact ⟨_, w9, exec_append _ _ _ rfl rfl rfl hrun, ⟨some ⟨gr, 0, none⟩, i, by rw [hm1]⟩, SeqN.set_ [] [12] (m0 := m9) (m1 := m9) hSh (fun d hd => by cases hd) hDn (by kernel_rfl) (by decide) (by decide) ⟨hC, some ⟨gr, 0, none⟩, i, by rw [hm1]; exact upd_same _ _ _, by rw [hm1]; exact hrd9⟩⟩
        try simp only [Act.put, List.setIfInBounds_toArray, List.set_cons_zero, List.set_cons_succ]
        obtain ⟨A3, c3, rfl⟩ := hVv10
        refine Ps.step (i := 11) (d := some 34) (u := ?uwz6b_35) rfl rfl (by kernel_rfl) (by kernel_rfl) (by kernel_rfl) (by kernel_rfl) ?ywz6b_35 ?rwz6b_35
        case ywz6b_35 =>
          refine StepS.pure (SeqN.pass (by decide)) (by rfl) (fun w9 => ?_)
          go_simp
          try rfl
        try simp only [Act.put, List.setIfInBounds_toArray, List.set_cons_zero, List.set_cons_succ]
        refine Ps.step (i := 12) (d := none) (u := undef) rfl rfl (by kernel_rfl) (by kernel_rfl) (by kernel_rfl) (by kernel_rfl) ?ywz6b_36 ?rwz6b_36
        case ywz6b_36 =>
          refine StepS.store [10] (by kernel_rfl) (by rfl) (fun L9 m9 w9 hSh hAt hDn hS => ?_)
          obtain ⟨hC, A4, c4, hm4, hr4⟩ := SeqN.at_ [10] [] hSh hAt hDn (by kernel_rfl) hS
          obtain ⟨rfl, rfl⟩ : A3 = A4 ∧ c3 = c4 := by have h9 : Value.slice A3 (m - 1) c3 = .slice A4 (m - 1) c4 := (hAt 10 (by simp)).2.symm.trans hm4; simpa using h9
          have hN9 := HN6.out.ca hC
          have x1 : w9.cell? ⟨w.heap.size, 1, none⟩ = some (.slice (some ⟨gr, 0, none⟩) m m) := hN9.cell 1
          have fx : w9.frozen? ⟨w.heap.size, 1, none⟩ = false := hN9.frozen 1
          have hN10 : Blk (w9.setCell ⟨w.heap.size, 1, none⟩ (.slice A3 (m - 1) c3)) w.heap.size 26 #[.int .u64 sent, .slice A3 (m - 1) c3] := by simpa using hN9.set_ 1 (.slice A3 (m - 1) c3)
          have gn : w9.grownBy (w9.setCell ⟨w.heap.size, 1, none⟩ (.slice A3 (m - 1) c3)) (some w.heap.size) := only_setCell (World.grownBy.refl _ _) (.inl rfl) _
          refine ⟨w9.setCell ⟨w.heap.size, 1, none⟩ (.slice A3 (m - 1) c3), ?_, SeqN.set_ [10] [] hSh hAt hDn (by kernel_rfl) (by decide) (by decide) ⟨w9, A3, c3, hm4, Lay.rd_keep (fun b hF hb => gn.block b hb (fun e => by injection e with e; omega)) hr4, hC, hN10, gn⟩⟩
          clear hS hC hr4 hN9 hN10 gn hm4
          go_simp
        try simp only [Act.put]
        refine Ps.done (by kernel_rfl) (fun wz6b hS => ?_) _
        obtain ⟨w7, A4, c4, hm4, hr4, hb7, hN8, hg8⟩ := SeqN.fin (by rfl) hS
        clear hS
        obtain ⟨rfl, rfl⟩ : A3 = A4 ∧ c3 = c4 := by have h9 : Value.slice A3 (m - 1) c3 = .slice A4 (m - 1) c4 := hm4; simpa using h9
        clear hm4
        obtain ⟨w8, rfl⟩ : ∃ x, x = wz6b := ⟨_, rfl⟩
        have HN8 := Lib.hid hN8
        have HX8 := Lib.hid ((HX6.out.ca hb7).apart hg8 (by omega))
        have HR8 := Lib.hid ((HR6.out.ca hb7).apart hg8 (by omega))
        have HQ8 := Lib.hid ((HQ6.out.ca hb7).apart hg8 (by omega))
        have HB8 := Lib.hid (bl_gr (bl_ca HB6.out hb7) hg8 (Nat.le_refl _))
        have HE8 := Lib.hid ((HE6.out.below hb7).kept hg8 (fun e => by have := (HE6.out.base_ _ e).1; omega))
        have HRD := Lib.hid hr4
        clear hN8 hb7 hg8 hr4
        go_wp2_with fail
        refine wp_region_ps (S := SeqT 2 3 (fun _ w' => Below w8.heap.size w8 w') (fun _ w' => ∃ v6, Below w8.heap.size w8 v6 ∧ Blk w' (w.heap.size + 1) 26 #[.int .u64 sent, .slice A3 (m - 1) c3] ∧ v6.grownBy w' (some (w.heap.size + 1))) (fun _ w' => ∃ v6 v7, Below w8.heap.size w8 v6 ∧ v6.grownBy v7 (some (w.heap.size + 1)) ∧ Blk v7 (w.heap.size + 1) 26 #[.int .u64 sent, .slice A3 (m - 1) c3] ∧ v7.grownBy w' (some (w.heap.size + 2)) ∧ Blk w' (w.heap.size + 2) 29 #[.int .u64 q.num, .int .i64 q.frm, .int .i64 q.to, .slice pA pn pc, .bool q.sp])) (by kernel_rfl) ?spswq7b ?ppswq7b
        case spswq7b =>
          exact SeqT.start (by decide) (by decide) (Below.refl _ _).drew
        refine Ps.step (i := 0) (d := some 35) (u := ?uwq7b_19) rfl rfl (by kernel_rfl) (by kernel_rfl) (by kernel_rfl) (by kernel_rfl) ?ywq7b_19 ?rwq7b_19
        case ywq7b_19 =>
          refine StepS.read [] (by kernel_rfl) (SeqT.pass (by decide) (by decide)) (by rfl) (fun L9 m9 w9 hSh hAt hDn hS => ?_)
          have hT : Blk w9 w.heap.size 26 #[.int .u64 sent, .slice A3 (m - 1) c3] := SeqT.any (T := fun w9 => Blk w9 w.heap.size 26 #[.int .u64 sent, .slice A3 (m - 1) c3]) (fun _ _ h => HN8.out.ca h) (fun _ _ ⟨_, h1, _, h3⟩ => (HN8.out.ca h1).apart h3 (by omega)) (fun _ _ ⟨_, _, h1, h2, _, h3, _⟩ => ((HN8.out.ca h1).apart h2 (by omega)).apart h3 (by omega)) hS
          have x0 : w9.cell? ⟨w.heap.size, 0, none⟩ = some (.int .u64 sent) := hT.cell 0
          have x1 : w9.cell? ⟨w.heap.size, 1, none⟩ = some (.slice A3 (m - 1) c3) := hT.cell 1
          clear hT hS
          go_simp
          try rfl
        try simp only [Act.put, List.setIfInBounds_toArray, List.set_cons_zero, List.set_cons_succ]
        refine Ps.step (i := 1) (d := some 36) (u := ?uwq7b_20) rfl rfl (by kernel_rfl) (by kernel_rfl) (by kernel_rfl) (by kernel_rfl) ?ywq7b_20 ?rwq7b_20
        case ywq7b_20 =>
          refine StepS.read [] (by kernel_rfl) (SeqT.pass (by decide) (by decide)) (by rfl) (fun L9 m9 w9 hSh hAt hDn hS => ?_)
          have hT : Blk w9 g8 29 #[.int .u64 q.num, .int .i64 q.frm, .int .i64 q.to, .slice pA pn pc, .bool q.sp] := SeqT.any (T := fun w9 => Blk w9 g8 29 #[.int .u64 q.num, .int .i64 q.frm, .int .i64 q.to, .slice pA pn pc, .bool q.sp]) (fun _ _ h => HX8.out.ca h) (fun _ _ ⟨_, h1, _, h3⟩ => (HX8.out.ca h1).apart h3 (by omega)) (fun _ _ ⟨_, _, h1, h2, _, h3, _⟩ => ((HX8.out.ca h1).apart h2 (by omega)).apart h3 (by omega)) hS
          have x0 : w9.cell? ⟨g8, 0, none⟩ = some (.int .u64 q.num) := hT.cell 0
          have x1 : w9.cell? ⟨g8, 1, none⟩ = some (.int .i64 q.frm) := hT.cell 1
          have x2 : w9.cell? ⟨g8, 2, none⟩ = some (.int .i64 q.to) := hT.cell 2
          have x3 : w9.cell? ⟨g8, 3, none⟩ = some (.slice pA pn pc) := hT.cell 3
          have x4 : w9.cell? ⟨g8, 4, none⟩ = some (.bool q.sp) := hT.cell 4
          clear hT hS
          go_simp
          try rfl
        try simp only [Act.put, List.setIfInBounds_toArray, List.set_cons_zero, List.set_cons_succ]
        refine Ps.step (i := 2) (d := none) (u := undef) rfl rfl (by kernel_rfl) (by kernel_rfl) (by kernel_rfl) (by kernel_rfl) ?ywq7b_21 ?rwq7b_21
        case ywq7b_21 =>
          refine StepS.store [] (by kernel_rfl) (by rfl) (fun L9 m9 w9 hSh hAt hDn hS => ?_)
          have hT := SeqT.at1 hDn (reach_no hSh (f := 6) (j := 3) (by kernel_rfl) hDn) hS
          refine (exec_store_blk (w := w9) 26 (.tmp 4) (.tmp 35) (by rfl) (w.heap.size + 1) 26 #[.int .u64 0, .slice none 0 0] #[.int .u64 sent, .slice A3 (m - 1) c3] (by rfl) (by rfl) (HR8.out.ca hT) rfl netI (by simp [Value.oneCell'])).imp fun w7 hx => ⟨hx.1, SeqT.set1 (by decide) (reach_no hSh (f := 6) (j := 3) (by kernel_rfl) hDn) ⟨w9, hT, hx.2.1, hx.2.2⟩⟩
        try simp only [Act.put]
        refine Ps.step (i := 3) (d := none) (u := undef) rfl rfl (by kernel_rfl) (by kernel_rfl) (by kernel_rfl) (by kernel_rfl) ?ywq7b_22 ?rwq7b_22
        case ywq7b_22 =>
          refine StepS.store [2] (by kernel_rfl) (by rfl) (fun L9 m9 w9 hSh hAt hDn hS => ?_)
          obtain ⟨v6, hT, hB, hg⟩ := SeqT.at2 (hAt 2 (by simp)).1 hDn hS
          refine (exec_store_blk (w := w9) 29 (.tmp 5) (.tmp 36) (by rfl) (w.heap.size + 2) 29 #[.int .u64 0, .int .i64 0, .int .i64 0, .slice none 0 0, .bool false] #[.int .u64 q.num, .int .i64 q.frm, .int .i64 q.to, .slice pA pn pc, .bool q.sp] (by rfl) (by rfl) ((HQ8.out.ca hT).apart hg (by omega)) rfl parcelI (by simp [Value.oneCell'])).imp fun w7 hx => ⟨hx.1, SeqT.set2 (by decide) ⟨v6, w9, hT, hg, hB, hx.2.2, hx.2.1⟩⟩
        try simp only [Act.put]
        refine Ps.step (i := 4) (d := some 6) (u := ?uwq7b_23) rfl rfl (by kernel_rfl) (by kernel_rfl) (by kernel_rfl) (by kernel_rfl) ?ywq7b_23 ?rwq7b_23
        case ywq7b_23 =>
          refine StepS.pure (SeqT.pass (by decide) (by decide)) (by rfl) (fun w9 => ?_)
          go_simp
          try rfl
        try simp only [Act.put, List.setIfInBounds_toArray, List.set_cons_zero, List.set_cons_succ]
        refine Ps.done (by kernel_rfl) (fun wq7b hS => ?_) _
        obtain ⟨v6, v7, hT, hg6, hB6, hg7, hB7⟩ := SeqT.fin (by rfl) hS
        clear hS
        have hBB := hB6.apart hg7 (by omega)
        have hrd7 : LP.rd wq7b (fun b => w.heap.size ≤ b) A3 (m - 1) (ps.take i ++ ps.drop (i + 1)) := Lay.rd_weak (fun b hb _ => by have h9 : w.heap.size + 3 ≤ b := hb; show w.heap.size ≤ b; omega) (Lay.rd_keep (fun b hF hb => hg7.block b hb (fun e => by injection e with e; omega)) (Lay.rd_keep (fun b hF hb => hg6.block b hb (fun e => by injection e with e; omega)) (Lay.rd_below HRD.out hT)))
        have hE7 := ((HE8.out.below hT).kept hg6 (fun e => by have := (HE8.out.base_ _ e).1; omega)).kept hg7 (fun e => by have := (HE8.out.base_ _ e).1; omega)
        go_wp2
        exact bodyPost_ret (resNP Try.results56 rfl rfl rfl hBB hB7 Try.underlying26 Try.underlying29 rfl rfl netI parcelI) rfl ⟨A3, m - 1, c3, pA, pn, pc, rfl, hrd7, hE7.less (by omega), bl_gr (bl_gr (bl_ca HB8.out hT) hg6 (by omega)) hg7 (by omega)⟩
      · have hck : c2 ≠ m := fun h => hfull h.symm
        refine wp_region_ps (S := SeqN [10, 12] (fun j mm w' => match j with | 0 => Below w6.heap.size w6 w' | 1 => Below w6.heap.size w6 w' ∧ ∃ A3 c3, mm 10 = .slice A3 (m - 1) c3 ∧ LP.rd w' (fun b => w.heap.size + 3 ≤ b) A3 (m - 1) (ps.take i ++ ps.drop (i + 1)) | _ => ∃ w7 A3 c3, mm 10 = .slice A3 (m - 1) c3 ∧ LP.rd w' (fun b => w.heap.size + 3 ≤ b) A3 (m - 1) (ps.take i ++ ps.drop (i + 1)) ∧ Below w6.heap.size w6 w7 ∧ Blk w' w.heap.size 26 #[.int .u64 sent, .slice A3 (m - 1) c3] ∧ w7.grownBy w' (some w.heap.size))) (by kernel_rfl) ?spswz6c ?ppswz6c
        case spswz6c =>
          exact SeqN.start (by rfl) (Below.refl _ _).drew
        refine Ps.step (i := 0) (d := some 23) (u := ?uwz6c_42) rfl rfl (by kernel_rfl) (by kernel_rfl) (by kernel_rfl) (by kernel_rfl) ?ywz6c_42 ?rwz6c_42
        case ywz6c_42 =>
          refine StepS.pure (SeqN.pass (by decide)) (by rfl) (fun w9 => ?_)
          go_simp
          try rfl
        try simp only [Act.put, List.setIfInBounds_toArray, List.set_cons_zero, List.set_cons_succ]
        refine Ps.step (i := 1) (d := some 24) (u := ?uwz6c_43) rfl rfl (by kernel_rfl) (by kernel_rfl) (by kernel_rfl) (by kernel_rfl) ?ywz6c_43 ?rwz6c_43
        case ywz6c_43 =>
          refine StepS.read [] (by kernel_rfl) (SeqN.pass (by decide)) (by rfl) (fun L9 m9 w9 hSh hAt hDn hS => ?_)
          have hT : Below w6.heap.size w6 w9 := SeqN.none (B := _) (post_no hSh hDn (by kernel_rfl)) hS
          have n1 : w9.cell? ⟨w.heap.size, 1, none⟩ = some (.slice (some ⟨gr, 0, none⟩) m c2) := (HN6.out.ca hT).cell 1
          clear hT hS
          go_simp
          try rfl
        try simp only [Act.put, List.setIfInBounds_toArray, List.set_cons_zero, List.set_cons_succ]
        refine Ps.step (i := 2) (d := some 25) (u := ?uwz6c_44) rfl rfl (by kernel_rfl) (by kernel_rfl) (by kernel_rfl) (by kernel_rfl) ?ywz6c_44 ?rwz6c_44
        case ywz6c_44 =>
          refine StepS.pure (SeqN.pass (by decide)) (by rfl) (fun w9 => ?_)
          go_simp
          try rfl
        try simp only [Act.put, List.setIfInBounds_toArray, List.set_cons_zero, List.set_cons_succ]
        refine Ps.step (i := 3) (d := some 26) (u := ?uwz6c_45) rfl rfl (by kernel_rfl) (by kernel_rfl) (by kernel_rfl) (by kernel_rfl) ?ywz6c_45 ?rwz6c_45
        case ywz6c_45 =>
          refine StepS.pure (SeqN.pass (by decide)) (by rfl) (fun w9 => ?_)
          go_simp
          try rfl
        try simp only [Act.put, List.setIfInBounds_toArray, List.set_cons_zero, List.set_cons_succ]
        refine Ps.step (i := 4) (d := some 27) (u := ?uwz6c_46) rfl rfl (by kernel_rfl) (by kernel_rfl) (by kernel_rfl) (by kernel_rfl) ?ywz6c_46 ?rwz6c_46
        case ywz6c_46 =>
          refine StepS.pure (SeqN.pass (by decide)) (by rfl) (fun w9 => ?_)
          go_simp
          try rfl
        try simp only [Act.put, List.setIfInBounds_toArray, List.set_cons_zero, List.set_cons_succ]
        refine Ps.step (i := 5) (d := some 28) (u := ?uwz6c_47) rfl rfl (by kernel_rfl) (by kernel_rfl) (by kernel_rfl) (by kernel_rfl) ?ywz6c_47 ?rwz6c_47
        case ywz6c_47 =>
          refine StepS.pure (SeqN.pass (by decide)) (by rfl) (fun w9 => ?_)
          go_simp
          try rfl
        try simp only [Act.put, List.setIfInBounds_toArray, List.set_cons_zero, List.set_cons_succ]
        refine Ps.step (i := 6) (d := some 29) (u := ?uwz6c_48) rfl rfl (by kernel_rfl) (by kernel_rfl) (by kernel_rfl) (by kernel_rfl) ?ywz6c_48 ?rwz6c_48
        case ywz6c_48 =>
          refine StepS.read [] (by kernel_rfl) (SeqN.pass (by decide)) (by rfl) (fun L9 m9 w9 hSh hAt hDn hS => ?_)
          have hT : Below w6.heap.size w6 w9 := SeqN.none (B := _) (post_no hSh hDn (by kernel_rfl)) hS
          have n1 : w9.cell? ⟨w.heap.size, 1, none⟩ = some (.slice (some ⟨gr, 0, none⟩) m c2) := (HN6.out.ca hT).cell 1
          clear hT hS
          go_simp
          try rfl
        try simp only [Act.put, List.setIfInBounds_toArray, List.set_cons_zero, List.set_cons_succ]
        refine Ps.step (i := 7) (d := some 30) (u := ?uwz6c_49) rfl rfl (by kernel_rfl) (by kernel_rfl) (by kernel_rfl) (by kernel_rfl) ?ywz6c_49 ?rwz6c_49
        case ywz6c_49 =>
          refine StepS.pure (SeqN.pass (by decide)) (by rfl) (fun w9 => ?_)
          go_simp
          try rfl
        try simp only [Act.put, List.setIfInBounds_toArray, List.set_cons_zero, List.set_cons_succ]
        refine Ps.step (i := 8) (d := some 31) (u := ?uwz6c_50) rfl rfl (by kernel_rfl) (by kernel_rfl) (by kernel_rfl) (by kernel_rfl) ?ywz6c_50 ?rwz6c_50
        case ywz6c_50 =>
          refine StepS.pure (SeqN.pass (by decide)) (by rfl) (fun w9 => ?_)
          go_simp
          try rfl
        try simp only [Act.put, List.setIfInBounds_toArray, List.set_cons_zero, List.set_cons_succ]
        refine Ps.step (i := 9) (d := some 32) (u := ?uwz6c_51) rfl rfl (by kernel_rfl) (by kernel_rfl) (by kernel_rfl) (by kernel_rfl) ?ywz6c_51 ?rwz6c_51
        case ywz6c_51 =>
          refine StepS.pure (SeqN.pass (by decide)) (by rfl) (fun w9 => ?_)
          go_simp
          try rfl
        try simp only [Act.put, List.setIfInBounds_toArray, List.set_cons_zero, List.set_cons_succ]
        refine Ps.one (k := 10) (d := some 33) rfl rfl (by kernel_rfl) (TurnS.value (V := fun v => ∃ A3 c3, v = .slice A3 (m - 1) c3) [] (by kernel_rfl) (by rfl) (fun L9 m9 w9 hSh hAt hDn hS => ?cwz6c_52)) (fun v10 hVv10 => ?rwz6c_52)
        case cwz6c_52 =>
          have hk1 := HK1.out
          have hC : Below w6.heap.size w6 w9 := SeqN.at_ [] [12] (m0 := m9) (m1 := m9) hSh (fun d hd => by cases hd) hDn (by kernel_rfl) hS
          have hD9 := HD6.out.below hC
          obtain ⟨i0, hi0, hz0, hz1, hz2⟩ := info_parts Try.parcelInfo
          have hsrc := Src.ofSlice (P := Try.prog) (size := 5) (w := w9) Try.underlying24 ⟨gr, m * 5, none⟩ 0 (c2 - m) [] rfl (by simp) (by simp)
          have hrun := run_append_nothing (P := Try.prog) w9 24 24 24 29 i0 Try.underlying24 hi0 (some ⟨gr, 0, none⟩) i i (Nat.le_refl _) _ (by rw [hz1]; exact hsrc)
          have hm1 : m - 1 = i := by omega
          have hrd9 := Lay.rd_take (hD9.rd (F := fun b => w.heap.size + 3 ≤ b) (fun b hb => by omega)) (show i ≤ m by omega)
          rw [HES.out, show ps.take i = ps.take i ++ ps.drop (i + 1) from by rw [List.drop_of_length_le (by have := HL.out; omega), List.append_nil]] at hrd9
          exact ⟨_, w9, exec_append _ _ _ rfl rfl rfl hrun, ⟨some ⟨gr, 0, none⟩, i, by rw [hm1]⟩, SeqN.set_ [] [12] (m0 := m9) (m1 := m9) hSh (fun d hd => by cases hd) hDn (by kernel_rfl) (by decide) (by decide) ⟨hC, some ⟨gr, 0, none⟩, i, by rw [hm1]; exact upd_same _ _ _, by rw [hm1]; exact hrd9⟩⟩
        try simp only [Act.put, List.setIfInBounds_toArray, List.set_cons_zero, List.set_cons_succ]
        obtain ⟨A3, c3, rfl⟩ := hVv10
        refine Ps.step (i := 11) (d := some 34) (u := ?uwz6c_53) rfl rfl (by kernel_rfl) (by kernel_rfl) (by kernel_rfl) (by kernel_rfl) ?ywz6c_53 ?rwz6c_53
        case ywz6c_53 =>
          refine StepS.pure (SeqN.pass (by decide)) (by rfl) (fun w9 => ?_)
          go_simp
          try rfl
        try simp only [Act.put, List.setIfInBounds_toArray, List.set_cons_zero, List.set_cons_succ]
        refine Ps.step (i := 12) (d := none) (u := undef) rfl rfl (by kernel_rfl) (by kernel_rfl) (by kernel_rfl) (by kernel_rfl) ?ywz6c_54 ?rwz6c_54
        case ywz6c_54 =>
          refine StepS.store [10] (by kernel_rfl) (by rfl) (fun L9 m9 w9 hSh hAt hDn hS => ?_)
          obtain ⟨hC, A4, c4, hm4, hr4⟩ := SeqN.at_ [10] [] hSh hAt hDn (by kernel_rfl) hS
          obtain ⟨rfl, rfl⟩ : A3 = A4 ∧ c3 = c4 := by have h9 : Value.slice A3 (m - 1) c3 = .slice A4 (m - 1) c4 := (hAt 10 (by simp)).2.symm.trans hm4; simpa using h9
          have hN9 := HN6.out.ca hC
          have x1 : w9.cell? ⟨w.heap.size, 1, none⟩ = some (.slice (some ⟨gr, 0, none⟩) m c2) := hN9.cell 1
          have fx : w9.frozen? ⟨w.heap.size, 1, none⟩ = false := hN9.frozen 1
          have hN10 : Blk (w9.setCell ⟨w.heap.size, 1, none⟩ (.slice A3 (m - 1) c3)) w.heap.size 26 #[.int .u64 sent, .slice A3 (m - 1) c3] := by simpa using hN9.set_ 1 (.slice A3 (m - 1) c3)
          have gn : w9.grownBy (w9.setCell ⟨w.heap.size, 1, none⟩ (.slice A3 (m - 1) c3)) (some w.heap.size) := only_setCell (World.grownBy.refl _ _) (.inl rfl) _
          refine ⟨w9.setCell ⟨w.heap.size, 1, none⟩ (.slice A3 (m - 1) c3), ?_, SeqN.set_ [10] [] hSh hAt hDn (by kernel_rfl) (by decide) (by decide) ⟨w9, A3, c3, hm4, Lay.rd_keep (fun b hF hb => gn.block b hb (fun e => by injection e with e; omega)) hr4, hC, hN10, gn⟩⟩
          clear hS hC hr4 hN9 hN10 gn hm4
          go_simp
        try simp only [Act.put]
        refine Ps.done (by kernel_rfl) (fun wz6c hS => ?_) _
        obtain ⟨w7, A4, c4, hm4, hr4, hb7, hN8, hg8⟩ := SeqN.fin (by rfl) hS
        clear hS
        obtain ⟨rfl, rfl⟩ : A3 = A4 ∧ c3 = c4 := by have h9 : Value.slice A3 (m - 1) c3 = .slice A4 (m - 1) c4 := hm4; simpa using h9
        clear hm4
        obtain ⟨w8, rfl⟩ : ∃ x, x = wz6c := ⟨_, rfl⟩
        have HN8 := Lib.hid hN8
        have HX8 := Lib.hid ((HX6.out.ca hb7).apart hg8 (by omega))
        have HR8 := Lib.hid ((HR6.out.ca hb7).apart hg8 (by omega))
        have HQ8 := Lib.hid ((HQ6.out.ca hb7).apart hg8 (by omega))
        have HB8 := Lib.hid (bl_gr (bl_ca HB6.out hb7) hg8 (Nat.le_refl _))
        have HE8 := Lib.hid ((HE6.out.below hb7).kept hg8 (fun e => by have := (HE6.out.base_ _ e).1; omega))
        have HRD := Lib.hid hr4
        clear hN8 hb7 hg8 hr4
        go_wp2_with fail
        refine wp_region_ps (S := SeqT 2 3 (fun _ w' => Below w8.heap.size w8 w') (fun _ w' => ∃ v6, Below w8.heap.size w8 v6 ∧ Blk w' (w.heap.size + 1) 26 #[.int .u64 sent, .slice A3 (m - 1) c3] ∧ v6.grownBy w' (some (w.heap.size + 1))) (fun _ w' => ∃ v6 v7, Below w8.heap.size w8 v6 ∧ v6.grownBy v7 (some (w.heap.size + 1)) ∧ Blk v7 (w.heap.size + 1) 26 #[.int .u64 sent, .slice A3 (m - 1) c3] ∧ v7.grownBy w' (some (w.heap.size + 2)) ∧ Blk w' (w.heap.size + 2) 29 #[.int .u64 q.num, .int .i64 q.frm, .int .i64 q.to, .slice pA pn pc, .bool q.sp])) (by kernel_rfl) ?spswq7c ?ppswq7c
        case spswq7c =>
          exact SeqT.start (by decide) (by decide) (Below.refl _ _).drew
        refine Ps.step (i := 0) (d := some 35) (u := ?uwq7c_37) rfl rfl (by kernel_rfl) (by kernel_rfl) (by kernel_rfl) (by kernel_rfl) ?ywq7c_37 ?rwq7c_37
        case ywq7c_37 =>
          refine StepS.read [] (by kernel_rfl) (SeqT.pass (by decide) (by decide)) (by rfl) (fun L9 m9 w9 hSh hAt hDn hS => ?_)
          have hT : Blk w9 w.heap.size 26 #[.int .u64 sent, .slice A3 (m - 1) c3] := SeqT.any (T := fun w9 => Blk w9 w.heap.size 26 #[.int .u64 sent, .slice A3 (m - 1) c3]) (fun _ _ h => HN8.out.ca h) (fun _ _ ⟨_, h1, _, h3⟩ => (HN8.out.ca h1).apart h3 (by omega)) (fun _ _ ⟨_, _, h1, h2, _, h3, _⟩ => ((HN8.out.ca h1).apart h2 (by omega)).apart h3 (by omega)) hS
          have x0 : w9.cell? ⟨w.heap.size, 0, none⟩ = some (.int .u64 sent) := hT.cell 0
          have x1 : w9.cell? ⟨w.heap.size, 1, none⟩ = some (.slice A3 (m - 1) c3) := hT.cell 1
          clear hT hS
          go_simp
          try rfl
        try simp only [Act.put, List.setIfInBounds_toArray, List.set_cons_zero, List.set_cons_succ]
        refine Ps.step (i := 1) (d := some 36) (u := ?uwq7c_38) rfl rfl (by kernel_rfl) (by kernel_rfl) (by kernel_rfl) (by kernel_rfl) ?ywq7c_38 ?rwq7c_38
        case ywq7c_38 =>
          refine StepS.read [] (by kernel_rfl) (SeqT.pass (by decide) (by decide)) (by rfl) (fun L9 m9 w9 hSh hAt hDn hS => ?_)
          have hT : Blk w9 g8 29 #[.int .u64 q.num, .int .i64 q.frm, .int .i64 q.to, .slice pA pn pc, .bool q.sp] := SeqT.any (T := fun w9 => Blk w9 g8 29 #[.int .u64 q.num, .int .i64 q.frm, .int .i64 q.to, .slice pA pn pc, .bool q.sp]) (fun _ _ h => HX8.out.ca h) (fun _ _ ⟨_, h1, _, h3⟩ => (HX8.out.ca h1).apart h3 (by omega)) (fun _ _ ⟨_, _, h1, h2, _, h3, _⟩ => ((HX8.out.ca h1).apart h2 (by omega)).apart h3 (by omega)) hS
          have x0 : w9.cell? ⟨g8, 0, none⟩ = some (.int .u64 q.num) := hT.cell 0
          have x1 : w9.cell? ⟨g8, 1, none⟩ = some (.int .i64 q.frm) := hT.cell 1
          have x2 : w9.cell? ⟨g8, 2, none⟩ = some (.int .i64 q.to) := hT.cell 2
          have x3 : w9.cell? ⟨g8, 3, none⟩ = some (.slice pA pn pc) := hT.cell 3
          have x4 : w9.cell? ⟨g8, 4, none⟩ = some (.bool q.sp) := hT.cell 4
          clear hT hS
          go_simp
          try rfl
        try simp only [Act.put, List.setIfInBounds_toArray, List.set_cons_zero, List.set_cons_succ]
        refine Ps.step (i := 2) (d := none) (u := undef) rfl rfl (by kernel_rfl) (by kernel_rfl) (by kernel_rfl) (by kernel_rfl) ?ywq7c_39 ?rwq7c_39
        case ywq7c_39 =>
          refine StepS.store [] (by kernel_rfl) (by rfl) (fun L9 m9 w9 hSh hAt hDn hS => ?_)
          have hT := SeqT.at1 hDn (reach_no hSh (f := 6) (j := 3) (by kernel_rfl) hDn) hS
          refine (exec_store_blk (w := w9) 26 (.tmp 4) (.tmp 35) (by rfl) (w.heap.size + 1) 26 #[.int .u64 0, .slice none 0 0] #[.int .u64 sent, .slice A3 (m - 1) c3] (by rfl) (by rfl) (HR8.out.ca hT) rfl netI (by simp [Value.oneCell'])).imp fun w7 hx => ⟨hx.1, SeqT.set1 (by decide) (reach_no hSh (f := 6) (j := 3) (by kernel_rfl) hDn) ⟨w9, hT, hx.2.1, hx.2.2⟩⟩
        try simp only [Act.put]
        refine Ps.step (i := 3) (d := none) (u := undef) rfl rfl (by kernel_rfl) (by kernel_rfl) (by kernel_rfl) (by kernel_rfl) ?ywq7c_40 ?rwq7c_40
        case ywq7c_40 =>
          refine StepS.store [2] (by kernel_rfl) (by rfl) (fun L9 m9 w9 hSh hAt hDn hS => ?_)
          obtain ⟨v6, hT, hB, hg⟩ := SeqT.at2 (hAt 2 (by simp)).1 hDn hS
          refine (exec_store_blk (w := w9) 29 (.tmp 5) (.tmp 36) (by rfl) (w.heap.size + 2) 29 #[.int .u64 0, .int .i64 0, .int .i64 0, .slice none 0 0, .bool false] #[.int .u64 q.num, .int .i64 q.frm, .int .i64 q.to, .slice pA pn pc, .bool q.sp] (by rfl) (by rfl) ((HQ8.out.ca hT).apart hg (by omega)) rfl parcelI (by simp [Value.oneCell'])).imp fun w7 hx => ⟨hx.1, SeqT.set2 (by decide) ⟨v6, w9, hT, hg, hB, hx.2.2, hx.2.1⟩⟩
        try simp only [Act.put]
        refine Ps.step (i := 4) (d := some 6) (u := ?uwq7c_41) rfl rfl (by kernel_rfl) (by kernel_rfl) (by kernel_rfl) (by kernel_rfl) ?ywq7c_41 ?rwq7c_41
        case ywq7c_41 =>
          refine StepS.pure (SeqT.pass (by decide) (by decide)) (by rfl) (fun w9 => ?_)
          go_simp
          try rfl
        try simp only [Act.put, List.setIfInBounds_toArray, List.set_cons_zero, List.set_cons_succ]
        refine Ps.done (by kernel_rfl) (fun wq7c hS => ?_) _
        obtain ⟨v6, v7, hT, hg6, hB6, hg7, hB7⟩ := SeqT.fin (by rfl) hS
        clear hS
        have hBB := hB6.apart hg7 (by omega)
        have hrd7 : LP.rd wq7c (fun b => w.heap.size ≤ b) A3 (m - 1) (ps.take i ++ ps.drop (i + 1)) := Lay.rd_weak (fun b hb _ => by have h9 : w.heap.size + 3 ≤ b := hb; show w.heap.size ≤ b; omega) (Lay.rd_keep (fun b hF hb => hg7.block b hb (fun e => by injection e with e; omega)) (Lay.rd_keep (fun b hF hb => hg6.block b hb (fun e => by injection e with e; omega)) (Lay.rd_below HRD.out hT)))
        have hE7 := ((HE8.out.below hT).kept hg6 (fun e => by have := (HE8.out.base_ _ e).1; omega)).kept hg7 (fun e => by have := (HE8.out.base_ _ e).1; omega)
        go_wp2
        exact bodyPost_ret (resNP Try.results56 rfl rfl rfl hBB hB7 Try.underlying26 Try.underlying29 rfl rfl netI parcelI) rfl ⟨A3, m - 1, c3, pA, pn, pc, rfl, hrd7, hE7.less (by omega), bl_gr (bl_gr (bl_ca HB8.out hT) hg6 (by omega)) hg7 (by omega)⟩
    · have hck : c2 ≠ k1 := by omega
      refine wp_region_ps (S := SeqN [10, 12] (fun j mm w' => match j with | 0 => Below w6.heap.size w6 w' | 1 => Below w6.heap.size w6 w' ∧ ∃ A3 c3, mm 10 = .slice A3 (m - 1) c3 ∧ LP.rd w' (fun b => w.heap.size + 3 ≤ b) A3 (m - 1) (ps.take i ++ ps.drop (i + 1)) | _ => ∃ w7 A3 c3, mm 10 = .slice A3 (m - 1) c3 ∧ LP.rd w' (fun b => w.heap.size + 3 ≤ b) A3 (m - 1) (ps.take i ++ ps.drop (i + 1)) ∧ Below w6.heap.size w6 w7 ∧ Blk w' w.heap.size 26 #[.int .u64 sent, .slice A3 (m - 1) c3] ∧ w7.grownBy w' (some w.heap.size))) (by kernel_rfl) ?spswz6a ?ppswz6a
      case spswz6a =>
        exact SeqN.start (by rfl) (Below.refl _ _).drew
      refine Ps.step (i := 0) (d := some 23) (u := ?uwz6a_6) rfl rfl (by kernel_rfl) (by kernel_rfl) (by kernel_rfl) (by kernel_rfl) ?ywz6a_6 ?rwz6a_6
      case ywz6a_6 =>
        refine StepS.pure (SeqN.pass (by decide)) (by rfl) (fun w9 => ?_)
        go_simp
        try rfl
      try simp only [Act.put, List.setIfInBounds_toArray, List.set_cons_zero, List.set_cons_succ]
      refine Ps.step (i := 1) (d := some 24) (u := ?uwz6a_7) rfl rfl (by kernel_rfl) (by kernel_rfl) (by kernel_rfl) (by kernel_rfl) ?ywz6a_7 ?rwz6a_7
      case ywz6a_7 =>
        refine StepS.read [] (by kernel_rfl) (SeqN.pass (by decide)) (by rfl) (fun L9 m9 w9 hSh hAt hDn hS => ?_)
        have hT : Below w6.heap.size w6 w9 := SeqN.none (B := _) (post_no hSh hDn (by kernel_rfl)) hS
        have n1 : w9.cell? ⟨w.heap.size, 1, none⟩ = some (.slice (some ⟨gr, 0, none⟩) m c2) := (HN6.out.ca hT).cell 1
        clear hT hS
        go_simp
        try rfl
      try simp only [Act.put, List.setIfInBounds_toArray, List.set_cons_zero, List.set_cons_succ]
      refine Ps.step (i := 2) (d := some 25) (u := ?uwz6a_8) rfl rfl (by kernel_rfl) (by kernel_rfl) (by kernel_rfl) (by kernel_rfl) ?ywz6a_8 ?rwz6a_8
      case ywz6a_8 =>
        refine StepS.pure (SeqN.pass (by decide)) (by rfl) (fun w9 => ?_)
        go_simp
        try rfl
      try simp only [Act.put, List.setIfInBounds_toArray, List.set_cons_zero, List.set_cons_succ]
      refine Ps.step (i := 3) (d := some 26) (u := ?uwz6a_9) rfl rfl (by kernel_rfl) (by kernel_rfl) (by kernel_rfl) (by kernel_rfl) ?ywz6a_9 ?rwz6a_9
      case ywz6a_9 =>
        refine StepS.pure (SeqN.pass (by decide)) (by rfl) (fun w9 => ?_)
        go_simp
        try rfl
      try simp only [Act.put, List.setIfInBounds_toArray, List.set_cons_zero, List.set_cons_succ]
      refine Ps.step (i := 4) (d := some 27) (u := ?uwz6a_10) rfl rfl (by kernel_rfl) (by kernel_rfl) (by kernel_rfl) (by kernel_rfl) ?ywz6a_10 ?rwz6a_10
      case ywz6a_10 =>
        refine StepS.pure (SeqN.pass (by decide)) (by rfl) (fun w9 => ?_)
        go_simp
        try rfl
      try simp only [Act.put, List.setIfInBounds_toArray, List.set_cons_zero, List.set_cons_succ]
      refine Ps.step (i := 5) (d := some 28) (u := ?uwz6a_11) rfl rfl (by kernel_rfl) (by kernel_rfl) (by kernel_rfl) (by kernel_rfl) ?ywz6a_11 ?rwz6a_11
      case ywz6a_11 =>
        refine StepS.pure (SeqN.pass (by decide)) (by rfl) (fun w9 => ?_)
        go_simp
        try rfl
      try simp only [Act.put, List.setIfInBounds_toArray, List.set_cons_zero, List.set_cons_succ]
      refine Ps.step (i := 6) (d := some 29) (u := ?uwz6a_12) rfl rfl (by kernel_rfl) (by kernel_rfl) (by kernel_rfl) (by kernel_rfl) ?ywz6a_12 ?rwz6a_12
      case ywz6a_12 =>
        refine StepS.read [] (by kernel_rfl) (SeqN.pass (by decide)) (by rfl) (fun L9 m9 w9 hSh hAt hDn hS => ?_)
        have hT : Below w6.heap.size w6 w9 := SeqN.none (B := _) (post_no hSh hDn (by kernel_rfl)) hS
        have n1 : w9.cell? ⟨w.heap.size, 1, none⟩ = some (.slice (some ⟨gr, 0, none⟩) m c2) := (HN6.out.ca hT).cell 1
        clear hT hS
        go_simp
        try rfl
      try simp only [Act.put, List.setIfInBounds_toArray, List.set_cons_zero, List.set_cons_succ]
      refine Ps.step (i := 7) (d := some 30) (u := ?uwz6a_13) rfl rfl (by kernel_rfl) (by kernel_rfl) (by kernel_rfl) (by kernel_rfl) ?ywz6a_13 ?rwz6a_13
      case ywz6a_13 =>
        refine StepS.pure (SeqN.pass (by decide)) (by rfl) (fun w9 => ?_)
        go_simp
        try rfl
      try simp only [Act.put, List.setIfInBounds_toArray, List.set_cons_zero, List.set_cons_succ]
      refine Ps.step (i := 8) (d := some 31) (u := ?uwz6a_14) rfl rfl (by kernel_rfl) (by kernel_rfl) (by kernel_rfl) (by kernel_rfl) ?ywz6a_14 ?rwz6a_14
      case ywz6a_14 =>
        refine StepS.pure (SeqN.pass (by decide)) (by rfl) (fun w9 => ?_)
        go_simp
        try rfl
      try simp only [Act.put, List.setIfInBounds_toArray, List.set_cons_zero, List.set_cons_succ]
      refine Ps.step (i := 9) (d := some 32) (u := ?uwz6a_15) rfl rfl (by kernel_rfl) (by kernel_rfl) (by kernel_rfl) (by kernel_rfl) ?ywz6a_15 ?rwz6a_15
      case ywz6a_15 =>
        refine StepS.pure (SeqN.pass (by decide)) (by rfl) (fun w9 => ?_)
        go_simp
        try rfl
      try simp only [Act.put, List.setIfInBounds_toArray, List.set_cons_zero, List.set_cons_succ]
      refine Ps.one (k := 10) (d := some 33) rfl rfl (by kernel_rfl) (TurnS.value (V := fun v => ∃ A3 c3, v = .slice A3 (m - 1) c3) [] (by kernel_rfl) (by rfl) (fun L9 m9 w9 hSh hAt hDn hS => ?cwz6a_16)) (fun v10 hVv10 => ?rwz6a_16)
      case cwz6a_16 =>
        have hk1 := HK1.out
        subst hk1
        have hC : Below w6.heap.size w6 w9 := SeqN.at_ [] [12] (m0 := m9) (m1 := m9) hSh (fun d hd => by cases hd) hDn (by kernel_rfl) hS
        have hD9 := HD6.out.below hC
        obtain ⟨hp1, hp2⟩ := Ro.parts hD9.row (show i + 1 ≤ m by omega)
        obtain ⟨i0, hi0, hz0, hz1, hz2⟩ := info_parts Try.parcelInfo
        obtain ⟨v', w8, hrun, hown, hg⟩ := run_append_arg_grows (P := Try.prog) w9 24 24 29 i0 _ 5 56 Try.underlying24 hi0 hz0 hz1 hz2 rfl (by omega) ⟨gr, 0, none⟩ i i (ecells (es.take i)) (by rw [ecells_len, List.length_take, hD9.len, Nat.min_eq_left (by omega)]) hp1 ⟨gr, (i + 1) * 5, none⟩ (m - (i + 1)) (c2 - (i + 1)) (ecells (es.drop (i + 1))) (by rw [ecells_len, List.length_drop, hD9.len]) hp2 (by omega) (by unfold maxLen; omega) (by omega)
        obtain ⟨A3, c3, rfl⟩ := own_form' hown
        rw [show i + (m - (i + 1)) = m - 1 from by omega, ← ecells_append] at hown
        have hrow : Ro w8 w9.heap.size A3 (m - 1) c3 (es.take i ++ es.drop (i + 1)) := hown
        have hb8 := below_of_grown hg
        have hok8 : ∀ e ∈ es.take i ++ es.drop (i + 1), e.ok w8 (fun b => w.heap.size + 3 ≤ b) := fun e he => El.ok_of ((hD9.own e (mem_parts he)).below hb8) (fun b hb => by omega)
        have hrd8 := hrow.rd hok8 (fun b hb => by have := hC.size; omega)
        rw [map_parts, HES.out] at hrd8
        exact ⟨_, w8, exec_append _ _ _ rfl rfl rfl (by rw [← show i + (m - (i + 1)) = m - 1 from by omega]; exact hrun), ⟨A3, c3, rfl⟩, SeqN.set_ [] [12] (m0 := m9) (m1 := m9) hSh (fun d hd => by cases hd) hDn (by kernel_rfl) (by decide) (by decide) ⟨bl_ca hC hb8, A3, c3, upd_same _ _ _, hrd8⟩⟩
      try simp only [Act.put, List.setIfInBounds_toArray, List.set_cons_zero, List.set_cons_succ]
      obtain ⟨A3, c3, rfl⟩ := hVv10
      refine Ps.step (i := 11) (d := some 34) (u := ?uwz6a_17) rfl rfl (by kernel_rfl) (by kernel_rfl) (by kernel_rfl) (by kernel_rfl) ?ywz6a_17 ?rwz6a_17
      case ywz6a_17 =>
        refine StepS.pure (SeqN.pass (by decide)) (by rfl) (fun w9 => ?_)
        go_simp
        try rfl
      try simp only [Act.put, List.setIfInBounds_toArray, List.set_cons_zero, List.set_cons_succ]
      refine Ps.step (i := 12) (d := none) (u := undef) rfl rfl (by kernel_rfl) (by kernel_rfl) (by kernel_rfl) (by kernel_rfl) ?ywz6a_18 ?rwz6a_18
      case ywz6a_18 =>
        refine StepS.store [10] (by kernel_rfl) (by rfl) (fun L9 m9 w9 hSh hAt hDn hS => ?_)
        obtain ⟨hC, A4, c4, hm4, hr4⟩ := SeqN.at_ [10] [] hSh hAt hDn (by kernel_rfl) hS
        obtain ⟨rfl, rfl⟩ : A3 = A4 ∧ c3 = c4 := by have h9 : Value.slice A3 (m - 1) c3 = .slice A4 (m - 1) c4 := (hAt 10 (by simp)).2.symm.trans hm4; simpa using h9
        have hN9 := HN6.out.ca hC
        have x1 : w9.cell? ⟨w.heap.size, 1, none⟩ = some (.slice (some ⟨gr, 0, none⟩) m c2) := hN9.cell 1
        have fx : w9.frozen? ⟨w.heap.size, 1, none⟩ = false := hN9.frozen 1
        have hN10 : Blk (w9.setCell ⟨w.heap.size, 1, none⟩ (.slice A3 (m - 1) c3)) w.heap.size 26 #[.int .u64 sent, .slice A3 (m - 1) c3] := by simpa using hN9.set_ 1 (.slice A3 (m - 1) c3)
        have gn : w9.grownBy (w9.setCell ⟨w.heap.size, 1, none⟩ (.slice A3 (m - 1) c3)) (some w.heap.size) := only_setCell (World.grownBy.refl _ _) (.inl rfl) _
        refine ⟨w9.setCell ⟨w.heap.size, 1, none⟩ (.slice A3 (m - 1) c3), ?_, SeqN.set_ [10] [] hSh hAt hDn (by kernel_rfl) (by decide) (by decide) ⟨w9, A3, c3, hm4, Lay.rd_keep (fun b hF hb => gn.block b hb (fun e => by injection e with e; omega)) hr4, hC, hN10, gn⟩⟩
        clear hS hC hr4 hN9 hN10 gn hm4
        go_simp
      try simp only [Act.put]
      refine Ps.done (by kernel_rfl) (fun wz6a hS => ?_) _
      obtain ⟨w7, A4, c4, hm4, hr4, hb7, hN8, hg8⟩ := SeqN.fin (by rfl) hS
      clear hS
      obtain ⟨rfl, rfl⟩ : A3 = A4 ∧ c3 = c4 := by have h9 : Value.slice A3 (m - 1) c3 = .slice A4 (m - 1) c4 := hm4; simpa using h9
      clear hm4
      obtain ⟨w8, rfl⟩ : ∃ x, x = wz6a := ⟨_, rfl⟩
      have HN8 := Lib.hid hN8
      have HX8 := Lib.hid ((HX6.out.ca hb7).apart hg8 (by omega))
      have HR8 := Lib.hid ((HR6.out.ca hb7).apart hg8 (by omega))
      have HQ8 := Lib.hid ((HQ6.out.ca hb7).apart hg8 (by omega))
      have HB8 := Lib.hid (bl_gr (bl_ca HB6.out hb7) hg8 (Nat.le_refl _))
      have HE8 := Lib.hid ((HE6.out.below hb7).kept hg8 (fun e => by have := (HE6.out.base_ _ e).1; omega))
      have HRD := Lib.hid hr4
      clear hN8 hb7 hg8 hr4
      go_wp2_with fail
      refine wp_region_ps (S := SeqT 2 3 (fun _ w' => Below w8.heap.size w8 w') (fun _ w' => ∃ v6, Below w8.heap.size w8 v6 ∧ Blk w' (w.heap.size + 1) 26 #[.int .u64 sent, .slice A3 (m - 1) c3] ∧ v6.grownBy w' (some (w.heap.size + 1))) (fun _ w' => ∃ v6 v7, Below w8.heap.size w8 v6 ∧ v6.grownBy v7 (some (w.heap.size + 1)) ∧ Blk v7 (w.heap.size + 1) 26 #[.int .u64 sent, .slice A3 (m - 1) c3] ∧ v7.grownBy w' (some (w.heap.size + 2)) ∧ Blk w' (w.heap.size + 2) 29 #[.int .u64 q.num, .int .i64 q.frm, .int .i64 q.to, .slice pA pn pc, .bool q.sp])) (by kernel_rfl) ?spswq7a ?ppswq7a
      case spswq7a =>
        exact SeqT.start (by decide) (by decide) (Below.refl _ _).drew
      refine Ps.step (i := 0) (d := some 35) (u := ?uwq7a_1) rfl rfl (by kernel_rfl) (by kernel_rfl) (by kernel_rfl) (by kernel_rfl) ?ywq7a_1 ?rwq7a_1
      case ywq7a_1 =>
        refine StepS.read [] (by kernel_rfl) (SeqT.pass (by decide) (by decide)) (by rfl) (fun L9 m9 w9 hSh hAt hDn hS => ?_)
        have hT : Blk w9 w.heap.size 26 #[.int .u64 sent, .slice A3 (m - 1) c3] := SeqT.any (T := fun w9 => Blk w9 w.heap.size 26 #[.int .u64 sent, .slice A3 (m - 1) c3]) (fun _ _ h => HN8.out.ca h) (fun _ _ ⟨_, h1, _, h3⟩ => (HN8.out.ca h1).apart h3 (by omega)) (fun _ _ ⟨_, _, h1, h2, _, h3, _⟩ => ((HN8.out.ca h1).apart h2 (by omega)).apart h3 (by omega)) hS
        have x0 : w9.cell? ⟨w.heap.size, 0, none⟩ = some (.int .u64 sent) := hT.cell 0
        have x1 : w9.cell? ⟨w.heap.size, 1, none⟩ = some (.slice A3 (m - 1) c3) := hT.cell 1
        clear hT hS
        go_simp
        try rfl
      try simp only [Act.put, List.setIfInBounds_toArray, List.set_cons_zero, List.set_cons_succ]
      refine Ps.step (i := 1) (d := some 36) (u := ?uwq7a_2) rfl rfl (by kernel_rfl) (by kernel_rfl) (by kernel_rfl) (by kernel_rfl) ?ywq7a_2 ?rwq7a_2
      case ywq7a_2 =>
        refine StepS.read [] (by kernel_rfl) (SeqT.pass (by decide) (by decide)) (by rfl) (fun L9 m9 w9 hSh hAt hDn hS => ?_)
        have hT : Blk w9 g8 29 #[.int .u64 q.num, .int .i64 q.frm, .int .i64 q.to, .slice pA pn pc, .bool q.sp] := SeqT.any (T := fun w9 => Blk w9 g8 29 #[.int .u64 q.num, .int .i64 q.frm, .int .i64 q.to, .slice pA pn pc, .bool q.sp]) (fun _ _ h => HX8.out.ca h) (fun _ _ ⟨_, h1, _, h3⟩ => (HX8.out.ca h1).apart h3 (by omega)) (fun _ _ ⟨_, _, h1, h2, _, h3, _⟩ => ((HX8.out.ca h1).apart h2 (by omega)).apart h3 (by omega)) hS
        have x0 : w9.cell? ⟨g8, 0, none⟩ = some (.int .u64 q.num) := hT.cell 0
        have x1 : w9.cell? ⟨g8, 1, none⟩ = some (.int .i64 q.frm) := hT.cell 1
        have x2 : w9.cell? ⟨g8, 2, none⟩ = some (.int .i64 q.to) := hT.cell 2
        have x3 : w9.cell? ⟨g8, 3, none⟩ = some (.slice pA pn pc) := hT.cell 3
        have x4 : w9.cell? ⟨g8, 4, none⟩ = some (.bool q.sp) := hT.cell 4
        clear hT hS
        go_simp
        try rfl
      try simp only [Act.put, List.setIfInBounds_toArray, List.set_cons_zero, List.set_cons_succ]
      refine Ps.step (i := 2) (d := none) (u := undef) rfl rfl (by kernel_rfl) (by kernel_rfl) (by kernel_rfl) (by kernel_rfl) ?ywq7a_3 ?rwq7a_3
      case ywq7a_3 =>
        refine StepS.store [] (by kernel_rfl) (by rfl) (fun L9 m9 w9 hSh hAt hDn hS => ?_)
        have hT := SeqT.at1 hDn (reach_no hSh (f := 6) (j := 3) (by kernel_rfl) hDn) hS
        refine (exec_store_blk (w := w9) 26 (.tmp 4) (.tmp 35) (by rfl) (w.heap.size + 1) 26 #[.int .u64 0, .slice none 0 0] #[.int .u64 sent, .slice A3 (m - 1) c3] (by rfl) (by rfl) (HR8.out.ca hT) rfl netI (by simp [Value.oneCell'])).imp fun w7 hx => ⟨hx.1, SeqT.set1 (by decide) (reach_no hSh (f := 6) (j := 3) (by kernel_rfl) hDn) ⟨w9, hT, hx.2.1, hx.2.2⟩⟩
      try simp only [Act.put]
      refine Ps.step (i := 3) (d := none) (u := undef) rfl rfl (by kernel_rfl) (by kernel_rfl) (by kernel_rfl) (by kernel_rfl) ?ywq7a_4 ?rwq7a_4
      case ywq7a_4 =>
        refine StepS.store [2] (by kernel_rfl) (by rfl) (fun L9 m9 w9 hSh hAt hDn hS => ?_)
        obtain ⟨v6, hT, hB, hg⟩ := SeqT.at2 (hAt 2 (by simp)).1 hDn hS
        refine (exec_store_blk (w := w9) 29 (.tmp 5) (.tmp 36) (by rfl) (w.heap.size + 2) 29 #[.int .u64 0, .int .i64 0, .int .i64 0, .slice none 0 0, .bool false] #[.int .u64 q.num, .int .i64 q.frm, .int .i64 q.to, .slice pA pn pc, .bool q.sp] (by rfl) (by rfl) ((HQ8.out.ca hT).apart hg (by omega)) rfl parcelI (by simp [Value.oneCell'])).imp fun w7 hx => ⟨hx.1, SeqT.set2 (by decide) ⟨v6, w9, hT, hg, hB, hx.2.2, hx.2.1⟩⟩
      try simp only [Act.put]
      refine Ps.step (i := 4) (d := some 6) (u := ?uwq7a_5) rfl rfl (by kernel_rfl) (by kernel_rfl) (by kernel_rfl) (by kernel_rfl) ?ywq7a_5 ?rwq7a_5
      case ywq7a_5 =>
        refine StepS.pure (SeqT.pass (by decide) (by decide)) (by rfl) (fun w9 => ?_)
        go_simp
        try rfl
      try simp only [Act.put, List.setIfInBounds_toArray, List.set_cons_zero, List.set_cons_succ]
      refine Ps.done (by kernel_rfl) (fun wq7a hS => ?_) _
      obtain ⟨v6, v7, hT, hg6, hB6, hg7, hB7⟩ := SeqT.fin (by rfl) hS
      clear hS
      have hBB := hB6.apart hg7 (by omega)
      have hrd7 : LP.rd wq7a (fun b => w.heap.size ≤ b) A3 (m - 1) (ps.take i ++ ps.drop (i + 1)) := Lay.rd_weak (fun b hb _ => by have h9 : w.heap.size + 3 ≤ b := hb; show w.heap.size ≤ b; omega) (Lay.rd_keep (fun b hF hb => hg7.block b hb (fun e => by injection e with e; omega)) (Lay.rd_keep (fun b hF hb => hg6.block b hb (fun e => by injection e with e; omega)) (Lay.rd_below HRD.out hT)))
      have hE7 := ((HE8.out.below hT).kept hg6 (fun e => by have := (HE8.out.base_ _ e).1; omega)).kept hg7 (fun e => by have := (HE8.out.base_ _ e).1; omega)
      go_wp2
      exact bodyPost_ret (resNP Try.results56 rfl rfl rfl hBB hB7 Try.underlying26 Try.underlying29 rfl rfl netI parcelI) rfl ⟨A3, m - 1, c3, pA, pn, pc, rfl, hrd7, hE7.less (by omega), bl_gr (bl_gr (bl_ca HB8.out hT) hg6 (by omega)) hg7 (by omega)⟩
end Go.Proofs.Ytnbcffnhgijmcaa
