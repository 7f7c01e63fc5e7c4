/- net.Spoil. Conditions: the slice reads as these parcels. -/
import Derived.Test.YtnbcffnhgijmcaaPkS6
import Derived.Laws.BitsAllLaws
import Derived.Deep.DeepAppendRoom
namespace Go.Proofs.Ytnbcffnhgijmcaa
open Go.RowKit
theorem ecells_set4 (done rest : List El) (e : El) (b : Bool) : (ecells (done ++ e :: rest)).set (done.length * 5 + 4) (.bool b) = ecells (done ++ ⟨⟨e.p.num, e.p.frm, e.p.to, e.p.bs, b⟩, e.A, e.n, e.c⟩ :: rest) := by
  rw [ecells_append, ecells_append, List.set_append_right _ _ (by rw [ecells_len]; omega), ecells_len]
  rw [show done.length * 5 + 4 - done.length * 5 = 4 from by omega]
  rfl
theorem Ro.set4 {w : World} {B g n c : Nat} {done rest : List El} {e : El} (h : Ro w B (some ⟨g, 0, none⟩) n c (done ++ e :: rest)) (b : Bool) :
    Ro (w.setCell ⟨g, done.length * 5 + 4, none⟩ (.bool b)) B (some ⟨g, 0, none⟩) n c (done ++ ⟨⟨e.p.num, e.p.frm, e.p.to, e.p.bs, b⟩, e.A, e.n, e.c⟩ :: rest) ∧ w.grownBy (w.setCell ⟨g, done.length * 5 + 4, none⟩ (.bool b)) (some g) := by
  have := World.ownsRow.stored h (done.length * 5 + 4) (.bool b)
  rw [ecells_set4] at this
  exact this
/-- a byte is stored -/
theorem OwnB.set_ {w : World} {B k n c : Nat} {bs : List UInt8} (h : OwnB w B (some ⟨k, 0, none⟩) n c bs) (j : Nat) (x : UInt8) :
    OwnB (w.setCell ⟨k, j, none⟩ (vb x)) B (some ⟨k, 0, none⟩) n c (bs.set j x) ∧ w.grownBy (w.setCell ⟨k, j, none⟩ (vb x)) (some k) := by
  have := World.ownsRow.stored h j (vb x)
  rw [← List.map_set] at this
  exact this
theorem OwnB.form {w : World} {B n c : Nat} {A : Option Addr} {bs : List UInt8} (h : OwnB w B A n c bs) (hn : 0 < n) : ∃ k, A = some ⟨k, 0, none⟩ ∧ B ≤ k ∧ k < w.heap.size := by
  obtain ⟨g, cap, hv, _, hlt⟩ := World.ownsRow.form h hn
  injection hv with e
  subst e
  exact ⟨g, rfl, (h.base_ g rfl).1, hlt⟩
theorem apart_swap {done rest : List El} {e e' : El} (h : (done ++ e :: rest).Pairwise Apart) (hb : e'.bk = e.bk) : (done ++ e' :: rest).Pairwise Apart := by
  rw [List.pairwise_append, List.pairwise_cons] at h ⊢
  obtain ⟨h1, ⟨h2, h3⟩, h4⟩ := h
  refine ⟨h1, ⟨fun x hx k hk => h2 x hx k (hb ▸ hk), h3⟩, fun x hx y hy k hk => ?_⟩
  rcases List.mem_cons.1 hy with rfl | hy
  · rw [hb]; exact h4 x hx e (by simp) k hk
  · exact h4 x hx y (by simp [hy]) k hk
theorem apart_not {done rest : List El} {e x : El} (h : (done ++ e :: rest).Pairwise Apart) (hx : x ∈ done ++ rest) {k : Nat} (hk : e.bk = some k) : x.bk ≠ some k := by
  rw [List.pairwise_append, List.pairwise_cons] at h
  obtain ⟨_, ⟨h2, _⟩, h4⟩ := h
  rcases List.mem_append.1 hx with hx | hx
  · intro e'
    exact h4 x hx e (by simp) k e' hk
  · exact h2 x hx k hk
/-- a parcel with a byte spoiled -/
def spoiled (p : PC) (at_ : Nat) (y : UInt8) : PC := ⟨p.num, p.frm, p.to, p.bs.set at_ ((p.bs.getD at_ 0) ^^^ y), true⟩
/-- in the row a parcel is told spoiled -/
theorem DO.flag {w : World} {B g n c : Nat} {done rest : List El} {e : El} (h : DO w B (some ⟨g, 0, none⟩) n c (done ++ e :: rest)) :
    DO (w.setCell ⟨g, done.length * 5 + 4, none⟩ (.bool true)) B (some ⟨g, 0, none⟩) n c (done ++ ⟨⟨e.p.num, e.p.frm, e.p.to, e.p.bs, true⟩, e.A, e.n, e.c⟩ :: rest) ∧ w.grownBy (w.setCell ⟨g, done.length * 5 + 4, none⟩ (.bool true)) (some g) := by
  obtain ⟨r1, g1⟩ := h.row.set4 true
  refine ⟨⟨r1, fun x hx => ?_, apart_swap h.apart rfl⟩, g1⟩
  rcases List.mem_append.1 hx with hx | hx
  · exact (h.own x (by simp [hx])).kept g1 (own_ne_ro (h.own x (by simp [hx])) h.row)
  · rcases List.mem_cons.1 hx with rfl | hx
    · exact (h.own e (by simp)).kept g1 (own_ne_ro (h.own e (by simp)) h.row)
    · exact (h.own x (by simp [hx])).kept g1 (own_ne_ro (h.own x (by simp [hx])) h.row)
/-- a parcel's byte is another one -/
theorem DO.byte {w : World} {B g k n c : Nat} {done rest : List El} {e : El} (h : DO w B (some ⟨g, 0, none⟩) n c (done ++ e :: rest)) (he : e.A = some ⟨k, 0, none⟩) (j : Nat) (y : UInt8) :
    DO (w.setCell ⟨k, j, none⟩ (vb y)) B (some ⟨g, 0, none⟩) n c (done ++ ⟨⟨e.p.num, e.p.frm, e.p.to, e.p.bs.set j y, e.p.sp⟩, some ⟨k, 0, none⟩, e.n, e.c⟩ :: rest) ∧ w.grownBy (w.setCell ⟨k, j, none⟩ (vb y)) (some k) := by
  have oe := h.own e (by simp)
  rw [he] at oe
  obtain ⟨o2, g2⟩ := oe.set_ j y
  have hkg : k ≠ g := fun e' => own_ne_ro oe h.row (by rw [e']; rfl)
  have hbk : e.bk = some k := by unfold El.bk; rw [he]; rfl
  have r2 := h.row.kept g2 (fun e' => hkg (by simpa [Value.ownBlock] using e'.symm))
  have r2' : Ro (w.setCell ⟨k, j, none⟩ (vb y)) B (some ⟨g, 0, none⟩) n c (done ++ ⟨⟨e.p.num, e.p.frm, e.p.to, e.p.bs.set j y, e.p.sp⟩, some ⟨k, 0, none⟩, e.n, e.c⟩ :: rest) := by
    have e1 : ecells (done ++ e :: rest) = ecells (done ++ ⟨⟨e.p.num, e.p.frm, e.p.to, e.p.bs.set j y, e.p.sp⟩, some ⟨k, 0, none⟩, e.n, e.c⟩ :: rest) := by
      rw [ecells_append, ecells_append]
      show ecells done ++ (e.cells ++ ecells rest) = ecells done ++ (El.cells _ ++ ecells rest)
      unfold El.cells
      rw [he]
    unfold Ro at r2 ⊢
    rw [← e1]
    exact r2
  refine ⟨⟨r2', fun x hx => ?_, apart_swap h.apart (by rw [hbk]; rfl)⟩, g2⟩
  rcases List.mem_append.1 hx with hx | hx
  · exact (h.own x (by simp [hx])).kept g2 (apart_not h.apart (by simp [hx]) hbk)
  · rcases List.mem_cons.1 hx with rfl | hx
    · exact o2
    · exact (h.own x (by simp [hx])).kept g2 (apart_not h.apart (by simp [hx]) hbk)
def spoilE (sent : Int) (ps : List PC) (x at_ : Int) (y : UInt8) : Int :=
  if chkB sent ps then (if hasB ps x then (if (getP ps x).sp then 5 else if at_ < 0 ∨ ((getP ps x).bs.length : Int) ≤ at_ ∨ y = 0 then 2 else 0) else 4) else 340
def spoilR (sent : Int) (ps : List PC) (x at_ : Int) (y : UInt8) : Int × List PC := if spoilE sent ps x at_ y = 0 then (sent, ps.set (ixP ps x) (spoiled (getP ps x) at_.toNat y)) else (0, [])
theorem split_at {α : Type} {l : List α} {i : Nat} {x : α} (h : l[i]? = some x) : ∃ d r, l = d ++ x :: r ∧ d.length = i := by
  obtain ⟨hl, rfl⟩ := List.getElem?_eq_some_iff.1 h
  exact ⟨l.take i, l.drop (i + 1), by rw [← List.drop_eq_getElem_cons hl, List.take_append_drop], by rw [List.length_take]; omega⟩
set_option maxRecDepth 100000 in
set_option maxHeartbeats 8000000 in
theorem spoil1_doc (sent : Int) (m : Nat) (ps : List PC) (x at_ : Int) (y : UInt8) (W : World) (gA gY : Nat) (i : Nat) (K : World → Prop) (hchk : chkB sent ps = true) (hm : ps.length = m) (hlow : Low ps x i) (hh : hasB ps x = true)
    (h1 : Blk W gA 3 #[.int .i64 at_]) (h2 : Blk W gY 5 #[vb y]) (hK : ∀ w', Below W.heap.size W w' → K w') :
    DoI 63 #[.pointer (some ⟨gA, 0, none⟩), .pointer (some ⟨gY, 0, none⟩)] W W.heap.size (W.heap.size + 2) sent m ps i (fun er w' => er = spoilE sent ps x at_ y ∧ K w') (fun _ s l => s = (spoilR sent ps x at_ y).1 ∧ l.map El.p = (spoilR sent ps x at_ y).2 ∧ True) := by
  intro w A c es hbel hbB hB hN hD hes
  obtain ⟨hp, hpx, hix⟩ := getP_at (chk_rise hchk) hlow hh
  have HIX := Lib.hid hix
  have hp' : (es.map El.p)[i]? = some (getP ps x) := by rw [hes]; exact hp
  obtain ⟨e, hei, hep⟩ := el_at hp'
  have him : i < m := by rw [← hm]; exact (List.getElem?_eq_some_iff.1 hp).1
  have him1 : (i : Int) < (m : Int) := by omega
  obtain ⟨gr, hA, hg1, hg2⟩ := hD.row.form (by omega)
  subst hA
  obtain ⟨c0, c1, c2, c3, c4⟩ := hD.row.cell hei
  have f4 : w.frozen? ⟨gr, i * 5 + 4, none⟩ = false := World.ownsRow.frozenAt hD.row _
  have n1 : w.cell? ⟨W.heap.size, 1, none⟩ = some (.slice (some ⟨gr, 0, none⟩) m c) := hN.cell 1
  have a1 : w.cell? ⟨gA, 0, none⟩ = some (.int .i64 at_) := (h1.below hbel h1.lt).cell 0
  have hE : spoilE sent ps x at_ y = (if (getP ps x).sp then 5 else if at_ < 0 ∨ ((getP ps x).bs.length : Int) ≤ at_ ∨ y = 0 then 2 else 0) := by unfold spoilE; rw [hchk, if_pos rfl, hh, if_pos rfl]
  have heo := hD.own e (List.mem_of_getElem? hei)
  have hel := (OwnB.rd heo).len
  rw [hep] at c4 heo hel
  have HKK := Lib.hid (show K w ∧ ∀ w', Below W.heap.size W w' → K w' from ⟨hK w hbel, hK⟩)
  have HBW := Lib.hid hbel
  have HE := Lib.hid hE
  clear hE hK
  rw [show (#[Value.pointer (some ⟨W.heap.size, 0, none⟩), .int .i64 i] ++ #[.pointer (some ⟨gA, 0, none⟩), .pointer (some ⟨gY, 0, none⟩)] : Array Value) = #[.pointer (some ⟨W.heap.size, 0, none⟩), .int .i64 i, .pointer (some ⟨gA, 0, none⟩), .pointer (some ⟨gY, 0, none⟩)] from rfl]
  cases hsp : (getP ps x).sp
  · rw [hsp] at c4
    by_cases hat : at_ < 0 ∨ ((getP ps x).bs.length : Int) ≤ at_ ∨ y = 0
    · have he2 : spoilE sent ps x at_ y = 2 := by rw [HE.out, hsp, if_neg (by decide), if_pos hat]
      rw [he2]
      by_cases q1 : at_ < 0
      · have d1 : decide (at_ < 0) = true := dt q1
        clear hchk hlow hh h1 h2 hp hpx hix hp' hei hep heo hel hD hN hes HE
        generalize getP ps x = gp at *
        go_enter Try.func63, Try.ntmps63
        go_wp2_with fail
        go_quiet (fail)
        go_wp2
        go_ret
        exact ⟨2, rfl, ⟨rfl, HKK.out.2 _ (bl_dr HBW.out _)⟩, Nat.le_refl _, fun _ _ _ => rfl, fun h => by cases h⟩
      · have q1' : 0 ≤ at_ := by omega
        have d1 : decide (at_ < 0) = false := df q1
        by_cases q2 : (e.n : Int) ≤ at_
        · have d2 : decide ((e.n : Int) ≤ at_) = true := dt q2
          clear hchk hlow hh h1 h2 hp hpx hix hp' hei hep heo hel hD hN hes HE
          generalize getP ps x = gp at *
          go_enter Try.func63, Try.ntmps63
          go_wp2_with fail
          go_quiet (fail)
          go_wp2
          go_ret
          exact ⟨2, rfl, ⟨rfl, HKK.out.2 _ (bl_dr HBW.out _)⟩, Nat.le_refl _, fun _ _ _ => rfl, fun h => by cases h⟩
        · have q2' : at_ < (e.n : Int) := by omega
          have d2 : decide ((e.n : Int) ≤ at_) = false := df q2
          have y0 : y = 0 := by
            rcases hat with h | h | h
            · omega
            · omega
            · exact h
          subst y0
          have y1 : w.cell? ⟨gY, 0, none⟩ = some (.int .u8 0) := (h2.below hbel h2.lt).cell 0
          clear hchk hlow hh h1 h2 hp hpx hix hp' hei hep heo hel hD hN hes HE
          generalize getP ps x = gp at *
          go_enter Try.func63, Try.ntmps63
          go_wp2_with fail
          go_quiet (fail)
          go_wp2
          go_ret
          exact ⟨2, rfl, ⟨rfl, HKK.out.2 _ (bl_dr HBW.out _)⟩, Nat.le_refl _, fun _ _ _ => rfl, fun h => by cases h⟩
    · have he0 : spoilE sent ps x at_ y = 0 := by rw [HE.out, hsp, if_neg (by decide), if_neg hat]
      have q1 : 0 ≤ at_ := by omega
      have q2 : at_ < (e.n : Int) := by omega
      have y0 : y ≠ 0 := fun h => hat (.inr (.inr h))
      obtain ⟨a, rfl⟩ := Int.eq_ofNat_of_zero_le q1
      have d1 : decide ((a : Int) < 0) = false := df (by omega)
      have d2 : decide (e.n ≤ a) = false := df (by omega)
      obtain ⟨yi, hyi⟩ : ∃ yi : Int, yi = (y.toNat : Int) := ⟨_, rfl⟩
      have y1 : w.cell? ⟨gY, 0, none⟩ = some (.int .u8 yi) := by rw [hyi]; exact (h2.below hbel h2.lt).cell 0
      have d3 : (yi == 0) = false := by
        rw [hyi]
        simp only [beq_eq_false_iff_ne, ne_eq]
        intro h
        exact y0 (UInt8.toNat_inj.1 (by simpa using h))
      have HYI := Lib.hid hyi
      clear hyi
      have HD := Lib.hid hD
      have HSP := Lib.hid hei
      have HN := Lib.hid hN
      have HES := Lib.hid hes
      have HBA := Lib.hid (h1.below hbel h1.lt)
      have HBY := Lib.hid (h2.below hbel h2.lt)
      have HEP := Lib.hid hep
      have HAW := Lib.hid h1.lt
      have HYW := Lib.hid h2.lt
      have HEL := Lib.hid hel
      have HEO := Lib.hid heo
      have HBEL := Lib.hid hbel
      clear hchk hlow hh h1 h2 hp hpx hix hp' hei hep heo hel hD hN hes HE
      go_enter Try.func63, Try.ntmps63
      go_wp2_with fail
      go_quiet (fail)
      go_wp2_with fail
      clear c0 c1 c2 c3 c4 f4 n1 a1 y1 d1 d2 d3
      obtain ⟨dn, rs, hes2, hdl⟩ := split_at HSP.out
      subst hes2 hdl
      have hD1 := HD.out.below (bl_dr (Below.refl w.heap.size w) nq)
      obtain ⟨hD2, hg2'⟩ := hD1.flag
      have heo1 := hD1.own e (by simp)
      obtain ⟨k, hkA, hk1, hk2⟩ := heo1.form (by omega)
      have hN2 := (HN.out.ca (bl_dr (Below.refl w.heap.size w) nq)).apart hg2' (by omega)
      have hA2 := (HBA.out.ca (bl_dr (Below.refl w.heap.size w) nq)).apart hg2' (fun e' => by have := HAW.out; omega)
      have hY2 := (HBY.out.ca (bl_dr (Below.refl w.heap.size w) nq)).apart hg2' (fun e' => by have := HYW.out; omega)
      have hK2 : Kept w ((w.drewN nq).setCell ⟨gr, dn.length * 5 + 4, none⟩ (.bool true)) W.heap.size (W.heap.size + 2) := (Kept.of_below (bl_dr (Below.refl w.heap.size w) nq) hB).trans (Kept.of_grown hg2' hB (.inr hg1))
      generalize (w.drewN nq).setCell ⟨gr, dn.length * 5 + 4, none⟩ (.bool true) = w2 at *
      have HD2 := Lib.hid hD2
      have HN2 := Lib.hid hN2
      have HK2 := Lib.hid hK2
      have HR3 := Lib.hid (show ∀ w9, Below w2.heap.size w2 w9 → w9.cell? ⟨gr, dn.length * 5 + 3, none⟩ = some (.slice (some ⟨k, 0, none⟩) e.n e.c) ∧ w9.cell? ⟨gA, 0, none⟩ = some (.int .i64 (a : Int)) ∧ w9.cell? ⟨gY, 0, none⟩ = some (.int .u8 yi) ∧ w9.cell? ⟨k, a, none⟩ = some (.int .u8 ((e.p.bs.getD a 0).toNat : Int)) ∧ w9.frozen? ⟨k, a, none⟩ = false from fun w9 q => by
        have hd := hD2.below q
        have hc3 := (hd.row.cell (i := dn.length) (e := ⟨⟨e.p.num, e.p.frm, e.p.to, e.p.bs, true⟩, e.A, e.n, e.c⟩) (by rw [List.getElem?_append_right (Nat.le_refl _)]; simp)).2.2.2.1
        rw [hkA] at hc3
        have ho := hd.own ⟨⟨e.p.num, e.p.frm, e.p.to, e.p.bs, true⟩, e.A, e.n, e.c⟩ (by simp)
        simp only at ho
        rw [hkA] at ho
        have hal : a < e.n := by omega
        refine ⟨hc3, (hA2.ca q).cell 0, by rw [HYI.out]; exact (hY2.ca q).cell 0, ?_, World.ownsRow.frozenAt ho a⟩
        have := World.ownsRow.cellAt ho a (by omega)
        rw [this, List.getElem?_map, List.getD_eq_getElem?_getD, List.getElem?_eq_getElem (by have := HEL.out; rw [← HEP.out] at this; omega)]
        rfl)
      have hai : (a : Int) < (e.n : Int) := by omega
      clear hD1 hD2 hN2 hK2 hA2 hY2 heo1 hk2 hg2'
      obtain ⟨bb0, hbb⟩ : ∃ b : UInt8, b = e.p.bs.getD a 0 := ⟨_, rfl⟩
      rw [← hbb] at HR3
      have HBB := Lib.hid hbb
      clear hbb
      refine wp_region_ps (S := Seq1 10 (fun _ w' => Below w2.heap.size w2 w') (fun _ w' => ∃ w6, Below w2.heap.size w2 w6 ∧ w' = w6.setCell ⟨k, a, none⟩ (vb (bb0 ^^^ y)))) (by kernel_rfl) ?spswq ?ppswq
      case spswq =>
        exact Seq1.start (by decide) (Below.refl _ _).drew
      refine Ps.step (i := 0) (d := some 38) (u := ?uwq_1) rfl rfl (by kernel_rfl) (by kernel_rfl) (by kernel_rfl) (by kernel_rfl) ?ywq_1 ?rwq_1
      case ywq_1 =>
        refine StepS.pure (Seq1.pass (by decide)) (by rfl) (fun w9 => ?_)
        go_simp
        try rfl
      try simp only [Act.put, List.setIfInBounds_toArray, List.set_cons_zero, List.set_cons_succ]
      refine Ps.step (i := 1) (d := some 39) (u := ?uwq_2) rfl rfl (by kernel_rfl) (by kernel_rfl) (by kernel_rfl) (by kernel_rfl) ?ywq_2 ?rwq_2
      case ywq_2 =>
        refine StepS.pure (Seq1.pass (by decide)) (by rfl) (fun w9 => ?_)
        go_simp
        try rfl
      try simp only [Act.put, List.setIfInBounds_toArray, List.set_cons_zero, List.set_cons_succ]
      refine Ps.step (i := 2) (d := some 40) (u := ?uwq_3) rfl rfl (by kernel_rfl) (by kernel_rfl) (by kernel_rfl) (by kernel_rfl) ?ywq_3 ?rwq_3
      case ywq_3 =>
        refine StepS.pure (Seq1.pass (by decide)) (by rfl) (fun w9 => ?_)
        go_simp
        try rfl
      try simp only [Act.put, List.setIfInBounds_toArray, List.set_cons_zero, List.set_cons_succ]
      refine Ps.step (i := 3) (d := some 41) (u := ?uwq_4) rfl rfl (by kernel_rfl) (by kernel_rfl) (by kernel_rfl) (by kernel_rfl) ?ywq_4 ?rwq_4
      case ywq_4 =>
        refine StepS.read [] (by kernel_rfl) (Seq1.pass (by decide)) (by rfl) (fun L9 m9 w9 hSh hAt hDn hS => ?_)
        have hT : Below w2.heap.size w2 w9 := Seq1.at1 (reach_no hSh (f := 11) (j := 10) (by kernel_rfl) hDn) hS
        have x3 : w9.cell? ⟨gr, dn.length * 5 + 3, none⟩ = some (.slice (some ⟨k, 0, none⟩) e.n e.c) := (HR3.out w9 hT).1
        clear hS hT
        go_simp
        try rfl
      try simp only [Act.put, List.setIfInBounds_toArray, List.set_cons_zero, List.set_cons_succ]
      refine Ps.step (i := 4) (d := some 42) (u := ?uwq_5) rfl rfl (by kernel_rfl) (by kernel_rfl) (by kernel_rfl) (by kernel_rfl) ?ywq_5 ?rwq_5
      case ywq_5 =>
        refine StepS.read [] (by kernel_rfl) (Seq1.pass (by decide)) (by rfl) (fun L9 m9 w9 hSh hAt hDn hS => ?_)
        have hT : Below w2.heap.size w2 w9 := Seq1.at1 (reach_no hSh (f := 11) (j := 10) (by kernel_rfl) hDn) hS
        have x3 : w9.cell? ⟨gA, 0, none⟩ = some (.int .i64 (a : Int)) := (HR3.out w9 hT).2.1
        clear hS hT
        go_simp
        try rfl
      try simp only [Act.put, List.setIfInBounds_toArray, List.set_cons_zero, List.set_cons_succ]
      refine Ps.step (i := 5) (d := some 43) (u := ?uwq_6) rfl rfl (by kernel_rfl) (by kernel_rfl) (by kernel_rfl) (by kernel_rfl) ?ywq_6 ?rwq_6
      case ywq_6 =>
        refine StepS.pure (Seq1.pass (by decide)) (by rfl) (fun w9 => ?_)
        go_simp
        try rfl
      try simp only [Act.put, List.setIfInBounds_toArray, List.set_cons_zero, List.set_cons_succ]
      refine Ps.step (i := 6) (d := some 44) (u := ?uwq_7) rfl rfl (by kernel_rfl) (by kernel_rfl) (by kernel_rfl) (by kernel_rfl) ?ywq_7 ?rwq_7
      case ywq_7 =>
        refine StepS.read [] (by kernel_rfl) (Seq1.pass (by decide)) (by rfl) (fun L9 m9 w9 hSh hAt hDn hS => ?_)
        have hT : Below w2.heap.size w2 w9 := Seq1.at1 (reach_no hSh (f := 11) (j := 10) (by kernel_rfl) hDn) hS
        have x3 : w9.cell? ⟨k, a, none⟩ = some (.int .u8 (bb0.toNat : Int)) := (HR3.out w9 hT).2.2.2.1
        clear hS hT
        go_simp
        try rfl
      try simp only [Act.put, List.setIfInBounds_toArray, List.set_cons_zero, List.set_cons_succ]
      refine Ps.step (i := 7) (d := some 45) (u := ?uwq_8) rfl rfl (by kernel_rfl) (by kernel_rfl) (by kernel_rfl) (by kernel_rfl) ?ywq_8 ?rwq_8
      case ywq_8 =>
        refine StepS.read [] (by kernel_rfl) (Seq1.pass (by decide)) (by rfl) (fun L9 m9 w9 hSh hAt hDn hS => ?_)
        have hT : Below w2.heap.size w2 w9 := Seq1.at1 (reach_no hSh (f := 11) (j := 10) (by kernel_rfl) hDn) hS
        have x3 : w9.cell? ⟨gY, 0, none⟩ = some (.int .u8 yi) := (HR3.out w9 hT).2.2.1
        clear hS hT
        go_simp
        try rfl
      try simp only [Act.put, List.setIfInBounds_toArray, List.set_cons_zero, List.set_cons_succ]
      refine Ps.step (i := 8) (d := some 46) (u := ?uwq_9) rfl rfl (by kernel_rfl) (by kernel_rfl) (by kernel_rfl) (by kernel_rfl) ?ywq_9 ?rwq_9
      case ywq_9 =>
        refine StepS.pure (Seq1.pass (by decide)) (by rfl) (fun w9 => ?_)
        go_simp
        try rfl
      try simp only [Act.put, List.setIfInBounds_toArray, List.set_cons_zero, List.set_cons_succ]
      refine Ps.step (i := 9) (d := some 47) (u := ?uwq_10) rfl rfl (by kernel_rfl) (by kernel_rfl) (by kernel_rfl) (by kernel_rfl) ?ywq_10 ?rwq_10
      case ywq_10 =>
        refine StepS.pure (Seq1.pass (by decide)) (by rfl) (fun w9 => ?_)
        go_simp
        try rfl
      try simp only [Act.put, List.setIfInBounds_toArray, List.set_cons_zero, List.set_cons_succ]
      refine Ps.step (i := 10) (d := none) (u := undef) rfl rfl (by kernel_rfl) (by kernel_rfl) (by kernel_rfl) (by kernel_rfl) ?ywq_11 ?rwq_11
      case ywq_11 =>
        refine StepS.store [] (by kernel_rfl) (by rfl) (fun L9 m9 w9 hSh hAt hDn hS => ?_)
        have hT := Seq1.at1 hDn hS
        have x3 : w9.cell? ⟨k, a, none⟩ = some (.int .u8 (bb0.toNat : Int)) := (HR3.out w9 hT).2.2.2.1
        have f3 : w9.frozen? ⟨k, a, none⟩ = false := (HR3.out w9 hT).2.2.2.2
        refine ⟨w9.setCell ⟨k, a, none⟩ (vb (bb0 ^^^ y)), ?_, Seq1.set1 ⟨w9, hT, rfl⟩⟩
        clear hS
        go_simp
        rw [HYI.out, u8_xor_nat _ _ bb0.toNat_lt y.toNat_lt]
        show _ = w9.setCell _ (.int .u8 ((bb0 ^^^ y).toNat : Int))
        rw [UInt8.toNat_xor]
      try simp only [Act.put]
      refine Ps.done (by kernel_rfl) (fun wq hS => ?_) _
      obtain ⟨w6, hT, rfl⟩ := Seq1.fin (by rfl) hS
      clear hS
      obtain ⟨hD6, hg6⟩ := (HD2.out.below hT).byte (e := ⟨⟨e.p.num, e.p.frm, e.p.to, e.p.bs, true⟩, e.A, e.n, e.c⟩) hkA a (bb0 ^^^ y)
      have hN6 := (HN2.out.ca hT).apart hg6 (by omega)
      have hK6 : Kept w (w6.setCell ⟨k, a, none⟩ (vb (bb0 ^^^ y))) W.heap.size (W.heap.size + 2) := (HK2.out.trans (Kept.of_below hT (Nat.le_trans hB HK2.out.size))).trans (Kept.of_grown hg6 (Nat.le_trans hB (Nat.le_trans HK2.out.size hT.size)) (.inr hk1))
      have HKW := Lib.hid (HKK.out.2 _ (hK6.below HBW.out (Nat.le_refl _) (by omega)))
      have HEND := Lib.hid (show ∃ s A2 m2 c2 es2, Blk (w6.setCell ⟨k, a, none⟩ (vb (bb0 ^^^ y))) W.heap.size 26 #[.int .u64 s, .slice A2 m2 c2] ∧ DO (w6.setCell ⟨k, a, none⟩ (vb (bb0 ^^^ y))) (W.heap.size + 2) A2 m2 c2 es2 ∧ s = (spoilR sent ps x (a : Int) y).1 ∧ es2.map El.p = (spoilR sent ps x (a : Int) y).2 ∧ True from ⟨_, _, _, _, _, hN6, hD6, by unfold spoilR; rw [he0, if_pos rfl], by
        unfold spoilR
        rw [he0, if_pos rfl]
        show List.map El.p _ = ps.set (ixP ps x) (spoiled (getP ps x) ((a : Int).toNat) y)
        rw [← HIX.out, ← HEP.out, ← HES.out, List.map_append, List.map_append, List.set_append_right _ _ (by rw [List.length_map]; exact Nat.le_refl _), List.length_map, Nat.sub_self, HBB.out]
        rfl, trivial⟩)
      have HSZ := Lib.hid hK6.size
      have HBL := Lib.hid (show ∀ k_1, W.heap.size < k_1 → k_1 < W.heap.size + 2 → (w6.setCell ⟨k, a, none⟩ (vb (bb0 ^^^ y))).heap[k_1]? = w.heap[k_1]? from fun j h1 h2 => hK6.block j h2 (by omega))
      clear hD6 hN6 hg6 hK6 hT
      go_wp2
      go_ret
      exact ⟨0, rfl, ⟨he0.symm, HKW.out⟩, HSZ.out, HBL.out, fun _ => HEND.out⟩
  · have he5 : spoilE sent ps x at_ y = 5 := by rw [HE.out, hsp, if_pos rfl]
    rw [he5]
    rw [hsp] at c4
    clear hchk hlow hh h1 h2 hp hpx hix hp' hep heo hel hD hN hes HE
    go_enter Try.func63, Try.ntmps63
    go_wp2
    go_ret
    exact ⟨5, rfl, ⟨rfl, HKK.out.1⟩, Nat.le_refl _, fun _ _ _ => rfl, fun h => by cases h⟩
end Go.Proofs.Ytnbcffnhgijmcaa
/- net.Spoil, whole. Conditions: the slice reads as these parcels. -/
namespace Go.Proofs.Ytnbcffnhgijmcaa
open Go.RowKit
theorem spoilR_z {sent : Int} {ps : List PC} {x a : Int} {y : UInt8} (h : spoilE sent ps x a y ≠ 0) : (spoilR sent ps x a y).1 = 0 ∧ (spoilR sent ps x a y).2 = [] := by unfold spoilR; rw [if_neg h]; exact ⟨rfl, rfl⟩
theorem spoil_on (sent : Int) (A : Option Addr) (m c : Nat) (ps : List PC) (x a : Int) (y : UInt8) (w : World) (gA gY : Nat) (h : LP.rd w AllB A m ps) (hm : m ≤ 9223372036854775807) (h1 : Blk w gA 3 #[.int .i64 a]) (h2 : Blk w gY 5 #[vb y]) :
    Calls Try.prog 47 #[.agg #[.int .u64 sent, .slice A m c], .int .u64 x, .func (.func 63) #[] #[.pointer (some ⟨gA, 0, none⟩), .pointer (some ⟨gY, 0, none⟩)]] w fun e w' => ∃ A2 m2 c2, e = .returned (.tuple #[.agg #[.int .u64 (spoilR sent ps x a y).1, .slice A2 m2 c2], .int .i64 (spoilE sent ps x a y)]) ∧ OutN w' w.heap.size A2 m2 c2 (spoilR sent ps x a y).2 ∧ Below w.heap.size w w' := by
  cases hc : chkB sent ps
  · have e1 : spoilE sent ps x a y = 340 := by unfold spoilE; rw [hc]; rfl
    have e2 : spoilR sent ps x a y = (0, []) := by unfold spoilR; rw [e1]; rfl
    rw [e1, e2]
    exact (on_no sent A m c ps x _ _ w h hm hc).mono fun _ _ ⟨a, b⟩ => ⟨none, 0, 0, a, OutN.nil _ _, b⟩
  · refine (on_any sent A m c ps x _ _ _ _ _ (fun w' => Below w.heap.size w w') (fun _ _ => True) w h hc (Go.Proofs.enters_of Try.func63 (by kernel_rfl) rfl) (fun w1 w2 r hr _ hk hg => bl_gr hk hg hr) (fun _ _ _ _ _ _ h _ => h) (fun hne => spoilR_z hne) (fun hh => ⟨by unfold spoilE; rw [hc, if_pos rfl, hh]; rfl, fun _ q => q⟩) ?_).mono fun _ _ ⟨A2, m2, c2, h1, ⟨es, h2, h3, _⟩, h4⟩ => ⟨A2, m2, c2, h1, ⟨es, h2, h3⟩, h4⟩
    intro W i q hsz hb hlow hh
    exact spoil1_doc sent m ps x a y W gA gY i (fun w' => Below w.heap.size w w' ∧ Blk w' (w.heap.size + 3) 26 #[.int .u64 0, .slice none 0 0]) hc h.1 hlow hh (h1.ca q) (h2.ca q) (fun w' q' => ⟨q.trans (q'.mono (by omega)), hb.ca q'⟩)
set_option maxRecDepth 100000 in
set_option maxHeartbeats 8000000 in
theorem spoil_any (sent : Int) (A : Option Addr) (m c : Nat) (ps : List PC) (x a : Int) (y : UInt8) (w : World) (h : LP.rd w AllB A m ps) (hm : m ≤ 9223372036854775807) :
    Calls Try.prog 39 #[.agg #[.int .u64 sent, .slice A m c], .int .u64 x, .int .i64 a, vb y] w fun e w' => ∃ A2 m2 c2, e = .returned (.tuple #[.agg #[.int .u64 (spoilR sent ps x a y).1, .slice A2 m2 c2], .int .i64 (spoilE sent ps x a y)]) ∧ OutN w' w.heap.size A2 m2 c2 (spoilR sent ps x a y).2 ∧ Below w.heap.size w w' := by
  have HW := Lib.hid (fun W gA gY h h1 h2 => spoil_on sent A m c ps x a y W gA gY h hm h1 h2)
  generalize spoilR sent ps x a y = R at *
  generalize spoilE sent ps x a y = E at *
  obtain ⟨s, l⟩ := R
  have HH := Lib.hid h
  clear h
  generalize hv : vb y = v at *
  have HVI := Lib.hid hv
  clear hv
  have bb := Below.refl w.heap.size w
  have bN := Blk.new w 26 #[.int .u64 sent, .slice A m c]
  replace bb := bl_al bb (.cells #[.int .u64 sent, .slice A m c] 26)
  replace bN := bN.ca (bl_al (Below.refl _ _) (.cells #[.int .i64 a] 3))
  have bA : Blk ((w.alloc (.cells #[.int .u64 sent, .slice A m c] 26)).alloc (.cells #[.int .i64 a] 3)) (w.heap.size + 1) 3 #[.int .i64 a] := Blk.mk' (by simp only [World.size_alloc])
  replace bb := bl_al bb (.cells #[.int .i64 a] 3)
  replace bN := bN.ca (bl_al (Below.refl _ _) (.cells #[v] 5))
  replace bA := bA.ca (bl_al (Below.refl _ _) (.cells #[v] 5))
  have bY : Blk (((w.alloc (.cells #[.int .u64 sent, .slice A m c] 26)).alloc (.cells #[.int .i64 a] 3)).alloc (.cells #[v] 5)) (w.heap.size + 2) 5 #[v] := Blk.mk' (by simp only [World.size_alloc])
  replace bb := bl_al bb (.cells #[v] 5)
  replace bN := bN.ca (bl_al (Below.refl _ _) (.cells #[.int .u64 0, .slice none 0 0] 26))
  replace bA := bA.ca (bl_al (Below.refl _ _) (.cells #[.int .u64 0, .slice none 0 0] 26))
  replace bY := bY.ca (bl_al (Below.refl _ _) (.cells #[.int .u64 0, .slice none 0 0] 26))
  have bR : Blk ((((w.alloc (.cells #[.int .u64 sent, .slice A m c] 26)).alloc (.cells #[.int .i64 a] 3)).alloc (.cells #[v] 5)).alloc (.cells #[.int .u64 0, .slice none 0 0] 26)) (w.heap.size + 3) 26 #[.int .u64 0, .slice none 0 0] := Blk.mk' (by simp only [World.size_alloc])
  replace bb := bl_al bb (.cells #[.int .u64 0, .slice none 0 0] 26)
  have hsz : w.heap.size + 4 ≤ ((((w.alloc (.cells #[.int .u64 sent, .slice A m c] 26)).alloc (.cells #[.int .i64 a] 3)).alloc (.cells #[v] 5)).alloc (.cells #[.int .u64 0, .slice none 0 0] 26)).heap.size := by simp only [World.size_alloc]; omega
  go_enter Try.func39, Try.ntmps39
  go_wp2_with fail
  generalize ((((w.alloc (.cells #[.int .u64 sent, .slice A m c] 26)).alloc (.cells #[.int .i64 a] 3)).alloc (.cells #[v] 5)).alloc (.cells #[.int .u64 0, .slice none 0 0] 26)) = w1 at *
  refine (HW.out w1 _ _ (Lay.rd_below HH.out bb) bA bY).mono ?_
  rintro e w2 ⟨A2, m2, c2, rfl, ho, hb2⟩
  have KR := Lib.hid (bR.ca hb2)
  have HO := Lib.hid ho
  have HB := Lib.hid (bl_ca bb hb2)
  have hz2 := hb2.size
  clear bR ho hb2 bb
  go_wp2_with (refine wpList_store_blk rfl 26 (.tmp 8) (.tmp 14) rfl (w.heap.size + 3) 26 _ _ rfl rfl KR.out rfl netI (by simp [Value.oneCell']) ?_; intro wz hZ gz)
  exact bodyPost_ret (res2 Try.results39 rfl rfl hZ Try.underlying26 rfl netI) rfl ⟨A2, m2, c2, rfl, (HO.out.kept gz (by omega)).less (by omega), bl_gr HB.out gz (by omega)⟩
end Go.Proofs.Ytnbcffnhgijmcaa
/- slices.Delete of one parcel, in a row of the call's own. Conditions: the row is the call's own. -/
namespace Go.Proofs.Ytnbcffnhgijmcaa
open Go.RowKit
theorem ecells_take (es : List El) (i : Nat) : ecells (es.take i) = (ecells es).take (i * 5) := by
  induction es generalizing i with
  | nil => simp [ecells]
  | cons x l ih =>
    cases i with
    | zero => simp [ecells]
    | succ i =>
      show x.cells ++ ecells (l.take i) = (x.cells ++ ecells l).take ((i + 1) * 5)
      have hc : x.cells.length = 5 := rfl
      rw [ih, List.take_append, List.take_of_length_le (l := x.cells) (by omega), hc, show (i + 1) * 5 - 5 = i * 5 from by omega]
theorem Ro.prefix_ {w : World} {B g n c : Nat} {es : List El} (h : Ro w B (some ⟨g, 0, none⟩) n c es) {i : Nat} (hi : i ≤ n) : Ro w B (some ⟨g, 0, none⟩) i c (es.take i) := by
  have hl := h.len
  have e1 := ecells_take es i
  refine ⟨by rw [ecells_len, List.length_take, hl]; omega, ?_⟩
  rcases h.2 with ⟨h', _⟩ | ⟨g', cap, cur, h', hb, hg, hnc, hcm, hcs, ht⟩
  · simp at h'
  · simp only [Value.slice.injEq, Option.some.injEq, Addr.mk.injEq, and_true, true_and] at h'
    obtain ⟨rfl, rfl⟩ := h'
    refine .inr ⟨g, c, cur, rfl, hb, hg, by omega, hcm, hcs, ?_⟩
    rw [e1, ← ht, List.take_take]
    congr 1
    omega
theorem ecells_drop (es : List El) (j : Nat) : ecells (es.drop j) = (ecells es).drop (j * 5) := by
  induction es generalizing j with
  | nil => simp [ecells]
  | cons x l ih =>
    cases j with
    | zero => simp
    | succ j =>
      show ecells (l.drop j) = (x.cells ++ ecells l).drop ((j + 1) * 5)
      have hc : x.cells.length = 5 := rfl
      rw [ih, List.drop_append, List.drop_of_length_le (l := x.cells) (by omega), List.nil_append, hc, show (j + 1) * 5 - 5 = j * 5 from by omega]
/-- what lies behind the row is none of its business -/
theorem Ro.past {B g n c : Nat} {es : List El} : ∀ (vs : List Value) (o : Nat) {w : World}, Ro w B (some ⟨g, 0, none⟩) n c es → n * 5 ≤ o → Ro (w.setCells g o vs) B (some ⟨g, 0, none⟩) n c es
  | [], _, _, h, _ => h
  | v :: vs, o, w, h, ho => by
    have h1 := (World.ownsRow.stored h o v).1
    rw [List.set_eq_of_length_le (by rw [h.1]; exact ho)] at h1
    exact Ro.past vs (o + 1) h1 (by omega)
theorem Ro.there {w : World} {B g n c : Nat} {es : List El} (h : Ro w B (some ⟨g, 0, none⟩) n c es) {o k : Nat} (hk : o + k ≤ c * 5) : w.there g o k := by
  rcases h.2 with ⟨h', _⟩ | ⟨g', cap, cur, h', hb, hg, hnc, hcm, hcs, ht⟩
  · simp at h'
  · simp only [Value.slice.injEq, Option.some.injEq, Addr.mk.injEq, and_true, true_and] at h'
    obtain ⟨rfl, rfl⟩ := h'
    intro j hj
    refine ⟨?_, frozen_of_row w g (o + j) cur _ hg⟩
    rw [cell_of_row w g (o + j) cur _ (0, 0) hg, Array.getElem?_eq_getElem (by omega)]
    rfl
theorem cut_sub {α : Type} (l : List α) (i : Nat) : (l.take i ++ l.drop (i + 1)).Sublist l := by
  have h := (List.Sublist.refl (l.take i)).append (List.drop_sublist 1 (l.drop i))
  rwa [List.drop_drop, List.take_append_drop] at h
theorem mem_cut {α : Type} {l : List α} {i : Nat} {x : α} (h : x ∈ l.take i ++ l.drop (i + 1)) : x ∈ l := (cut_sub l i).subset h
def zeroP : List Value := [.int .u64 0, .int .i64 0, .int .i64 0, .slice none 0 0, .bool false]
/-- clear of one parcel's place -/
theorem clear_one {w : World} {g o c : Nat} (hth : w.there g o 5) (ty : TypeId) : (Builtin.clear_ #[24] ty #[.slice (some ⟨g, o, none⟩) 1 c]).run Try.prog w = .ok (.tuple #[]) (w.setCells g o zeroP) := by
  have hst := run_storeCells_cells (P := Try.prog) g o zeroP 0 w (fun j hj => by simpa using (hth j hj).1) (fun j hj => by simpa using (hth j hj).2) (by simp [zeroP, Value.oneCell'])
  simp only [Nat.add_zero] at hst
  have hz : (Builtin.zeroCells (Value.agg #[.int .u64 0, .int .i64 0, .int .i64 0, .slice none 0 0, .bool false]).cells 1).toList = zeroP := by kernel_rfl
  simp [Builtin.clear_, run_underlying Try.underlying24, hz, hst]
set_option maxRecDepth 100000 in
set_option maxHeartbeats 8000000 in
theorem del_any (g m c B i : Nat) (es : List El) (w : World) (hD : DO w B (some ⟨g, 0, none⟩) m c es) (hi : i < m) (hm : m ≤ 20000) :
    Calls Try.prog 54 #[.slice (some ⟨g, 0, none⟩) m c, .int .i64 i, .int .i64 (i + 1 : Nat)] w fun e w' => e = .returned (.slice (some ⟨g, 0, none⟩) (m - 1) c) ∧ DO w' B (some ⟨g, 0, none⟩) (m - 1) c (es.take i ++ es.drop (i + 1)) ∧ Kept w w' g w.heap.size := by
  have hmc : m ≤ c := by
    rcases hD.row.2 with ⟨h', _⟩ | ⟨g', cap, cur, h', _, _, hnc, _⟩
    · simp at h'
    · injection h' with _ _ e; omega
  have hi1 : (i : Int) < (m : Int) := by omega
  have hi2 : ((i + 1 : Nat) : Int) ≤ (m : Int) := by omega
  have hi3 : i ≠ i + 1 := by omega
  have hic : i ≤ c := by omega
  have hi4 : i + 1 ≤ m := by omega
  have hi5 : (i : Int) + 1 ≤ (m : Int) := by omega
  have hi6 : (0 : Int) ≤ (i : Int) + 1 := by omega
  obtain ⟨ad, hA, hsrc⟩ : ∃ ad : Addr, (if c = i + 1 then some (⟨g, 0, none⟩ : Addr) else some ⟨g, (i + 1) * 5, none⟩) = some ad ∧ ∀ w9, Below w.heap.size w w9 → ∀ j u, (ecells (es.drop (i + 1)))[j]? = some u → w9.cell? (ad.add j) = some u := by
    by_cases h : c = i + 1
    · refine ⟨⟨g, 0, none⟩, by rw [if_pos h], fun w9 _ j u hu => ?_⟩
      have hl := hD.len
      rw [List.drop_of_length_le (by omega)] at hu
      simp [ecells] at hu
    · refine ⟨⟨g, (i + 1) * 5, none⟩, by rw [if_neg h], fun w9 q j u hu => ?_⟩
      rw [ecells_drop, List.getElem?_drop] at hu
      have hj := (List.getElem?_eq_some_iff.1 hu).1
      rw [ecells_len, hD.len] at hj
      have := World.ownsRow.cellAt (hD.row.below q) ((i + 1) * 5 + j) hj
      rw [Addr.add_lit, this, hu]
  have HAPP := Lib.hid (show ∀ w9, Below w.heap.size w w9 → ∃ w', (Builtin.append_ #[24, 24] 24 #[.slice (some ⟨g, 0, none⟩) i c, .slice (some ad) (m - (i + 1)) (c - (i + 1))]).run Try.prog w9 = .ok (.slice (some ⟨g, 0, none⟩) (m - 1) c) w' ∧ Ro w' B (some ⟨g, 0, none⟩) (m - 1) c (es.take i ++ es.drop (i + 1)) ∧ w9.grownBy w' (some g) from fun w9 q => by
    obtain ⟨i0, hi0, hz0, hz1, hz2⟩ := info_parts Try.parcelInfo
    obtain ⟨w', h1, h2, h3⟩ := run_append_own_spare (P := Try.prog) (w := w9) B 24 24 29 i0 5 Try.underlying24 hi0 hz1 g i c _ ((hD.row.below q).prefix_ (Nat.le_of_lt hi)) ad (m - (i + 1)) (c - (i + 1)) (ecells (es.drop (i + 1))) (by rw [ecells_len, List.length_drop, hD.len]) (hsrc w9 q) (ecells_one _) (by omega)
    rw [show i + (m - (i + 1)) = m - 1 from by omega] at h1 h2
    exact ⟨w', h1, by unfold Ro; rw [ecells_append]; exact h2, h3⟩)
  have HD := Lib.hid hD
  clear hsrc hD
  go_enter Try.func54, Try.ntmps54
  go_wp2_with fail
  have hz : ecells (es.take i ++ es.drop (i + 1)) = (ecells es).take (i * 5) ++ (ecells es).drop ((i + 1) * 5) := by rw [ecells_append, ecells_take, ecells_drop]
  refine wp_region_ps (S := Seq1 6 (fun _ w' => Below w.heap.size w w') (fun _ w' => Ro w' B (some ⟨g, 0, none⟩) (m - 1) c (es.take i ++ es.drop (i + 1)) ∧ ∃ w5, Below w.heap.size w w5 ∧ w5.grownBy w' (some g))) (by kernel_rfl) ?spswq ?ppswq
  case spswq =>
    exact Seq1.start (by decide) (Below.refl _ _).drew
  refine Ps.step (i := 0) (d := some 20) (u := ?uwq_1) rfl rfl (by kernel_rfl) (by kernel_rfl) (by kernel_rfl) (by kernel_rfl) ?ywq_1 ?rwq_1
  case ywq_1 =>
    refine StepS.pure (Seq1.pass (by decide)) (by rfl) (fun w9 => ?_)
    go_simp
    try rfl
  try simp only [Act.put, List.setIfInBounds_toArray, List.set_cons_zero, List.set_cons_succ]
  refine Ps.step (i := 1) (d := some 21) (u := ?uwq_2) rfl rfl (by kernel_rfl) (by kernel_rfl) (by kernel_rfl) (by kernel_rfl) ?ywq_2 ?rwq_2
  case ywq_2 =>
    refine StepS.pure (Seq1.pass (by decide)) (by rfl) (fun w9 => ?_)
    go_simp
    try rfl
  try simp only [Act.put, List.setIfInBounds_toArray, List.set_cons_zero, List.set_cons_succ]
  refine Ps.step (i := 2) (d := some 22) (u := ?uwq_3) rfl rfl (by kernel_rfl) (by kernel_rfl) (by kernel_rfl) (by kernel_rfl) ?ywq_3 ?rwq_3
  case ywq_3 =>
    refine StepS.pure (Seq1.pass (by decide)) (by rfl) (fun w9 => ?_)
    go_simp
    try rfl
  try simp only [Act.put, List.setIfInBounds_toArray, List.set_cons_zero, List.set_cons_succ]
  refine Ps.step (i := 3) (d := some 23) (u := ?uwq_4) rfl rfl (by kernel_rfl) (by kernel_rfl) (by kernel_rfl) (by kernel_rfl) ?ywq_4 ?rwq_4
  case ywq_4 =>
    refine StepS.pure (Seq1.pass (by decide)) (by rfl) (fun w9 => ?_)
    go_simp
    try rfl
  try simp only [Act.put, List.setIfInBounds_toArray, List.set_cons_zero, List.set_cons_succ]
  refine Ps.step (i := 4) (d := some 24) (u := ?uwq_5) rfl rfl (by kernel_rfl) (by kernel_rfl) (by kernel_rfl) (by kernel_rfl) ?ywq_5 ?rwq_5
  case ywq_5 =>
    refine StepS.pure (Seq1.pass (by decide)) (by rfl) (fun w9 => ?_)
    go_simp
    try rfl
  try simp only [Act.put, List.setIfInBounds_toArray, List.set_cons_zero, List.set_cons_succ]
  refine Ps.step (i := 5) (d := some 25) (u := ?uwq_6) rfl rfl (by kernel_rfl) (by kernel_rfl) (by kernel_rfl) (by kernel_rfl) ?ywq_6 ?rwq_6
  case ywq_6 =>
    refine StepS.pure (Seq1.pass (by decide)) (by rfl) (fun w9 => ?_)
    go_simp
    try rfl
  try simp only [Act.put, List.setIfInBounds_toArray, List.set_cons_zero, List.set_cons_succ]
  refine Ps.step (i := 6) (d := some 26) (u := (.slice (some ⟨g, 0, none⟩) (m - 1) c)) rfl rfl (by kernel_rfl) (by kernel_rfl) (by kernel_rfl) (by kernel_rfl) ?ywq_7 ?rwq_7
  case ywq_7 =>
    refine StepS.act [] (by kernel_rfl) (by rfl) (fun L9 m9 w9 hSh hAt hDn hS => ?_)
    have hT := Seq1.at1 hDn hS
    obtain ⟨w', hrun, hown, hgr⟩ := HAPP.out w9 hT
    exact ⟨w', exec_append (.tmp 22) (.tmp 25) 24 rfl rfl rfl hrun, Seq1.set1 ⟨hown, w9, hT, hgr⟩⟩
  try simp only [Act.put, List.setIfInBounds_toArray, List.set_cons_zero, List.set_cons_succ]
  refine Ps.step (i := 7) (d := some 0) (u := ?uwq_8) rfl rfl (by kernel_rfl) (by kernel_rfl) (by kernel_rfl) (by kernel_rfl) ?ywq_8 ?rwq_8
  case ywq_8 =>
    refine StepS.pure (Seq1.pass (by decide)) (by rfl) (fun w9 => ?_)
    go_simp
    try rfl
  try simp only [Act.put, List.setIfInBounds_toArray, List.set_cons_zero, List.set_cons_succ]
  refine Ps.done (by kernel_rfl) (fun wq hS => ?_) _
  obtain ⟨hro, w5, hT, hgr⟩ := Seq1.fin (by rfl) hS
  clear hS
  have hm1 : (m : Int) - 1 = ((m - 1 : Nat) : Int) := by omega
  have hth := hro.there (o := (m - 1) * 5) (k := 5) (by omega)
  have hcl : (Builtin.clear_ #[24] 0 #[.slice (some ⟨g, (m - 1) * 5, none⟩) (m - (m - 1)) (c - (m - 1))]).run Try.prog wq = .ok (.tuple #[]) (wq.setCells g ((m - 1) * 5) zeroP) := by
    rw [show m - (m - 1) = 1 from by omega]
    exact clear_one hth 0
  have HRO := Lib.hid hro
  have HT := Lib.hid hT
  have HGR := Lib.hid hgr
  clear hro hT hgr hi5 hi6 hi1 hi2 hA
  clear hth
  go_wp2_with fail
  clear hcl
  have hg2 : wq.grownBy (wq.setCells g ((m - 1) * 5) zeroP) (some g) := grown_setCells _ _ _ (World.grownBy.refl wq _)
  have hgg := HGR.out.trans hg2
  have hd5 := HD.out.below HT.out
  have hrow := Ro.past zeroP ((m - 1) * 5) HRO.out (Nat.le_refl _)
  have hk := (Kept.of_below (b := g) HT.out (Nat.le_refl _)).trans (Kept.of_grown (B := w.heap.size) hgg HT.out.size (.inl rfl))
  go_ret
  exact ⟨rfl, ⟨hrow, fun x hx => by
    have hx2 := mem_cut hx
    exact (hd5.own x hx2).kept hgg (own_ne_ro (hd5.own x hx2) hd5.row), HD.out.apart.sublist (cut_sub _ _)⟩, hk⟩
end Go.Proofs.Ytnbcffnhgijmcaa
/- net.Come. Conditions: the slice reads as these parcels. -/
namespace Go.Proofs.Ytnbcffnhgijmcaa
open Go.RowKit
def zeroPC : PC := ⟨0, 0, 0, [], false⟩
def comeE (sent : Int) (ps : List PC) (x : Int) : Int := if chkB sent ps then (if hasB ps x then 0 else 4) else 340
def comeR (sent : Int) (ps : List PC) (x : Int) : Int × List PC := if comeE sent ps x = 0 then (sent, ps.take (ixP ps x) ++ ps.drop (ixP ps x + 1)) else (0, [])
def comeP (sent : Int) (ps : List PC) (x : Int) : PC := if comeE sent ps x = 0 then getP ps x else zeroPC
/-- what is known of the variable that holds the parcel -/
def ComeK (w : World) (g B : Nat) (p : PC) (w' : World) : Prop := (∃ A n c, Blk w' g 29 #[.int .u64 p.num, .int .i64 p.frm, .int .i64 p.to, .slice A n c, .bool p.sp] ∧ OwnB w' B A n c p.bs) ∧ Kept w w' g w.heap.size
/-- and that its bytes are none of the net's -/
def ComeZ (g : Nat) (w' : World) (es : List El) : Prop := g < w'.heap.size ∧ ∀ cs A n c, Blk w' g 29 cs → cs[3]? = some (.slice A n c) → ∀ x ∈ es, ∀ k, (Value.slice A n c).ownBlock = some k → x.bk ≠ some k
theorem ComeK.grown {w : World} {g B r : Nat} {p : PC} {w1 w2 : World} (h : ComeK w g B p w1) (hg : w1.grownBy w2 (some r)) (hr : w.heap.size ≤ r) (hgw : g < w.heap.size) (hB : r < B) : ComeK w g B p w2 := by
  obtain ⟨⟨A, n, c, h1, h2⟩, h3⟩ := h
  exact ⟨⟨A, n, c, h1.apart hg (by omega), h2.kept hg (fun e => by have := (h2.base_ r e).1; omega)⟩, h3.trans (Kept.of_grown hg h3.size (.inr hr))⟩
theorem ComeK.below {w : World} {g B : Nat} {p : PC} {w1 w2 : World} (h : ComeK w g B p w1) (q : Below w1.heap.size w1 w2) : ComeK w g B p w2 := by
  obtain ⟨⟨A, n, c, h1, h2⟩, h3⟩ := h
  exact ⟨⟨A, n, c, h1.ca q, h2.below q⟩, h3.trans (Kept.of_below q h3.size)⟩
theorem ComeZ.grown {g r : Nat} {w1 w2 : World} {es : List El} (h : ComeZ g w1 es) (hg : w1.grownBy w2 (some r)) (hr : g ≠ r) : ComeZ g w2 es := by
  refine ⟨Nat.lt_of_lt_of_le h.1 hg.size, fun cs A n c hb => h.2 cs A n c ?_⟩
  unfold Blk at hb ⊢
  rw [← hb]
  exact (hg.block g h.1 (fun e => hr (by injection e))).symm
theorem ComeK.no {w : World} {g B : Nat} (hb : Blk w g 29 #[.int .u64 0, .int .i64 0, .int .i64 0, .slice none 0 0, .bool false]) {w' : World} (q : Below w.heap.size w w') : ComeK w g B zeroPC w' := ⟨⟨none, 0, 0, hb.ca q, OwnB.none_ _ _⟩, Kept.of_below q (Nat.le_refl _)⟩
set_option maxRecDepth 100000 in
set_option maxHeartbeats 8000000 in
theorem come1_doc (sent : Int) (m : Nat) (ps : List PC) (x : Int) (W W0 : World) (g i : Nat) (hchk : chkB sent ps = true) (hm : ps.length = m) (hlow : Low ps x i) (hh : hasB ps x = true)
    (hg : g < W0.heap.size) (h0 : Below W0.heap.size W0 W) (hW : W0.heap.size + 4 = W.heap.size) (hgb : Blk W g 29 #[.int .u64 0, .int .i64 0, .int .i64 0, .slice none 0 0, .bool false]) (hr3 : Blk W (W0.heap.size + 3) 26 #[.int .u64 0, .slice none 0 0]) :
    DoI 53 #[.pointer (some ⟨g, 0, none⟩)] W W.heap.size (W.heap.size + 2) sent m ps i (fun er w' => er = 0 ∧ ComeK W0 g (W0.heap.size + 6) (getP ps x) w' ∧ Blk w' (W0.heap.size + 3) 26 #[.int .u64 0, .slice none 0 0]) (fun w' s l => s = sent ∧ l.map El.p = ps.take (ixP ps x) ++ ps.drop (ixP ps x + 1) ∧ ComeZ g w' l) := by
  intro w A c es hbel hbB hB hN hD hes
  obtain ⟨hp, hpx, hix⟩ := getP_at (chk_rise hchk) hlow hh
  have HIX := Lib.hid hix
  clear hix
  have hp' : (es.map El.p)[i]? = some (getP ps x) := by rw [hes]; exact hp
  obtain ⟨e, hei, hep⟩ := el_at hp'
  have him : i < m := by rw [← hm]; exact (List.getElem?_eq_some_iff.1 hp).1
  have him1 : (i : Int) < (m : Int) := by omega
  obtain ⟨gr, hA, hg1, hg2⟩ := hD.row.form (by omega)
  subst hA
  obtain ⟨c0, c1, c2, c3, c4⟩ := hD.row.cell hei
  have n1 : w.cell? ⟨W.heap.size, 1, none⟩ = some (.slice (some ⟨gr, 0, none⟩) m c) := hN.cell 1
  rw [hep] at c0 c1 c2 c4
  have heo := hD.own e (List.mem_of_getElem? hei)
  rw [hep] at heo
  obtain ⟨hr1, hr2⟩ := chk_rng hchk
  have hgw : g < w.heap.size := Nat.lt_of_lt_of_le hgb.lt hbel.size
  have hm2 : m ≤ 20000 := by omega
  have him2 : (i : Int) + 1 ≤ 20000 := by omega
  have KG := Lib.hid (hgb.below hbel hgb.lt)
  have KR := Lib.hid (hr3.below hbel (by omega))
  have HN := Lib.hid hN
  have HD := Lib.hid hD
  have HES := Lib.hid hes
  have HEO := Lib.hid heo
  have HEI := Lib.hid hei
  have HBEL := Lib.hid hbel
  have HM := Lib.hid hm
  clear hp hp' hpx hlow hh hchk hN hD hes heo hei hbel hgb hr3 hm hep
  generalize getP ps x = gp at *
  rw [show (#[Value.pointer (some ⟨W.heap.size, 0, none⟩), .int .i64 i] ++ #[.pointer (some ⟨g, 0, none⟩)] : Array Value) = #[.pointer (some ⟨W.heap.size, 0, none⟩), .int .i64 i, .pointer (some ⟨g, 0, none⟩)] from rfl]
  go_enter Try.func53, Try.ntmps53
  go_wp2_with (refine wpList_store_blk rfl 29 (.tmp 2) (.tmp 12) rfl g 29 _ _ rfl rfl KG.out rfl parcelI (by simp [Value.oneCell']) ?_; intro w2 hZ gz; have n2 : w2.cell? ⟨W.heap.size, 1, none⟩ = some (.slice (some ⟨gr, 0, none⟩) m c) := (HN.out.apart gz (by omega)).cell 1)
  have HD2 := Lib.hid (HD.out.kept gz (by omega))
  have HDEL := Lib.hid (del_any gr m c (W.heap.size + 2) i es w2 HD2.out him hm2)
  have HZ := Lib.hid hZ
  have HGZ := Lib.hid gz
  clear hZ gz n1 n2 c0 c1 c2 c3 c4
  refine HDEL.out.mono ?_
  rintro e3 w3 ⟨rfl, hd3, hk3⟩
  have hw2 := HGZ.out.size
  have hgr2 : gr < w2.heap.size := Nat.lt_of_lt_of_le hg2 hw2
  have hN3 : Blk w3 W.heap.size 26 #[.int .u64 sent, .slice (some ⟨gr, 0, none⟩) m c] := (hk3.block _ (by omega) (by omega)).trans (HN.out.apart HGZ.out (by omega))
  have hg4 : w3.grownBy (w3.setCell ⟨W.heap.size, 1, none⟩ (.slice (some ⟨gr, 0, none⟩) (m - 1) c)) (some W.heap.size) := only_setCell (World.grownBy.refl _ _) (.inl rfl) _
  have x1 : w3.cell? ⟨W.heap.size, 1, none⟩ = some (.slice (some ⟨gr, 0, none⟩) m c) := hN3.cell 1
  have fx : w3.frozen? ⟨W.heap.size, 1, none⟩ = false := hN3.frozen 1
  have HN4 := Lib.hid (show Blk (w3.setCell ⟨W.heap.size, 1, none⟩ (.slice (some ⟨gr, 0, none⟩) (m - 1) c)) W.heap.size 26 #[.int .u64 sent, .slice (some ⟨gr, 0, none⟩) (m - 1) c] from by simpa using hN3.set_ 1 (.slice (some ⟨gr, 0, none⟩) (m - 1) c))
  have HD4 := Lib.hid (hd3.kept hg4 (by omega))
  have HG4 := Lib.hid (show Blk (w3.setCell ⟨W.heap.size, 1, none⟩ (.slice (some ⟨gr, 0, none⟩) (m - 1) c)) g 29 #[.int .u64 gp.num, .int .i64 gp.frm, .int .i64 gp.to, .slice e.A e.n e.c, .bool gp.sp] from Blk.apart ((hk3.block _ (by omega) (by omega)).trans HZ.out) hg4 (by omega))
  have ho2 := HEO.out.kept HGZ.out (fun e' => by have := (HEO.out.base_ g e').1; omega)
  have ho3 := ho2.at_ (fun k hk => hk3.block k (ho2.base_ k hk).2 (fun e' => by subst e'; exact own_ne_ro ho2 HD2.out.row hk))
  have HO4 := Lib.hid (OwnB.less (ho3.kept hg4 (fun e' => by have := (ho3.base_ _ e').1; omega)) (B' := W0.heap.size + 6) (by omega))
  have HR4 := Lib.hid (show Blk (w3.setCell ⟨W.heap.size, 1, none⟩ (.slice (some ⟨gr, 0, none⟩) (m - 1) c)) (W0.heap.size + 3) 26 #[.int .u64 0, .slice none 0 0] from Blk.apart ((hk3.block _ (by omega) (by omega)).trans (KR.out.apart HGZ.out (by omega))) hg4 (by omega))
  have HK4 := Lib.hid (show Kept w (w3.setCell ⟨W.heap.size, 1, none⟩ (.slice (some ⟨gr, 0, none⟩) (m - 1) c)) g W.heap.size from ((Kept.of_grown (B := W.heap.size) HGZ.out (by omega) (.inl rfl)).trans ⟨hk3.os, hk3.tape, hk3.output, hk3.size, fun k hk _ => hk3.block k (by omega) (by omega)⟩).trans (Kept.of_grown hg4 (by have := hk3.size; omega) (.inr (Nat.le_refl _))))
  have HK0 := Lib.hid (show Kept W0 (w3.setCell ⟨W.heap.size, 1, none⟩ (.slice (some ⟨gr, 0, none⟩) (m - 1) c)) g W0.heap.size from ((Kept.of_below h0 (Nat.le_refl _)).trans (Kept.of_below HBEL.out (by omega))).trans (HK4.out.less (by omega)))
  have HZ4 := Lib.hid (show ComeZ g (w3.setCell ⟨W.heap.size, 1, none⟩ (.slice (some ⟨gr, 0, none⟩) (m - 1) c)) (es.take i ++ es.drop (i + 1)) from by
    refine ⟨HG4.out.lt, fun cs A n c' hb hc3 y hy k hk => ?_⟩
    have e1 := hb.symm.trans HG4.out
    injection e1 with e1
    injection e1 with e1
    subst e1
    simp at hc3
    obtain ⟨rfl, rfl, rfl⟩ := hc3
    obtain ⟨d, r, hsp, hdl⟩ := split_at HEI.out
    have hap := HD.out.apart
    rw [hsp] at hap hy
    subst hdl
    rw [List.take_left, show d.length + 1 = (d ++ [e]).length from by simp, show d ++ e :: r = (d ++ [e]) ++ r from by simp, List.drop_left] at hy
    exact apart_not hap hy hk)
  have HMAP := Lib.hid (show (es.take i ++ es.drop (i + 1)).map El.p = ps.take (ixP ps x) ++ ps.drop (ixP ps x + 1) from by rw [← HIX.out, ← HES.out, List.map_append, List.map_take, List.map_drop])
  have HS4 := Lib.hid (show w.heap.size ≤ (w3.setCell ⟨W.heap.size, 1, none⟩ (.slice (some ⟨gr, 0, none⟩) (m - 1) c)).heap.size from HK4.out.size)
  have HB4 := Lib.hid (show ∀ k, W.heap.size < k → k < W.heap.size + 2 → (w3.setCell ⟨W.heap.size, 1, none⟩ (.slice (some ⟨gr, 0, none⟩) (m - 1) c)).heap[k]? = w.heap[k]? from fun k h1 h2 => ((hg4.block k (by have := hk3.size; omega) (fun e' => by injection e' with e'; omega)).trans (hk3.block k (by omega) (by omega))).trans (HGZ.out.block k (by omega) (fun e' => by injection e' with e'; omega)))
  clear hN3 hg4 hd3 hk3 ho2 ho3 HDEL
  go_wp2
  go_ret
  exact ⟨0, rfl, ⟨rfl, ⟨⟨e.A, e.n, e.c, HG4.out, HO4.out⟩, HK0.out⟩, HR4.out⟩, HS4.out, HB4.out, fun _ => ⟨_, _, _, _, _, HN4.out, HD4.out, rfl, HMAP.out, HZ4.out⟩⟩
end Go.Proofs.Ytnbcffnhgijmcaa
