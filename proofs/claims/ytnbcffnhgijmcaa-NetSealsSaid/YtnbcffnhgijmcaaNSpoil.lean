/- net.Spoil. Conditions: the slice reads as these parcels. -/
import Derived.Test.YtnbcffnhgijmcaaNTwin
import Derived.Laws.BitsAllLaws
namespace Go.Proofs.Ytnbcffnhgijmcaa
open Go.RowKit
theorem ecells_set4 (done rest : List El) (e : El) (b : Bool) : (ecells (done ++ e :: rest)).set (done.length * 5 + 4) (.bool b) = ecells (done ++ ⟨⟨e.p.num, e.p.frm, e.p.to, e.p.bs, b⟩, e.A, e.n, e.c⟩ :: rest) := by
  rw [ecells_append, ecells_append, List.set_append_right _ _ (by rw [ecells_len]; omega), ecells_len]
  rw [show done.length * 5 + 4 - done.length * 5 = 4 from by omega]
  rfl
theorem Ro.set4 {w : World} {B g n c : Nat} {done rest : List El} {e : El} (h : Ro w B (some ⟨g, 0, none⟩) n c (done ++ e :: rest)) (b : Bool) :
    Ro (w.setCell ⟨g, done.length * 5 + 4, none⟩ (.bool b)) B (some ⟨g, 0, none⟩) n c (done ++ ⟨⟨e.p.num, e.p.frm, e.p.to, e.p.bs, b⟩, e.A, e.n, e.c⟩ :: rest) ∧ w.grownBy (w.setCell ⟨g, done.length * 5 + 4, none⟩ (.bool b)) (some g) := by
  have := World.ownsRow.stored h (done.length * 5 + 4) (.bool b)
  rw [ecells_set4] at this
  exact this
/-- a byte is stored -/
theorem OwnB.set_ {w : World} {B k n c : Nat} {bs : List UInt8} (h : OwnB w B (some ⟨k, 0, none⟩) n c bs) (j : Nat) (x : UInt8) :
    OwnB (w.setCell ⟨k, j, none⟩ (vb x)) B (some ⟨k, 0, none⟩) n c (bs.set j x) ∧ w.grownBy (w.setCell ⟨k, j, none⟩ (vb x)) (some k) := by
  have := World.ownsRow.stored h j (vb x)
  rw [← List.map_set] at this
  exact this
theorem OwnB.form {w : World} {B n c : Nat} {A : Option Addr} {bs : List UInt8} (h : OwnB w B A n c bs) (hn : 0 < n) : ∃ k, A = some ⟨k, 0, none⟩ ∧ B ≤ k ∧ k < w.heap.size := by
  obtain ⟨g, cap, hv, _, hlt⟩ := World.ownsRow.form h hn
  injection hv with e
  subst e
  exact ⟨g, rfl, (h.base_ g rfl).1, hlt⟩
theorem apart_swap {done rest : List El} {e e' : El} (h : (done ++ e :: rest).Pairwise Apart) (hb : e'.bk = e.bk) : (done ++ e' :: rest).Pairwise Apart := by
  rw [List.pairwise_append, List.pairwise_cons] at h ⊢
  obtain ⟨h1, ⟨h2, h3⟩, h4⟩ := h
  refine ⟨h1, ⟨fun x hx k hk => h2 x hx k (hb ▸ hk), h3⟩, fun x hx y hy k hk => ?_⟩
  rcases List.mem_cons.1 hy with rfl | hy
  · rw [hb]; exact h4 x hx e (by simp) k hk
  · exact h4 x hx y (by simp [hy]) k hk
theorem apart_not {done rest : List El} {e x : El} (h : (done ++ e :: rest).Pairwise Apart) (hx : x ∈ done ++ rest) {k : Nat} (hk : e.bk = some k) : x.bk ≠ some k := by
  rw [List.pairwise_append, List.pairwise_cons] at h
  obtain ⟨_, ⟨h2, _⟩, h4⟩ := h
  rcases List.mem_append.1 hx with hx | hx
  · intro e'
    exact h4 x hx e (by simp) k e' hk
  · exact h2 x hx k hk
/-- a parcel with a byte spoiled -/
def spoiled (p : PC) (at_ : Nat) (y : UInt8) : PC := ⟨p.num, p.frm, p.to, p.bs.set at_ ((p.bs.getD at_ 0) ^^^ y), true⟩
/-- in the row a parcel is told spoiled -/
theorem DO.flag {w : World} {B g n c : Nat} {done rest : List El} {e : El} (h : DO w B (some ⟨g, 0, none⟩) n c (done ++ e :: rest)) :
    DO (w.setCell ⟨g, done.length * 5 + 4, none⟩ (.bool true)) B (some ⟨g, 0, none⟩) n c (done ++ ⟨⟨e.p.num, e.p.frm, e.p.to, e.p.bs, true⟩, e.A, e.n, e.c⟩ :: rest) ∧ w.grownBy (w.setCell ⟨g, done.length * 5 + 4, none⟩ (.bool true)) (some g) := by
  obtain ⟨r1, g1⟩ := h.row.set4 true
  refine ⟨⟨r1, fun x hx => ?_, apart_swap h.apart rfl⟩, g1⟩
  rcases List.mem_append.1 hx with hx | hx
  · exact (h.own x (by simp [hx])).kept g1 (own_ne_ro (h.own x (by simp [hx])) h.row)
  · rcases List.mem_cons.1 hx with rfl | hx
    · exact (h.own e (by simp)).kept g1 (own_ne_ro (h.own e (by simp)) h.row)
    · exact (h.own x (by simp [hx])).kept g1 (own_ne_ro (h.own x (by simp [hx])) h.row)
/-- a parcel's byte is another one -/
theorem DO.byte {w : World} {B g k n c : Nat} {done rest : List El} {e : El} (h : DO w B (some ⟨g, 0, none⟩) n c (done ++ e :: rest)) (he : e.A = some ⟨k, 0, none⟩) (j : Nat) (y : UInt8) :
    DO (w.setCell ⟨k, j, none⟩ (vb y)) B (some ⟨g, 0, none⟩) n c (done ++ ⟨⟨e.p.num, e.p.frm, e.p.to, e.p.bs.set j y, e.p.sp⟩, some ⟨k, 0, none⟩, e.n, e.c⟩ :: rest) ∧ w.grownBy (w.setCell ⟨k, j, none⟩ (vb y)) (some k) := by
  have oe := h.own e (by simp)
  rw [he] at oe
  obtain ⟨o2, g2⟩ := oe.set_ j y
  have hkg : k ≠ g := fun e' => own_ne_ro oe h.row (by rw [e']; rfl)
  have hbk : e.bk = some k := by unfold El.bk; rw [he]; rfl
  have r2 := h.row.kept g2 (fun e' => hkg (by simpa [Value.ownBlock] using e'.symm))
  have r2' : Ro (w.setCell ⟨k, j, none⟩ (vb y)) B (some ⟨g, 0, none⟩) n c (done ++ ⟨⟨e.p.num, e.p.frm, e.p.to, e.p.bs.set j y, e.p.sp⟩, some ⟨k, 0, none⟩, e.n, e.c⟩ :: rest) := by
    have e1 : ecells (done ++ e :: rest) = ecells (done ++ ⟨⟨e.p.num, e.p.frm, e.p.to, e.p.bs.set j y, e.p.sp⟩, some ⟨k, 0, none⟩, e.n, e.c⟩ :: rest) := by
      rw [ecells_append, ecells_append]
      show ecells done ++ (e.cells ++ ecells rest) = ecells done ++ (El.cells _ ++ ecells rest)
      unfold El.cells
      rw [he]
    unfold Ro at r2 ⊢
    rw [← e1]
    exact r2
  refine ⟨⟨r2', fun x hx => ?_, apart_swap h.apart (by rw [hbk]; rfl)⟩, g2⟩
  rcases List.mem_append.1 hx with hx | hx
  · exact (h.own x (by simp [hx])).kept g2 (apart_not h.apart (by simp [hx]) hbk)
  · rcases List.mem_cons.1 hx with rfl | hx
    · exact o2
    · exact (h.own x (by simp [hx])).kept g2 (apart_not h.apart (by simp [hx]) hbk)
def spoilE (sent : Int) (ps : List PC) (x at_ : Int) (y : UInt8) : Int :=
  if chkB sent ps then (if hasB ps x then (if (getP ps x).sp then 5 else if at_ < 0 ∨ ((getP ps x).bs.length : Int) ≤ at_ ∨ y = 0 then 2 else 0) else 4) else 340
def spoilR (sent : Int) (ps : List PC) (x at_ : Int) (y : UInt8) : Int × List PC := if spoilE sent ps x at_ y = 0 then (sent, ps.set (ixP ps x) (spoiled (getP ps x) at_.toNat y)) else (0, [])
theorem split_at {α : Type} {l : List α} {i : Nat} {x : α} (h : l[i]? = some x) : ∃ d r, l = d ++ x :: r ∧ d.length = i := by
  obtain ⟨hl, rfl⟩ := List.getElem?_eq_some_iff.1 h
  exact ⟨l.take i, l.drop (i + 1), by rw [← List.drop_eq_getElem_cons hl, List.take_append_drop], by rw [List.length_take]; omega⟩
set_option maxRecDepth 100000 in
set_option maxHeartbeats 8000000 in
theorem spoil1_doc (sent : Int) (m : Nat) (ps : List PC) (x at_ : Int) (y : UInt8) (W : World) (gA gY : Nat) (i : Nat) (K : World → Prop) (hchk : chkB sent ps = true) (hm : ps.length = m) (hlow : Low ps x i) (hh : hasB ps x = true)
    (h1 : Blk W gA 3 #[.int .i64 at_]) (h2 : Blk W gY 5 #[vb y]) (hK : ∀ w', Below W.heap.size W w' → K w') :
    DoI 63 #[.pointer (some ⟨gA, 0, none⟩), .pointer (some ⟨gY, 0, none⟩)] W W.heap.size (W.heap.size + 2) sent m ps i (fun er w' => er = spoilE sent ps x at_ y ∧ K w') (fun _ s l => s = (spoilR sent ps x at_ y).1 ∧ l.map El.p = (spoilR sent ps x at_ y).2 ∧ True) := by
  intro w A c es hbel hbB hB hN hD hes
  obtain ⟨hp, hpx, hix⟩ := getP_at (chk_rise hchk) hlow hh
  have HIX := Lib.hid hix
  have hp' : (es.map El.p)[i]? = some (getP ps x) := by rw [hes]; exact hp
  obtain ⟨e, hei, hep⟩ := el_at hp'
  have him : i < m := by rw [← hm]; exact (List.getElem?_eq_some_iff.1 hp).1
  have him1 : (i : Int) < (m : Int) := by omega
  obtain ⟨gr, hA, hg1, hg2⟩ := hD.row.form (by omega)
  subst hA
  obtain ⟨c0, c1, c2, c3, c4⟩ := hD.row.cell hei
  have f4 : w.frozen? ⟨gr, i * 5 + 4, none⟩ = false := World.ownsRow.frozenAt hD.row _
  have n1 : w.cell? ⟨W.heap.size, 1, none⟩ = some (.slice (some ⟨gr, 0, none⟩) m c) := hN.cell 1
  have a1 : w.cell? ⟨gA, 0, none⟩ = some (.int .i64 at_) := (h1.below hbel h1.lt).cell 0
  have hE : spoilE sent ps x at_ y = (if (getP ps x).sp then 5 else if at_ < 0 ∨ ((getP ps x).bs.length : Int) ≤ at_ ∨ y = 0 then 2 else 0) := by unfold spoilE; rw [hchk, if_pos rfl, hh, if_pos rfl]
  have heo := hD.own e (List.mem_of_getElem? hei)
  have hel := (OwnB.rd heo).len
  rw [hep] at c4 heo hel
  have HKK := Lib.hid (show K w ∧ ∀ w', Below W.heap.size W w' → K w' from ⟨hK w hbel, hK⟩)
  have HBW := Lib.hid hbel
  have HE := Lib.hid hE
  clear hE hK
  rw [show (#[Value.pointer (some ⟨W.heap.size, 0, none⟩), .int .i64 i] ++ #[.pointer (some ⟨gA, 0, none⟩), .pointer (some ⟨gY, 0, none⟩)] : Array Value) = #[.pointer (some ⟨W.heap.size, 0, none⟩), .int .i64 i, .pointer (some ⟨gA, 0, none⟩), .pointer (some ⟨gY, 0, none⟩)] from rfl]
  cases hsp : (getP ps x).sp
  · rw [hsp] at c4
    by_cases hat : at_ < 0 ∨ ((getP ps x).bs.length : Int) ≤ at_ ∨ y = 0
    · have he2 : spoilE sent ps x at_ y = 2 := by rw [HE.out, hsp, if_neg (by decide), if_pos hat]
      rw [he2]
      by_cases q1 : at_ < 0
      · have d1 : decide (at_ < 0) = true := dt q1
        clear hchk hlow hh h1 h2 hp hpx hix hp' hei hep heo hel hD hN hes HE
        generalize getP ps x = gp at *
        go_enter Try.func63, Try.ntmps63
        go_wp2_with fail
        go_quiet (fail)
        go_wp2
        go_ret
        exact ⟨2, rfl, ⟨rfl, HKK.out.2 _ (bl_dr HBW.out _)⟩, Nat.le_refl _, fun _ _ _ => rfl, fun h => by cases h⟩
      · have q1' : 0 ≤ at_ := by omega
        have d1 : decide (at_ < 0) = false := df q1
        by_cases q2 : (e.n : Int) ≤ at_
        · have d2 : decide ((e.n : Int) ≤ at_) = true := dt q2
          clear hchk hlow hh h1 h2 hp hpx hix hp' hei hep heo hel hD hN hes HE
          generalize getP ps x = gp at *
          go_enter Try.func63, Try.ntmps63
          go_wp2_with fail
          go_quiet (fail)
          go_wp2
          go_ret
          exact ⟨2, rfl, ⟨rfl, HKK.out.2 _ (bl_dr HBW.out _)⟩, Nat.le_refl _, fun _ _ _ => rfl, fun h => by cases h⟩
        · have q2' : at_ < (e.n : Int) := by omega
          have d2 : decide ((e.n : Int) ≤ at_) = false := df q2
          have y0 : y = 0 := by
            rcases hat with h | h | h
            · omega
            · omega
            · exact h
          subst y0
          have y1 : w.cell? ⟨gY, 0, none⟩ = some (.int .u8 0) := (h2.below hbel h2.lt).cell 0
          clear hchk hlow hh h1 h2 hp hpx hix hp' hei hep heo hel hD hN hes HE
          generalize getP ps x = gp at *
          go_enter Try.func63, Try.ntmps63
          go_wp2_with fail
          go_quiet (fail)
          go_wp2
          go_ret
          exact ⟨2, rfl, ⟨rfl, HKK.out.2 _ (bl_dr HBW.out _)⟩, Nat.le_refl _, fun _ _ _ => rfl, fun h => by cases h⟩
    · have he0 : spoilE sent ps x at_ y = 0 := by rw [HE.out, hsp, if_neg (by decide), if_neg hat]
      have q1 : 0 ≤ at_ := by omega
      have q2 : at_ < (e.n : Int) := by omega
      have y0 : y ≠ 0 := fun h => hat (.inr (.inr h))
      obtain ⟨a, rfl⟩ := Int.eq_ofNat_of_zero_le q1
      have d1 : decide ((a : Int) < 0) = false := df (by omega)
      have d2 : decide (e.n ≤ a) = false := df (by omega)
      obtain ⟨yi, hyi⟩ : ∃ yi : Int, yi = (y.toNat : Int) := ⟨_, rfl⟩
      have y1 : w.cell? ⟨gY, 0, none⟩ = some (.int .u8 yi) := by rw [hyi]; exact (h2.below hbel h2.lt).cell 0
      have d3 : (yi == 0) = false := by
        rw [hyi]
        simp only [beq_eq_false_iff_ne, ne_eq]
        intro h
        exact y0 (UInt8.toNat_inj.1 (by simpa using h))
      have HYI := Lib.hid hyi
      clear hyi
      have HD := Lib.hid hD
      have HSP := Lib.hid hei
      have HN := Lib.hid hN
      have HES := Lib.hid hes
      have HBA := Lib.hid (h1.below hbel h1.lt)
      have HBY := Lib.hid (h2.below hbel h2.lt)
      have HEP := Lib.hid hep
      have HAW := Lib.hid h1.lt
      have HYW := Lib.hid h2.lt
      have HEL := Lib.hid hel
      have HEO := Lib.hid heo
      have HBEL := Lib.hid hbel
      clear hchk hlow hh h1 h2 hp hpx hix hp' hei hep heo hel hD hN hes HE
      go_enter Try.func63, Try.ntmps63
      go_wp2_with fail
      go_quiet (fail)
      go_wp2_with fail
      clear c0 c1 c2 c3 c4 f4 n1 a1 y1 d1 d2 d3
      obtain ⟨dn, rs, hes2, hdl⟩ := split_at HSP.out
      subst hes2 hdl
      have hD1 := HD.out.below (bl_dr (Below.refl w.heap.size w) nq)
      obtain ⟨hD2, hg2'⟩ := hD1.flag
      have heo1 := hD1.own e (by simp)
      obtain ⟨k, hkA, hk1, hk2⟩ := heo1.form (by omega)
      have hN2 := (HN.out.ca (bl_dr (Below.refl w.heap.size w) nq)).apart hg2' (by omega)
      have hA2 := (HBA.out.ca (bl_dr (Below.refl w.heap.size w) nq)).apart hg2' (fun e' => by have := HAW.out; omega)
      have hY2 := (HBY.out.ca (bl_dr (Below.refl w.heap.size w) nq)).apart hg2' (fun e' => by have := HYW.out; omega)
      have hK2 : Kept w ((w.drewN nq).setCell ⟨gr, dn.length * 5 + 4, none⟩ (.bool true)) W.heap.size (W.heap.size + 2) := (Kept.of_below (bl_dr (Below.refl w.heap.size w) nq) hB).trans (Kept.of_grown hg2' hB (.inr hg1))
      generalize (w.drewN nq).setCell ⟨gr, dn.length * 5 + 4, none⟩ (.bool true) = w2 at *
      have HD2 := Lib.hid hD2
      have HN2 := Lib.hid hN2
      have HK2 := Lib.hid hK2
      have HR3 := Lib.hid (show ∀ w9, Below w2.heap.size w2 w9 → w9.cell? ⟨gr, dn.length * 5 + 3, none⟩ = some (.slice (some ⟨k, 0, none⟩) e.n e.c) ∧ w9.cell? ⟨gA, 0, none⟩ = some (.int .i64 (a : Int)) ∧ w9.cell? ⟨gY, 0, none⟩ = some (.int .u8 yi) ∧ w9.cell? ⟨k, a, none⟩ = some (.int .u8 ((e.p.bs.getD a 0).toNat : Int)) ∧ w9.frozen? ⟨k, a, none⟩ = false from fun w9 q => by
        have hd := hD2.below q
        have hc3 := (hd.row.cell (i := dn.length) (e := ⟨⟨e.p.num, e.p.frm, e.p.to, e.p.bs, true⟩, e.A, e.n, e.c⟩) (by rw [List.getElem?_append_right (Nat.le_refl _)]; simp)).2.2.2.1
        rw [hkA] at hc3
        have ho := hd.own ⟨⟨e.p.num, e.p.frm, e.p.to, e.p.bs, true⟩, e.A, e.n, e.c⟩ (by simp)
        simp only at ho
        rw [hkA] at ho
        have hal : a < e.n := by omega
        refine ⟨hc3, (hA2.ca q).cell 0, by rw [HYI.out]; exact (hY2.ca q).cell 0, ?_, World.ownsRow.frozenAt ho a⟩
        have := World.ownsRow.cellAt ho a (by omega)
        rw [this, List.getElem?_map, List.getD_eq_getElem?_getD, List.getElem?_eq_getElem (by have := HEL.out; rw [← HEP.out] at this; omega)]
        rfl)
      have hai : (a : Int) < (e.n : Int) := by omega
      clear hD1 hD2 hN2 hK2 hA2 hY2 heo1 hk2 hg2'
      obtain ⟨bb0, hbb⟩ : ∃ b : UInt8, b = e.p.bs.getD a 0 := ⟨_, rfl⟩
      rw [← hbb] at HR3
      have HBB := Lib.hid hbb
      clear hbb
      refine wp_region_ps (S := Seq1 10 (fun _ w' => Below w2.heap.size w2 w') (fun _ w' => ∃ w6, Below w2.heap.size w2 w6 ∧ w' = w6.setCell ⟨k, a, none⟩ (vb (bb0 ^^^ y)))) (by kernel_rfl) ?spswq ?ppswq
      case spswq =>
        exact Seq1.start (by decide) (Below.refl _ _).drew
      refine Ps.step (i := 0) (d := some 38) (u := ?uwq_1) rfl rfl (by kernel_rfl) (by kernel_rfl) (by kernel_rfl) (by kernel_rfl) ?ywq_1 ?rwq_1
      case ywq_1 =>
        refine StepS.pure (Seq1.pass (by decide)) (by rfl) (fun w9 => ?_)
        go_simp
        try rfl
      try simp only [Act.put, List.setIfInBounds_toArray, List.set_cons_zero, List.set_cons_succ]
      refine Ps.step (i := 1) (d := some 39) (u := ?uwq_2) rfl rfl (by kernel_rfl) (by kernel_rfl) (by kernel_rfl) (by kernel_rfl) ?ywq_2 ?rwq_2
      case ywq_2 =>
        refine StepS.pure (Seq1.pass (by decide)) (by rfl) (fun w9 => ?_)
        go_simp
        try rfl
      try simp only [Act.put, List.setIfInBounds_toArray, List.set_cons_zero, List.set_cons_succ]
      refine Ps.step (i := 2) (d := some 40) (u := ?uwq_3) rfl rfl (by kernel_rfl) (by kernel_rfl) (by kernel_rfl) (by kernel_rfl) ?ywq_3 ?rwq_3
      case ywq_3 =>
        refine StepS.pure (Seq1.pass (by decide)) (by rfl) (fun w9 => ?_)
        go_simp
        try rfl
      try simp only [Act.put, List.setIfInBounds_toArray, List.set_cons_zero, List.set_cons_succ]
      refine Ps.step (i := 3) (d := some 41) (u := ?uwq_4) rfl rfl (by kernel_rfl) (by kernel_rfl) (by kernel_rfl) (by kernel_rfl) ?ywq_4 ?rwq_4
      case ywq_4 =>
        refine StepS.read [] (by kernel_rfl) (Seq1.pass (by decide)) (by rfl) (fun L9 m9 w9 hSh hAt hDn hS => ?_)
        have hT : Below w2.heap.size w2 w9 := Seq1.at1 (reach_no hSh (f := 11) (j := 10) (by kernel_rfl) hDn) hS
        have x3 : w9.cell? ⟨gr, dn.length * 5 + 3, none⟩ = some (.slice (some ⟨k, 0, none⟩) e.n e.c) := (HR3.out w9 hT).1
        clear hS hT
        go_simp
        try rfl
      try simp only [Act.put, List.setIfInBounds_toArray, List.set_cons_zero, List.set_cons_succ]
      refine Ps.step (i := 4) (d := some 42) (u := ?uwq_5) rfl rfl (by kernel_rfl) (by kernel_rfl) (by kernel_rfl) (by kernel_rfl) ?ywq_5 ?rwq_5
      case ywq_5 =>
        refine StepS.read [] (by kernel_rfl) (Seq1.pass (by decide)) (by rfl) (fun L9 m9 w9 hSh hAt hDn hS => ?_)
        have hT : Below w2.heap.size w2 w9 := Seq1.at1 (reach_no hSh (f := 11) (j := 10) (by kernel_rfl) hDn) hS
        have x3 : w9.cell? ⟨gA, 0, none⟩ = some (.int .i64 (a : Int)) := (HR3.out w9 hT).2.1
        clear hS hT
        go_simp
        try rfl
      try simp only [Act.put, List.setIfInBounds_toArray, List.set_cons_zero, List.set_cons_succ]
      refine Ps.step (i := 5) (d := some 43) (u := ?uwq_6) rfl rfl (by kernel_rfl) (by kernel_rfl) (by kernel_rfl) (by kernel_rfl) ?ywq_6 ?rwq_6
      case ywq_6 =>
        refine StepS.pure (Seq1.pass (by decide)) (by rfl) (fun w9 => ?_)
        go_simp
        try rfl
      try simp only [Act.put, List.setIfInBounds_toArray, List.set_cons_zero, List.set_cons_succ]
      refine Ps.step (i := 6) (d := some 44) (u := ?uwq_7) rfl rfl (by kernel_rfl) (by kernel_rfl) (by kernel_rfl) (by kernel_rfl) ?ywq_7 ?rwq_7
      case ywq_7 =>
        refine StepS.read [] (by kernel_rfl) (Seq1.pass (by decide)) (by rfl) (fun L9 m9 w9 hSh hAt hDn hS => ?_)
        have hT : Below w2.heap.size w2 w9 := Seq1.at1 (reach_no hSh (f := 11) (j := 10) (by kernel_rfl) hDn) hS
        have x3 : w9.cell? ⟨k, a, none⟩ = some (.int .u8 (bb0.toNat : Int)) := (HR3.out w9 hT).2.2.2.1
        clear hS hT
        go_simp
        try rfl
      try simp only [Act.put, List.setIfInBounds_toArray, List.set_cons_zero, List.set_cons_succ]
      refine Ps.step (i := 7) (d := some 45) (u := ?uwq_8) rfl rfl (by kernel_rfl) (by kernel_rfl) (by kernel_rfl) (by kernel_rfl) ?ywq_8 ?rwq_8
      case ywq_8 =>
        refine StepS.read [] (by kernel_rfl) (Seq1.pass (by decide)) (by rfl) (fun L9 m9 w9 hSh hAt hDn hS => ?_)
        have hT : Below w2.heap.size w2 w9 := Seq1.at1 (reach_no hSh (f := 11) (j := 10) (by kernel_rfl) hDn) hS
        have x3 : w9.cell? ⟨gY, 0, none⟩ = some (.int .u8 yi) := (HR3.out w9 hT).2.2.1
        clear hS hT
        go_simp
        try rfl
      try simp only [Act.put, List.setIfInBounds_toArray, List.set_cons_zero, List.set_cons_succ]
      refine Ps.step (i := 8) (d := some 46) (u := ?uwq_9) rfl rfl (by kernel_rfl) (by kernel_rfl) (by kernel_rfl) (by kernel_rfl) ?ywq_9 ?rwq_9
      case ywq_9 =>
        refine StepS.pure (Seq1.pass (by decide)) (by rfl) (fun w9 => ?_)
        go_simp
        try rfl
      try simp only [Act.put, List.setIfInBounds_toArray, List.set_cons_zero, List.set_cons_succ]
      refine Ps.step (i := 9) (d := some 47) (u := ?uwq_10) rfl rfl (by kernel_rfl) (by kernel_rfl) (by kernel_rfl) (by kernel_rfl) ?ywq_10 ?rwq_10
      case ywq_10 =>
        refine StepS.pure (Seq1.pass (by decide)) (by rfl) (fun w9 => ?_)
        go_simp
        try rfl
      try simp only [Act.put, List.setIfInBounds_toArray, List.set_cons_zero, List.set_cons_succ]
      refine Ps.step (i := 10) (d := none) (u := undef) rfl rfl (by kernel_rfl) (by kernel_rfl) (by kernel_rfl) (by kernel_rfl) ?ywq_11 ?rwq_11
      case ywq_11 =>
        refine StepS.store [] (by kernel_rfl) (by rfl) (fun L9 m9 w9 hSh hAt hDn hS => ?_)
        have hT := Seq1.at1 hDn hS
        have x3 : w9.cell? ⟨k, a, none⟩ = some (.int .u8 (bb0.toNat : Int)) := (HR3.out w9 hT).2.2.2.1
        have f3 : w9.frozen? ⟨k, a, none⟩ = false := (HR3.out w9 hT).2.2.2.2
        refine ⟨w9.setCell ⟨k, a, none⟩ (vb (bb0 ^^^ y)), ?_, Seq1.set1 ⟨w9, hT, rfl⟩⟩
        clear hS
        go_simp
        rw [HYI.out, u8_xor_nat _ _ bb0.toNat_lt y.toNat_lt]
        show _ = w9.setCell _ (.int .u8 ((bb0 ^^^ y).toNat : Int))
        rw [UInt8.toNat_xor]
      try simp only [Act.put]
      refine Ps.done (by kernel_rfl) (fun wq hS => ?_) _
      obtain ⟨w6, hT, rfl⟩ := Seq1.fin (by rfl) hS
      clear hS
      obtain ⟨hD6, hg6⟩ := (HD2.out.below hT).byte (e := ⟨⟨e.p.num, e.p.frm, e.p.to, e.p.bs, true⟩, e.A, e.n, e.c⟩) hkA a (bb0 ^^^ y)
      have hN6 := (HN2.out.ca hT).apart hg6 (by omega)
      have hK6 : Kept w (w6.setCell ⟨k, a, none⟩ (vb (bb0 ^^^ y))) W.heap.size (W.heap.size + 2) := (HK2.out.trans (Kept.of_below hT (Nat.le_trans hB HK2.out.size))).trans (Kept.of_grown hg6 (Nat.le_trans hB (Nat.le_trans HK2.out.size hT.size)) (.inr hk1))
      have HKW := Lib.hid (HKK.out.2 _ (hK6.below HBW.out (Nat.le_refl _) (by omega)))
      have HEND := Lib.hid (show ∃ s A2 m2 c2 es2, Blk (w6.setCell ⟨k, a, none⟩ (vb (bb0 ^^^ y))) W.heap.size 26 #[.int .u64 s, .slice A2 m2 c2] ∧ DO (w6.setCell ⟨k, a, none⟩ (vb (bb0 ^^^ y))) (W.heap.size + 2) A2 m2 c2 es2 ∧ s = (spoilR sent ps x (a : Int) y).1 ∧ es2.map El.p = (spoilR sent ps x (a : Int) y).2 ∧ True from ⟨_, _, _, _, _, hN6, hD6, by unfold spoilR; rw [he0, if_pos rfl], by
        unfold spoilR
        rw [he0, if_pos rfl]
        show List.map El.p _ = ps.set (ixP ps x) (spoiled (getP ps x) ((a : Int).toNat) y)
        rw [← HIX.out, ← HEP.out, ← HES.out, List.map_append, List.map_append, List.set_append_right _ _ (by rw [List.length_map]; exact Nat.le_refl _), List.length_map, Nat.sub_self, HBB.out]
        rfl, trivial⟩)
      have HSZ := Lib.hid hK6.size
      have HBL := Lib.hid (show ∀ k_1, W.heap.size < k_1 → k_1 < W.heap.size + 2 → (w6.setCell ⟨k, a, none⟩ (vb (bb0 ^^^ y))).heap[k_1]? = w.heap[k_1]? from fun j h1 h2 => hK6.block j h2 (by omega))
      clear hD6 hN6 hg6 hK6 hT
      go_wp2
      go_ret
      exact ⟨0, rfl, ⟨he0.symm, HKW.out⟩, HSZ.out, HBL.out, fun _ => HEND.out⟩
  · have he5 : spoilE sent ps x at_ y = 5 := by rw [HE.out, hsp, if_pos rfl]
    rw [he5]
    rw [hsp] at c4
    clear hchk hlow hh h1 h2 hp hpx hix hp' hep heo hel hD hN hes HE
    go_enter Try.func63, Try.ntmps63
    go_wp2
    go_ret
    exact ⟨5, rfl, ⟨rfl, HKK.out.1⟩, Nat.le_refl _, fun _ _ _ => rfl, fun h => by cases h⟩
end Go.Proofs.Ytnbcffnhgijmcaa
