/- net.Come. Conditions: the slice reads as these parcels. -/
import Derived.Test.YtnbcffnhgijmcaaNDel
namespace Go.Proofs.Ytnbcffnhgijmcaa
open Go.RowKit
def zeroPC : PC := ⟨0, 0, 0, [], false⟩
def comeE (sent : Int) (ps : List PC) (x : Int) : Int := if chkB sent ps then (if hasB ps x then 0 else 4) else 340
def comeR (sent : Int) (ps : List PC) (x : Int) : Int × List PC := if comeE sent ps x = 0 then (sent, ps.take (ixP ps x) ++ ps.drop (ixP ps x + 1)) else (0, [])
def comeP (sent : Int) (ps : List PC) (x : Int) : PC := if comeE sent ps x = 0 then getP ps x else zeroPC
/-- what is known of the variable that holds the parcel -/
def ComeK (w : World) (g B : Nat) (p : PC) (w' : World) : Prop := (∃ A n c, Blk w' g 29 #[.int .u64 p.num, .int .i64 p.frm, .int .i64 p.to, .slice A n c, .bool p.sp] ∧ OwnB w' B A n c p.bs) ∧ Kept w w' g w.heap.size
/-- and that its bytes are none of the net's -/
def ComeZ (g : Nat) (w' : World) (es : List El) : Prop := g < w'.heap.size ∧ ∀ cs A n c, Blk w' g 29 cs → cs[3]? = some (.slice A n c) → ∀ x ∈ es, ∀ k, (Value.slice A n c).ownBlock = some k → x.bk ≠ some k
theorem ComeK.grown {w : World} {g B r : Nat} {p : PC} {w1 w2 : World} (h : ComeK w g B p w1) (hg : w1.grownBy w2 (some r)) (hr : w.heap.size ≤ r) (hgw : g < w.heap.size) (hB : r < B) : ComeK w g B p w2 := by
  obtain ⟨⟨A, n, c, h1, h2⟩, h3⟩ := h
  exact ⟨⟨A, n, c, h1.apart hg (by omega), h2.kept hg (fun e => by have := (h2.base_ r e).1; omega)⟩, h3.trans (Kept.of_grown hg h3.size (.inr hr))⟩
theorem ComeK.below {w : World} {g B : Nat} {p : PC} {w1 w2 : World} (h : ComeK w g B p w1) (q : Below w1.heap.size w1 w2) : ComeK w g B p w2 := by
  obtain ⟨⟨A, n, c, h1, h2⟩, h3⟩ := h
  exact ⟨⟨A, n, c, h1.ca q, h2.below q⟩, h3.trans (Kept.of_below q h3.size)⟩
theorem ComeZ.grown {g r : Nat} {w1 w2 : World} {es : List El} (h : ComeZ g w1 es) (hg : w1.grownBy w2 (some r)) (hr : g ≠ r) : ComeZ g w2 es := by
  refine ⟨Nat.lt_of_lt_of_le h.1 hg.size, fun cs A n c hb => h.2 cs A n c ?_⟩
  unfold Blk at hb ⊢
  rw [← hb]
  exact (hg.block g h.1 (fun e => hr (by injection e))).symm
theorem ComeK.no {w : World} {g B : Nat} (hb : Blk w g 29 #[.int .u64 0, .int .i64 0, .int .i64 0, .slice none 0 0, .bool false]) {w' : World} (q : Below w.heap.size w w') : ComeK w g B zeroPC w' := ⟨⟨none, 0, 0, hb.ca q, OwnB.none_ _ _⟩, Kept.of_below q (Nat.le_refl _)⟩
set_option maxRecDepth 100000 in
set_option maxHeartbeats 8000000 in
theorem come1_doc (sent : Int) (m : Nat) (ps : List PC) (x : Int) (W W0 : World) (g i : Nat) (hchk : chkB sent ps = true) (hm : ps.length = m) (hlow : Low ps x i) (hh : hasB ps x = true)
    (hg : g < W0.heap.size) (h0 : Below W0.heap.size W0 W) (hW : W0.heap.size + 4 = W.heap.size) (hgb : Blk W g 29 #[.int .u64 0, .int .i64 0, .int .i64 0, .slice none 0 0, .bool false]) (hr3 : Blk W (W0.heap.size + 3) 26 #[.int .u64 0, .slice none 0 0]) :
    DoI 53 #[.pointer (some ⟨g, 0, none⟩)] W W.heap.size (W.heap.size + 2) sent m ps i (fun er w' => er = 0 ∧ ComeK W0 g (W0.heap.size + 6) (getP ps x) w' ∧ Blk w' (W0.heap.size + 3) 26 #[.int .u64 0, .slice none 0 0]) (fun w' s l => s = sent ∧ l.map El.p = ps.take (ixP ps x) ++ ps.drop (ixP ps x + 1) ∧ ComeZ g w' l) := by
  intro w A c es hbel hbB hB hN hD hes
  obtain ⟨hp, hpx, hix⟩ := getP_at (chk_rise hchk) hlow hh
  have HIX := Lib.hid hix
  clear hix
  have hp' : (es.map El.p)[i]? = some (getP ps x) := by rw [hes]; exact hp
  obtain ⟨e, hei, hep⟩ := el_at hp'
  have him : i < m := by rw [← hm]; exact (List.getElem?_eq_some_iff.1 hp).1
  have him1 : (i : Int) < (m : Int) := by omega
  obtain ⟨gr, hA, hg1, hg2⟩ := hD.row.form (by omega)
  subst hA
  obtain ⟨c0, c1, c2, c3, c4⟩ := hD.row.cell hei
  have n1 : w.cell? ⟨W.heap.size, 1, none⟩ = some (.slice (some ⟨gr, 0, none⟩) m c) := hN.cell 1
  rw [hep] at c0 c1 c2 c4
  have heo := hD.own e (List.mem_of_getElem? hei)
  rw [hep] at heo
  obtain ⟨hr1, hr2⟩ := chk_rng hchk
  have hgw : g < w.heap.size := Nat.lt_of_lt_of_le hgb.lt hbel.size
  have hm2 : m ≤ 20000 := by omega
  have him2 : (i : Int) + 1 ≤ 20000 := by omega
  have KG := Lib.hid (hgb.below hbel hgb.lt)
  have KR := Lib.hid (hr3.below hbel (by omega))
  have HN := Lib.hid hN
  have HD := Lib.hid hD
  have HES := Lib.hid hes
  have HEO := Lib.hid heo
  have HEI := Lib.hid hei
  have HBEL := Lib.hid hbel
  have HM := Lib.hid hm
  clear hp hp' hpx hlow hh hchk hN hD hes heo hei hbel hgb hr3 hm hep
  generalize getP ps x = gp at *
  rw [show (#[Value.pointer (some ⟨W.heap.size, 0, none⟩), .int .i64 i] ++ #[.pointer (some ⟨g, 0, none⟩)] : Array Value) = #[.pointer (some ⟨W.heap.size, 0, none⟩), .int .i64 i, .pointer (some ⟨g, 0, none⟩)] from rfl]
  go_enter Try.func53, Try.ntmps53
  go_wp2_with (refine wpList_store_blk rfl 29 (.tmp 2) (.tmp 12) rfl g 29 _ _ rfl rfl KG.out rfl parcelI (by simp [Value.oneCell']) ?_; intro w2 hZ gz; have n2 : w2.cell? ⟨W.heap.size, 1, none⟩ = some (.slice (some ⟨gr, 0, none⟩) m c) := (HN.out.apart gz (by omega)).cell 1)
  have HD2 := Lib.hid (HD.out.kept gz (by omega))
  have HDEL := Lib.hid (del_any gr m c (W.heap.size + 2) i es w2 HD2.out him hm2)
  have HZ := Lib.hid hZ
  have HGZ := Lib.hid gz
  clear hZ gz n1 n2 c0 c1 c2 c3 c4
  refine HDEL.out.mono ?_
  rintro e3 w3 ⟨rfl, hd3, hk3⟩
  have hw2 := HGZ.out.size
  have hgr2 : gr < w2.heap.size := Nat.lt_of_lt_of_le hg2 hw2
  have hN3 : Blk w3 W.heap.size 26 #[.int .u64 sent, .slice (some ⟨gr, 0, none⟩) m c] := (hk3.block _ (by omega) (by omega)).trans (HN.out.apart HGZ.out (by omega))
  have hg4 : w3.grownBy (w3.setCell ⟨W.heap.size, 1, none⟩ (.slice (some ⟨gr, 0, none⟩) (m - 1) c)) (some W.heap.size) := only_setCell (World.grownBy.refl _ _) (.inl rfl) _
  have x1 : w3.cell? ⟨W.heap.size, 1, none⟩ = some (.slice (some ⟨gr, 0, none⟩) m c) := hN3.cell 1
  have fx : w3.frozen? ⟨W.heap.size, 1, none⟩ = false := hN3.frozen 1
  have HN4 := Lib.hid (show Blk (w3.setCell ⟨W.heap.size, 1, none⟩ (.slice (some ⟨gr, 0, none⟩) (m - 1) c)) W.heap.size 26 #[.int .u64 sent, .slice (some ⟨gr, 0, none⟩) (m - 1) c] from by simpa using hN3.set_ 1 (.slice (some ⟨gr, 0, none⟩) (m - 1) c))
  have HD4 := Lib.hid (hd3.kept hg4 (by omega))
  have HG4 := Lib.hid (show Blk (w3.setCell ⟨W.heap.size, 1, none⟩ (.slice (some ⟨gr, 0, none⟩) (m - 1) c)) g 29 #[.int .u64 gp.num, .int .i64 gp.frm, .int .i64 gp.to, .slice e.A e.n e.c, .bool gp.sp] from Blk.apart ((hk3.block _ (by omega) (by omega)).trans HZ.out) hg4 (by omega))
  have ho2 := HEO.out.kept HGZ.out (fun e' => by have := (HEO.out.base_ g e').1; omega)
  have ho3 := ho2.at_ (fun k hk => hk3.block k (ho2.base_ k hk).2 (fun e' => by subst e'; exact own_ne_ro ho2 HD2.out.row hk))
  have HO4 := Lib.hid (OwnB.less (ho3.kept hg4 (fun e' => by have := (ho3.base_ _ e').1; omega)) (B' := W0.heap.size + 6) (by omega))
  have HR4 := Lib.hid (show Blk (w3.setCell ⟨W.heap.size, 1, none⟩ (.slice (some ⟨gr, 0, none⟩) (m - 1) c)) (W0.heap.size + 3) 26 #[.int .u64 0, .slice none 0 0] from Blk.apart ((hk3.block _ (by omega) (by omega)).trans (KR.out.apart HGZ.out (by omega))) hg4 (by omega))
  have HK4 := Lib.hid (show Kept w (w3.setCell ⟨W.heap.size, 1, none⟩ (.slice (some ⟨gr, 0, none⟩) (m - 1) c)) g W.heap.size from ((Kept.of_grown (B := W.heap.size) HGZ.out (by omega) (.inl rfl)).trans ⟨hk3.os, hk3.tape, hk3.output, hk3.size, fun k hk _ => hk3.block k (by omega) (by omega)⟩).trans (Kept.of_grown hg4 (by have := hk3.size; omega) (.inr (Nat.le_refl _))))
  have HK0 := Lib.hid (show Kept W0 (w3.setCell ⟨W.heap.size, 1, none⟩ (.slice (some ⟨gr, 0, none⟩) (m - 1) c)) g W0.heap.size from ((Kept.of_below h0 (Nat.le_refl _)).trans (Kept.of_below HBEL.out (by omega))).trans (HK4.out.less (by omega)))
  have HZ4 := Lib.hid (show ComeZ g (w3.setCell ⟨W.heap.size, 1, none⟩ (.slice (some ⟨gr, 0, none⟩) (m - 1) c)) (es.take i ++ es.drop (i + 1)) from by
    refine ⟨HG4.out.lt, fun cs A n c' hb hc3 y hy k hk => ?_⟩
    have e1 := hb.symm.trans HG4.out
    injection e1 with e1
    injection e1 with e1
    subst e1
    simp at hc3
    obtain ⟨rfl, rfl, rfl⟩ := hc3
    obtain ⟨d, r, hsp, hdl⟩ := split_at HEI.out
    have hap := HD.out.apart
    rw [hsp] at hap hy
    subst hdl
    rw [List.take_left, show d.length + 1 = (d ++ [e]).length from by simp, show d ++ e :: r = (d ++ [e]) ++ r from by simp, List.drop_left] at hy
    exact apart_not hap hy hk)
  have HMAP := Lib.hid (show (es.take i ++ es.drop (i + 1)).map El.p = ps.take (ixP ps x) ++ ps.drop (ixP ps x + 1) from by rw [← HIX.out, ← HES.out, List.map_append, List.map_take, List.map_drop])
  have HS4 := Lib.hid (show w.heap.size ≤ (w3.setCell ⟨W.heap.size, 1, none⟩ (.slice (some ⟨gr, 0, none⟩) (m - 1) c)).heap.size from HK4.out.size)
  have HB4 := Lib.hid (show ∀ k, W.heap.size < k → k < W.heap.size + 2 → (w3.setCell ⟨W.heap.size, 1, none⟩ (.slice (some ⟨gr, 0, none⟩) (m - 1) c)).heap[k]? = w.heap[k]? from fun k h1 h2 => ((hg4.block k (by have := hk3.size; omega) (fun e' => by injection e' with e'; omega)).trans (hk3.block k (by omega) (by omega))).trans (HGZ.out.block k (by omega) (fun e' => by injection e' with e'; omega)))
  clear hN3 hg4 hd3 hk3 ho2 ho3 HDEL
  go_wp2
  go_ret
  exact ⟨0, rfl, ⟨rfl, ⟨⟨e.A, e.n, e.c, HG4.out, HO4.out⟩, HK0.out⟩, HR4.out⟩, HS4.out, HB4.out, fun _ => ⟨_, _, _, _, _, HN4.out, HD4.out, rfl, HMAP.out, HZ4.out⟩⟩
end Go.Proofs.Ytnbcffnhgijmcaa
