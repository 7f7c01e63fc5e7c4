/- bowspritref24.Spoil. Conditions: the slice reads as these parcels, not too many. -/
import Derived.Test.YtnbcffnhgijmcaaPkD14
import Derived.Deep.QuietTactic
import Derived.BigQuiet
import Derived.IntWalk
namespace Go.Proofs.Ytnbcffnhgijmcaa
open Go.RowKit
def rspoilE (ps : List PC) (x a : Int) (y : UInt8) : Int := if hasB ps x then (if (getP ps x).sp then 5 else if a < 0 ∨ ((getP ps x).bs.length : Int) ≤ a ∨ y = 0 then 2 else 0) else 4
def rspoilR (sent : Int) (ps : List PC) (x a : Int) (y : UInt8) : Int × List PC := if rspoilE ps x a y = 0 then (sent, ps.set (ixP ps x) (spoiled (getP ps x) a.toNat y)) else (0, [])
set_option maxRecDepth 100000 in
set_option maxHeartbeats 16000000 in
theorem rspoil_any (sent : Int) (A : Option Addr) (m c : Nat) (ps : List PC) (x a : Int) (y : UInt8) (w : World) (h : LP.rd w AllB A m ps) (hm : m ≤ 20000) (hb : ∀ p ∈ ps, p.bs.length ≤ 100000) :
    Calls Try.prog 58 #[.agg #[.int .u64 sent, .slice A m c], .int .u64 x, .int .i64 a, vb y] w fun e w' => ∃ A2 m2 c2, e = .returned (.tuple #[.agg #[.int .u64 (rspoilR sent ps x a y).1, .slice A2 m2 c2], .int .i64 (rspoilE ps x a y)]) ∧ LP.rd w' (fun b => w.heap.size ≤ b) A2 m2 (rspoilR sent ps x a y).2 ∧ Below w.heap.size w w' := by
  have HL := Lib.hid h.1
  have bb := Below.refl w.heap.size w
  have bN := Blk.new w 26 #[.int .u64 sent, .slice A m c]
  replace bb := bl_al bb (.cells #[.int .u64 sent, .slice A m c] 26)
  replace bN := bN.ca (bl_al (Below.refl _ _) (.cells #[.int .u64 0, .slice none 0 0] 26))
  have bR : Blk ((w.alloc (.cells #[.int .u64 sent, .slice A m c] 26)).alloc (.cells #[.int .u64 0, .slice none 0 0] 26)) (w.heap.size + 1) 26 #[.int .u64 0, .slice none 0 0] := Blk.mk' (by simp only [World.size_alloc])
  replace bb := bl_al bb (.cells #[.int .u64 0, .slice none 0 0] 26)
  have hsz : w.heap.size + 2 ≤ ((w.alloc (.cells #[.int .u64 sent, .slice A m c] 26)).alloc (.cells #[.int .u64 0, .slice none 0 0] 26)).heap.size := by simp only [World.size_alloc]; omega
  have n0 : ((w.alloc (.cells #[.int .u64 sent, .slice A m c] 26)).alloc (.cells #[.int .u64 0, .slice none 0 0] 26)).cell? ⟨w.heap.size, 0, none⟩ = some (.int .u64 sent) := bN.cell 0
  have n1 : ((w.alloc (.cells #[.int .u64 sent, .slice A m c] 26)).alloc (.cells #[.int .u64 0, .slice none 0 0] 26)).cell? ⟨w.heap.size, 1, none⟩ = some (.slice A m c) := bN.cell 1
  have hrd := Lib.hid (Lay.rd_below h bb)
  have HFI := Lib.hid (rfind_any sent A m c ps x _ hrd.out (by omega))
  clear h
  obtain ⟨yi, hyi⟩ : ∃ yi : Int, yi = (y.toNat : Int) := ⟨_, rfl⟩
  have HYI := Lib.hid hyi
  rw [show vb y = .int .u8 yi from by rw [hyi]; rfl]
  clear hyi
  have hfailed : rspoilE ps x a y ≠ 0 → rspoilR sent ps x a y = (0, []) := fun h => by unfold rspoilR; rw [if_neg h]
  cases hh : hasB ps x
  · rw [show findI ps x = -1 from by unfold findI; rw [hh]; rfl] at HFI
    rw [hfailed (by simp [rspoilE, hh]), show rspoilE ps x a y = 4 from by unfold rspoilE; rw [hh]; rfl]
    clear hh hfailed
    go_enter Try.func58, Try.ntmps58
    go_wp2_with fail
    generalize ((w.alloc (.cells #[.int .u64 sent, .slice A m c] 26)).alloc (.cells #[.int .u64 0, .slice none 0 0] 26)) = w1 at *
    refine HFI.out.mono ?_
    rintro e w2 ⟨rfl, q2⟩
    have HR2 := Lib.hid (bR.ca q2)
    have HB2 := Lib.hid (bl_ca bb q2)
    clear q2 n0 n1 bN bR bb HFI
    go_wp2_with (refine wpList_store_blk rfl 26 (.tmp 8) (.tmp 17) rfl (w.heap.size + 1) 26 _ _ rfl rfl HR2.out rfl netI (by simp [Value.oneCell']) ?_; intro wz hZ gz)
    exact bodyPost_ret (res2 Try.results58 rfl rfl hZ Try.underlying26 rfl netI) rfl ⟨none, 0, 0, rfl, Lay.rd_nil none, bl_gr HB2.out gz (by omega)⟩
  · obtain ⟨hat, hil, hgx⟩ := has_at hh
    rw [show findI ps x = (ixP ps x : Int) from by unfold findI; rw [hh]; rfl] at HFI
    have hE : rspoilE ps x a y = (if (getP ps x).sp then 5 else if a < 0 ∨ ((getP ps x).bs.length : Int) ≤ a ∨ y = 0 then 2 else 0) := by unfold rspoilE; rw [hh]; rfl
    obtain ⟨E, hEE⟩ : ∃ E, E = rspoilE ps x a y := ⟨_, rfl⟩
    have hR0 : E = 0 → rspoilR sent ps x a y = (sent, ps.set (ixP ps x) (spoiled (getP ps x) a.toNat y)) := fun h => by unfold rspoilR; rw [← hEE, if_pos h]
    rw [← hEE] at hE hfailed ⊢
    generalize rspoilR sent ps x a y = RR at *
    generalize ixP ps x = i at *
    generalize getP ps x = q at *
    have him : i < m := by have := HL.out; omega
    have hi0 : (0 : Int) ≤ (i : Int) := by omega
    have hi1 : (i : Int) < (m : Int) := by omega
    have HAT := Lib.hid hat
    have HE := Lib.hid hE
    have HFA := Lib.hid hfailed
    have HR0 := Lib.hid hR0
    clear hh hat hil hgx hE hfailed hR0 hEE
    obtain ⟨ad, p0, B0, n0', c0', rfl, hx0, s0⟩ := LP_at hrd.out him
    obtain rfl : p0 = q := by have := HAT.out; rw [hx0] at this; exact Option.some.inj this
    clear s0 hx0
    have hsl := HL.out
    have hqb : p0.bs.length ≤ 100000 := hb _ (List.mem_of_getElem? HAT.out)
    go_enter Try.func58, Try.ntmps58
    go_wp2_with fail
    generalize ((w.alloc (.cells #[.int .u64 sent, .slice (some ad) m c] 26)).alloc (.cells #[.int .u64 0, .slice none 0 0] 26)) = w1 at *
    refine HFI.out.mono ?_
    rintro e w2 ⟨rfl, q2⟩
    have hrd2 := Lay.rd_below hrd.out q2
    obtain ⟨ad', p1, B1, n1', c1', hae, hx1, s1⟩ := LP_at hrd2 him
    obtain rfl : ad = ad' := Option.some.inj hae
    obtain rfl : p1 = p0 := by have := HAT.out; rw [hx1] at this; exact Option.some.inj this
    have e3 := s1.c3
    have e4 := s1.c4
    have hl1 := s1.len
    have x0 : w2.cell? ⟨w.heap.size, 0, none⟩ = some (.int .u64 sent) := (bN.ca q2).cell 0
    have x1 : w2.cell? ⟨w.heap.size, 1, none⟩ = some (.slice (some ad) m c) := (bN.ca q2).cell 1
    have HCP := Lib.hid (rcopy_any sent (some ad) m c ps w2 hrd2 (by omega) hb)
    have HN2 := Lib.hid (bN.ca q2)
    have HR2 := Lib.hid (bR.ca q2)
    have HB2 := Lib.hid (bl_ca bb q2)
    have hs2 := Nat.le_trans hsz q2.size
    have HL1 := Lib.hid hl1
    have HX1 := Lib.hid hx1
    clear q2 n0 n1 bN bR bb HFI hrd hrd2 s1 hae hl1 hx1
    cases hsp : p1.sp
    case true =>
      rw [hsp] at e4
      have hE5 : E = 5 := by rw [HE.out, hsp]; rfl
      have HE9 := Lib.hid (show E = 5 ∧ RR = (0, []) from ⟨hE5, HFA.out (by rw [hE5]; decide)⟩)
      clear hE5 hsp
      go_wp2_with (refine wpList_store_blk rfl 26 (.tmp 8) (.tmp 25) rfl (w.heap.size + 1) 26 _ _ rfl rfl HR2.out rfl netI (by simp [Value.oneCell']) ?_; intro wz hZ gz)
      exact bodyPost_ret (res2 Try.results58 rfl rfl hZ Try.underlying26 rfl netI) rfl ⟨none, 0, 0, by rw [HE9.out.1, HE9.out.2]; rfl, by rw [HE9.out.2]; exact Lay.rd_nil none, bl_gr HB2.out gz (by omega)⟩
    case false =>
    rw [hsp] at e4
    by_cases hbad : a < 0 ∨ (p1.bs.length : Int) ≤ a ∨ y = 0
    · have hE2 : E = 2 := by rw [HE.out, hsp, if_neg (by decide), if_pos hbad]
      have HE9 := Lib.hid (show E = 2 ∧ RR = (0, []) from ⟨hE2, HFA.out (by rw [hE2]; decide)⟩)
      rw [HL1.out] at hbad
      by_cases k1 : a < 0
      · clear hbad hE2
        go_wp2_with (refine wpList_store_blk rfl 26 (.tmp 8) (.tmp 44) rfl (w.heap.size + 1) 26 _ _ rfl rfl HR2.out rfl netI (by simp [Value.oneCell']) ?_; intro wz hZ gz)
        exact bodyPost_ret (res2 Try.results58 rfl rfl hZ Try.underlying26 rfl netI) rfl ⟨none, 0, 0, by rw [HE9.out.1, HE9.out.2]; rfl, by rw [HE9.out.2]; exact Lay.rd_nil none, bl_gr HB2.out gz (by omega)⟩
      · have k1' : 0 ≤ a := by omega
        by_cases k2 : (n1' : Int) ≤ a
        · clear hbad hE2
          go_wp2_with (refine wpList_store_blk rfl 26 (.tmp 8) (.tmp 44) rfl (w.heap.size + 1) 26 _ _ rfl rfl HR2.out rfl netI (by simp [Value.oneCell']) ?_; intro wz hZ gz)
          exact bodyPost_ret (res2 Try.results58 rfl rfl hZ Try.underlying26 rfl netI) rfl ⟨none, 0, 0, by rw [HE9.out.1, HE9.out.2]; rfl, by rw [HE9.out.2]; exact Lay.rd_nil none, bl_gr HB2.out gz (by omega)⟩
        · have k2' : a < (n1' : Int) := by omega
          obtain rfl : y = 0 := by
            rcases hbad with h | h | h
            · omega
            · omega
            · exact h
          obtain rfl : yi = 0 := HYI.out
          clear hE2
          go_wp2_with (refine wpList_store_blk rfl 26 (.tmp 8) (.tmp 44) rfl (w.heap.size + 1) 26 _ _ rfl rfl HR2.out rfl netI (by simp [Value.oneCell']) ?_; intro wz hZ gz)
          exact bodyPost_ret (res2 Try.results58 rfl rfl hZ Try.underlying26 rfl netI) rfl ⟨none, 0, 0, by rw [HE9.out.1, HE9.out.2]; rfl, by rw [HE9.out.2]; exact Lay.rd_nil none, bl_gr HB2.out gz (by omega)⟩
    · have hE0 : E = 0 := by rw [HE.out, hsp, if_neg (by decide), if_neg hbad]
      have HE9 := Lib.hid (show E = 0 ∧ RR = _ from ⟨hE0, HR0.out hE0⟩)
      rw [HL1.out] at hbad
      have k1 : 0 ≤ a := by omega
      have k2 : a < (n1' : Int) := by omega
      have y0 : y ≠ 0 := fun h => hbad (.inr (.inr h))
      obtain ⟨a, rfl⟩ := Int.eq_ofNat_of_zero_le k1
      have d3 : (yi == 0) = false := by
        rw [HYI.out]
        simp only [beq_eq_false_iff_ne, ne_eq]
        intro h
        exact y0 (UInt8.toNat_inj.1 (by simpa using h))
      clear hE0 hbad
      go_wp2_with fail
      refine HCP.out.mono ?_
      clear HCP x0 x1 e3 e4
      rintro e w3 ⟨A2, c2, rfl, ⟨es, hd, hes⟩, q3⟩
      obtain ⟨gr, rfl, hg1, hg2⟩ := hd.row.form (by omega)
      have HN3 := Lib.hid (HN2.out.ca q3)
      have HR3 := Lib.hid (HR2.out.ca q3)
      have HB3 := Lib.hid (bl_ca HB2.out q3)
      have hs3 := Nat.le_trans hs2 q3.size
      have hp' : (es.map El.p)[i]? = some p1 := by rw [hes]; exact HAT.out
      obtain ⟨e, hei, hep⟩ := el_at hp'
      obtain ⟨dn, rs, rfl, hdl⟩ := split_at hei
      subst hdl
      have HES := Lib.hid hes
      have HEP := Lib.hid hep
      have HD := Lib.hid hd
      clear hes hp' hei hep hd q3 HN2 HR2 HB2
      have heo3 := HD.out.own e (by simp)
      have hae1 : a < e.n := by have := (OwnB.rd heo3).len; rw [HEP.out, HL1.out] at this; omega
      obtain ⟨k, hkA, hk1, hk2⟩ := heo3.form (by omega)
      have hae2 : (a : Int) < (e.n : Int) := by omega
      have HKA := Lib.hid hkA
      have hkg : k ≠ gr := fun e' => own_ne_ro heo3 HD.out.row (by rw [hkA, e']; rfl)
      have hgk : gr ≠ k := fun e' => hkg e'.symm
      have hwg : w.heap.size ≠ gr := by omega
      have hwk : w.heap.size ≠ k := by omega
      have hgw : gr ≠ w.heap.size := by omega
      have hkw : k ≠ w.heap.size := by omega
      obtain ⟨bb0, hbb⟩ : ∃ b : UInt8, b = e.p.bs.getD a 0 := ⟨_, rfl⟩
      have HBB := Lib.hid hbb
      clear hkA hbb heo3
      go_wp2_with (first | (refine wpList_store_blk rfl 26 (.tmp 4) (.tmp 46) rfl w.heap.size 26 _ _ rfl rfl HN3.out rfl netI (by simp [Value.oneCell']) ?_; intro wz hZ gz; have z0 : wz.cell? ⟨w.heap.size, 0, none⟩ = some (.int .u64 sent) := hZ.cell 0; have z1 : wz.cell? ⟨w.heap.size, 1, none⟩ = some (.slice (some ⟨gr, 0, none⟩) m c2) := hZ.cell 1; have hDz := HD.out.kept gz (by omega); have f4 : wz.frozen? ⟨gr, dn.length * 5 + 4, none⟩ = false := World.ownsRow.frozenAt hDz.row _; have hcz := hDz.row.cell (i := dn.length) (e := e) (by rw [List.getElem?_append_right (Nat.le_refl _)]; simp); have c4 := hcz.2.2.2.2; have c3 := hcz.2.2.2.1; rw [HKA.out] at c3; have ho := hDz.own e (by simp); rw [HKA.out] at ho; have fk : wz.frozen? ⟨k, a, none⟩ = false := World.ownsRow.frozenAt ho a; have ck : wz.cell? ⟨k, a, none⟩ = some (.int .u8 (bb0.toNat : Int)) := (by rw [World.ownsRow.cellAt ho a (by omega), List.getElem?_map, HBB.out, List.getD_eq_getElem?_getD, List.getElem?_eq_getElem (by have := (OwnB.rd ho).len; omega)]; rfl); obtain ⟨hD5, hg5⟩ := hDz.flag; obtain ⟨hD6, hg6⟩ := hD5.byte (e := ⟨⟨e.p.num, e.p.frm, e.p.to, e.p.bs, true⟩, e.A, e.n, e.c⟩) HKA.out a (bb0 ^^^ y); have HR9 := Lib.hid (((HR3.out.apart gz (by omega)).apart hg5 (by omega)).apart hg6 (by omega)); have HB9 := Lib.hid (bl_gr (bl_gr (bl_gr HB3.out gz (Nat.le_refl _)) hg5 (by omega)) hg6 (by omega)); have HD9 := Lib.hid hD6; clear hZ gz hDz hcz ho hD5 hg5 hD6 hg6) | (rw [HYI.out, u8_xor_nat _ _ bb0.toNat_lt y.toNat_lt, ← UInt8.toNat_xor]; refine wpList_store_blk rfl 26 (.tmp 8) (.tmp 64) rfl (w.heap.size + 1) 26 _ _ rfl rfl HR9.out rfl netI (by simp [Value.oneCell']) ?_; intro wy hY gy))
      have hrd9 : LP.rd wy (fun b => w.heap.size ≤ b) (some ⟨gr, 0, none⟩) m RR.2 := by
        have h9 := (HD9.out.kept gy (by omega)).rd (F := (fun b => w.heap.size ≤ b)) (fun b hb => by show w.heap.size ≤ b; omega)
        rw [HE9.out.2]
        have hq : List.map El.p (dn ++ (⟨⟨e.p.num, e.p.frm, e.p.to, e.p.bs.set a (bb0 ^^^ y), true⟩, some ⟨k, 0, none⟩, e.n, e.c⟩ : El) :: rs) = ps.set dn.length (spoiled p1 ((a : Int).toNat) y) := by
          rw [← HEP.out, ← HES.out, List.map_append, List.map_append, List.set_append_right _ _ (by rw [List.length_map]; exact Nat.le_refl _), List.length_map, Nat.sub_self, HBB.out]
          rfl
        rw [← hq]
        exact h9
      exact bodyPost_ret (res2 Try.results58 rfl rfl hY Try.underlying26 rfl netI) rfl ⟨some ⟨gr, 0, none⟩, m, ⟨c2, by rw [HE9.out.1, HE9.out.2]; rfl⟩, hrd9, bl_gr HB9.out gy (by omega)⟩
end Go.Proofs.Ytnbcffnhgijmcaa
/- The references' answers are the program's where the net is right; where it is not, Op.run's are plain. -/
namespace Go.Proofs.Ytnbcffnhgijmcaa
open Go.RowKit
theorem send_eqE {sent : Int} {ps : List PC} (h : chkB sent ps = true) (f t : Int) (bs : List UInt8) : sendE sent ps f t bs = rsendE sent ps f t bs := by
  unfold sendE rsendE; rw [h, if_pos rfl]
theorem send_eqR {sent : Int} {ps : List PC} (h : chkB sent ps = true) (f t : Int) (bs : List UInt8) : sendR sent ps f t bs = rsendR sent ps f t bs := by
  unfold sendR
  rw [send_eqE h]
  unfold rsendR rsendE withR
  cases pairB f t
  · simp
  · by_cases hl : 60000 < bs.length
    · simp [hl]
    · simp [hl]
theorem come_eqE {sent : Int} {ps : List PC} (h : chkB sent ps = true) (x : Int) : comeE sent ps x = rcomeE ps x := by
  unfold comeE rcomeE; rw [h, if_pos rfl]
theorem come_eqR {sent : Int} {ps : List PC} (h : chkB sent ps = true) (x : Int) : comeR sent ps x = rcomeR sent ps x := by
  unfold comeR
  rw [come_eqE h]
  unfold rcomeR rcomeE
  cases hasB ps x <;> simp
theorem come_eqP {sent : Int} {ps : List PC} (h : chkB sent ps = true) (x : Int) : comeP sent ps x = rcomeP ps x := by
  unfold comeP
  rw [come_eqE h]
  unfold rcomeP rcomeE
  cases hasB ps x <;> simp
theorem drop_eqE {sent : Int} {ps : List PC} (h : chkB sent ps = true) (f t : Int) : dropE sent ps f t = rdropE f t := by
  unfold dropE rdropE; rw [h, if_pos rfl]
theorem drop_eqR {sent : Int} {ps : List PC} (h : chkB sent ps = true) (f t : Int) : dropR sent ps f t = rdropR sent ps f t := by
  unfold dropR
  rw [drop_eqE h]
  unfold rdropR rdropE
  cases pairB f t <;> simp
theorem drop_eqG {sent : Int} {ps : List PC} (h : chkB sent ps = true) (f t : Int) : dropG sent ps f t = goneI f t ps := by
  unfold dropG
  rw [drop_eqE h]
  unfold rdropE goneI
  cases pairB f t <;> simp
theorem twin_eqE {sent : Int} {ps : List PC} (h : chkB sent ps = true) (x : Int) : twinE sent ps x = rtwinE sent ps x := by
  unfold twinE rtwinE; rw [h, if_pos rfl]
theorem twin_eqR {sent : Int} {ps : List PC} (h : chkB sent ps = true) (x : Int) : twinR sent ps x = rtwinR sent ps x := by
  unfold twinR
  rw [twin_eqE h]
  unfold rtwinR rtwinE withR
  cases hasB ps x <;> simp
theorem spoil_eqE {sent : Int} {ps : List PC} (h : chkB sent ps = true) (x a : Int) (y : UInt8) : spoilE sent ps x a y = rspoilE ps x a y := by
  unfold spoilE rspoilE; rw [h, if_pos rfl]
theorem spoil_eqR {sent : Int} {ps : List PC} (h : chkB sent ps = true) (x a : Int) (y : UInt8) : spoilR sent ps x a y = rspoilR sent ps x a y := by
  unfold spoilR
  rw [spoil_eqE h]
  rfl
/-- on a net that is not right every op tells one error, and nothing else -/
theorem run_wrong {sent : Int} {ps : List PC} (h : chkB sent ps = false) (o : OpC) : runT o sent ps = ⟨0, [], 0, zeroPC, 0, 340⟩ := by
  have a1 : ∀ f t bs, sendE sent ps f t bs = 340 := fun f t bs => by unfold sendE; rw [h]; rfl
  have a2 : ∀ f t bs, sendR sent ps f t bs = (0, []) := fun f t bs => by unfold sendR; rw [a1]; rfl
  have b1 : ∀ x, comeE sent ps x = 340 := fun x => by unfold comeE; rw [h]; rfl
  have b2 : ∀ x, comeR sent ps x = (0, []) := fun x => by unfold comeR; rw [b1]; rfl
  have b3 : ∀ x, comeP sent ps x = zeroPC := fun x => by unfold comeP; rw [b1]; rfl
  have c1 : ∀ f t, dropE sent ps f t = 340 := fun f t => by unfold dropE; rw [h]; rfl
  have c2 : ∀ f t, dropR sent ps f t = (0, []) := fun f t => by unfold dropR; rw [c1]; rfl
  have c3 : ∀ f t, dropG sent ps f t = 0 := fun f t => by unfold dropG; rw [c1]; rfl
  have d1 : ∀ x, twinE sent ps x = 340 := fun x => by unfold twinE; rw [h]; rfl
  have d2 : ∀ x, twinR sent ps x = (0, []) := fun x => by unfold twinR; rw [d1]; rfl
  have e1 : ∀ x a y, spoilE sent ps x a y = 340 := fun x a y => by unfold spoilE; rw [h]; rfl
  have e2 : ∀ x a y, spoilR sent ps x a y = (0, []) := fun x a y => by unfold spoilR; rw [e1]; rfl
  unfold runT
  simp only [a1, a2, b1, b2, b3, c1, c2, c3, d1, d2, e1, e2]
  repeat' split
  all_goals rfl
end Go.Proofs.Ytnbcffnhgijmcaa
/- net.Same's test of two parcels. Conditions: the parcels' bytes read so. -/
namespace Go.Proofs.Ytnbcffnhgijmcaa
open Go.RowKit
set_option maxRecDepth 100000 in
set_option maxHeartbeats 4000000 in
theorem samec_any (a b : PC) (A : Option Addr) (n c : Nat) (B : Option Addr) (m d : Nat) (w : World) (ha : RdB w A n a.bs) (hb : RdB w B m b.bs) :
    Calls Try.prog 60 #[.agg #[.int .u64 a.num, .int .i64 a.frm, .int .i64 a.to, .slice A n c, .bool a.sp], .agg #[.int .u64 b.num, .int .i64 b.frm, .int .i64 b.to, .slice B m d, .bool b.sp]] w fun e w' => e = .returned (.bool (sameP a b)) ∧ Below w.heap.size w w' := by
  obtain ⟨r, hr⟩ : ∃ r, r = sameP a b := ⟨_, rfl⟩
  rw [← hr]
  have HR := Lib.hid hr
  clear hr
  have bb := Below.refl w.heap.size w
  have bA := Blk.new w 29 #[.int .u64 a.num, .int .i64 a.frm, .int .i64 a.to, .slice A n c, .bool a.sp]
  replace bb := bl_al bb (.cells #[.int .u64 a.num, .int .i64 a.frm, .int .i64 a.to, .slice A n c, .bool a.sp] 29)
  replace bA := bA.ca (bl_al (Below.refl _ _) (.cells #[.int .u64 b.num, .int .i64 b.frm, .int .i64 b.to, .slice B m d, .bool b.sp] 29))
  have bB : Blk ((w.alloc (.cells #[.int .u64 a.num, .int .i64 a.frm, .int .i64 a.to, .slice A n c, .bool a.sp] 29)).alloc (.cells #[.int .u64 b.num, .int .i64 b.frm, .int .i64 b.to, .slice B m d, .bool b.sp] 29)) (w.heap.size + 1) 29 #[.int .u64 b.num, .int .i64 b.frm, .int .i64 b.to, .slice B m d, .bool b.sp] := Blk.mk' (by simp only [World.size_alloc])
  replace bb := bl_al bb (.cells #[.int .u64 b.num, .int .i64 b.frm, .int .i64 b.to, .slice B m d, .bool b.sp] 29)
  have hsz : w.heap.size + 2 ≤ ((w.alloc (.cells #[.int .u64 a.num, .int .i64 a.frm, .int .i64 a.to, .slice A n c, .bool a.sp] 29)).alloc (.cells #[.int .u64 b.num, .int .i64 b.frm, .int .i64 b.to, .slice B m d, .bool b.sp] 29)).heap.size := by simp only [World.size_alloc]; omega
  have h1 := (ha.below bb).str c
  have h2 := (hb.below bb).str d
  clear ha hb
  have HBB := Lib.hid bb
  have x0 : ((w.alloc (.cells #[.int .u64 a.num, .int .i64 a.frm, .int .i64 a.to, .slice A n c, .bool a.sp] 29)).alloc (.cells #[.int .u64 b.num, .int .i64 b.frm, .int .i64 b.to, .slice B m d, .bool b.sp] 29)).cell? ⟨w.heap.size, 0, none⟩ = some (.int .u64 a.num) := bA.cell 0
  have x1 : ((w.alloc (.cells #[.int .u64 a.num, .int .i64 a.frm, .int .i64 a.to, .slice A n c, .bool a.sp] 29)).alloc (.cells #[.int .u64 b.num, .int .i64 b.frm, .int .i64 b.to, .slice B m d, .bool b.sp] 29)).cell? ⟨w.heap.size, 1, none⟩ = some (.int .i64 a.frm) := bA.cell 1
  have x2 : ((w.alloc (.cells #[.int .u64 a.num, .int .i64 a.frm, .int .i64 a.to, .slice A n c, .bool a.sp] 29)).alloc (.cells #[.int .u64 b.num, .int .i64 b.frm, .int .i64 b.to, .slice B m d, .bool b.sp] 29)).cell? ⟨w.heap.size, 2, none⟩ = some (.int .i64 a.to) := bA.cell 2
  have x3 : ((w.alloc (.cells #[.int .u64 a.num, .int .i64 a.frm, .int .i64 a.to, .slice A n c, .bool a.sp] 29)).alloc (.cells #[.int .u64 b.num, .int .i64 b.frm, .int .i64 b.to, .slice B m d, .bool b.sp] 29)).cell? ⟨w.heap.size, 3, none⟩ = some (.slice A n c) := bA.cell 3
  have x4 : ((w.alloc (.cells #[.int .u64 a.num, .int .i64 a.frm, .int .i64 a.to, .slice A n c, .bool a.sp] 29)).alloc (.cells #[.int .u64 b.num, .int .i64 b.frm, .int .i64 b.to, .slice B m d, .bool b.sp] 29)).cell? ⟨w.heap.size, 4, none⟩ = some (.bool a.sp) := bA.cell 4
  have y0 : ((w.alloc (.cells #[.int .u64 a.num, .int .i64 a.frm, .int .i64 a.to, .slice A n c, .bool a.sp] 29)).alloc (.cells #[.int .u64 b.num, .int .i64 b.frm, .int .i64 b.to, .slice B m d, .bool b.sp] 29)).cell? ⟨w.heap.size + 1, 0, none⟩ = some (.int .u64 b.num) := bB.cell 0
  have y1 : ((w.alloc (.cells #[.int .u64 a.num, .int .i64 a.frm, .int .i64 a.to, .slice A n c, .bool a.sp] 29)).alloc (.cells #[.int .u64 b.num, .int .i64 b.frm, .int .i64 b.to, .slice B m d, .bool b.sp] 29)).cell? ⟨w.heap.size + 1, 1, none⟩ = some (.int .i64 b.frm) := bB.cell 1
  have y2 : ((w.alloc (.cells #[.int .u64 a.num, .int .i64 a.frm, .int .i64 a.to, .slice A n c, .bool a.sp] 29)).alloc (.cells #[.int .u64 b.num, .int .i64 b.frm, .int .i64 b.to, .slice B m d, .bool b.sp] 29)).cell? ⟨w.heap.size + 1, 2, none⟩ = some (.int .i64 b.to) := bB.cell 2
  have y3 : ((w.alloc (.cells #[.int .u64 a.num, .int .i64 a.frm, .int .i64 a.to, .slice A n c, .bool a.sp] 29)).alloc (.cells #[.int .u64 b.num, .int .i64 b.frm, .int .i64 b.to, .slice B m d, .bool b.sp] 29)).cell? ⟨w.heap.size + 1, 3, none⟩ = some (.slice B m d) := bB.cell 3
  have y4 : ((w.alloc (.cells #[.int .u64 a.num, .int .i64 a.frm, .int .i64 a.to, .slice A n c, .bool a.sp] 29)).alloc (.cells #[.int .u64 b.num, .int .i64 b.frm, .int .i64 b.to, .slice B m d, .bool b.sp] 29)).cell? ⟨w.heap.size + 1, 4, none⟩ = some (.bool b.sp) := bB.cell 4
  clear bA bB bb hsz
  go_enter Try.func60, Try.ntmps60
  cases d0 : (a.num == b.num)
  · skip
    go_wp2
    go_ret
    exact ⟨ret_bool (by rw [HR.out]; unfold sameP; rw [d0]; simp), HBB.out⟩
  · skip
    cases d1 : (a.frm == b.frm)
    · skip
      go_wp2
      go_ret
      exact ⟨ret_bool (by rw [HR.out]; unfold sameP; rw [d0, d1]; simp), HBB.out⟩
    · skip
      cases d2 : (a.to == b.to)
      · skip
        go_wp2
        go_ret
        exact ⟨ret_bool (by rw [HR.out]; unfold sameP; rw [d0, d1, d2]; simp), HBB.out⟩
      · skip
        cases d3 : (a.sp == b.sp)
        · skip
          go_wp2
          go_ret
          exact ⟨ret_bool (by rw [HR.out]; unfold sameP; rw [d0, d1, d2, d3]; simp), HBB.out⟩
        · skip
          go_wp2
          go_ret
          exact ⟨ret_bool (by rw [HR.out]; unfold sameP; rw [d0, d1, d2, d3]; simp), HBB.out⟩
end Go.Proofs.Ytnbcffnhgijmcaa
/- slices.EqualFunc over parcels; net.Same. Conditions: the slices read as these parcels. -/
namespace Go.Proofs.Ytnbcffnhgijmcaa
open Go.RowKit
set_option maxRecDepth 100000 in
set_option maxHeartbeats 8000000 in
theorem eqf_any (A : Option Addr) (m c : Nat) (ps : List PC) (B : Option Addr) (l d : Nat) (qs : List PC) (w : World) (h : LP.rd w AllB A m ps) (k : LP.rd w AllB B l qs) (hm : m ≤ 9223372036854775807) :
    Calls Try.prog 59 #[.slice A m c, .slice B l d, .func (.func 60) #[] #[]] w fun e w' => e = .returned (.bool (decide (ps = qs))) ∧ Below w.heap.size w w' := by
  have HL := Lib.hid h.1
  have HK := Lib.hid k.1
  obtain ⟨r, hr⟩ : ∃ r, r = decide (ps = qs) := ⟨_, rfl⟩
  rw [← hr]
  have HR := Lib.hid hr
  clear hr
  by_cases hml : m = l
  case neg =>
    have d2 : ((m : Int) != (l : Int)) = true := by simp; omega
    have HML := Lib.hid hml
    clear hml h k
    go_enter Try.func59, Try.ntmps59
    go_wp2
    go_ret
    exact ⟨ret_bool (by rw [HR.out, decide_eq_false (fun e => HML.out (by rw [← HL.out, ← HK.out, e]))]), Below.refl _ _⟩
  subst hml
  have d2 : ((m : Int) != (m : Int)) = false := by simp
  go_enter Try.func59, Try.ntmps59
  go_wp2_with fail
  clear d2
  go_loopg [17] m (fun g a wr => ∃ i : Nat, i + g = m ∧ a = .int .i64 i ∧ ps.take i = qs.take i ∧ Below w.heap.size w wr)
  case atStart => exact ⟨0, by omega, rfl, rfl, Below.refl _ _⟩
  case round =>
    obtain ⟨i, hig, rfl, heq, bb⟩ := hrel
    have HE := Lib.hid heq
    have HBB := Lib.hid bb
    clear heq
    by_cases hlt : i < m
    · have hi1 : (i : Int) < (m : Int) := by omega
      obtain ⟨p, q, B', n', c', rfl, hx, s1⟩ := LP_at (Lay.rd_below h bb) hlt
      obtain ⟨p2, q2, B2, n2, c2, rfl, hx2, s2⟩ := LP_at (Lay.rd_below k bb) hlt
      have e0 := s1.c0
      have e1 := s1.c1
      have e2 := s1.c2
      have e3 := s1.c3
      have e4 := s1.c4
      have fl := s2.lt
      have f0 := s2.c0
      have f1 := s2.c1
      have f2 := s2.c2
      have f3 := s2.c3
      have f4 := s2.c4
      have HRB := Lib.hid s1.rb
      have HRB2 := Lib.hid s2.rb
      have HX := Lib.hid hx
      have HX2 := Lib.hid hx2
      have HF0 := Lib.hid f0
      have HF1 := Lib.hid f1
      have HF2 := Lib.hid f2
      have HF3 := Lib.hid f3
      have HF4 := Lib.hid f4
      clear hx hx2 s1 s2 bb f0 f1 f2 f3 f4
      go_wp2_with (first | (refine wpList_store_blk rfl 29 (.tmp 8) (.tmp 21) rfl wr.heap.size 29 _ _ rfl rfl (Blk.new _ _ _) rfl parcelI (by simp [Value.oneCell']) ?_; intro wy hY gy; have T1 := bl_gr (bl_al (Below.refl wr.heap.size wr) _) gy (Nat.le_refl _); have f0 := cell_ca HF0.out fl T1; have f1 := cell_ca HF1.out fl T1; have f2 := cell_ca HF2.out fl T1; have f3 := cell_ca HF3.out fl T1; have f4 := cell_ca HF4.out fl T1) | (refine wpList_store_blk rfl 29 (.tmp 9) (.tmp 25) rfl wy.heap.size 29 _ _ rfl rfl (Blk.new _ _ _) rfl parcelI (by simp [Value.oneCell']) ?_; intro wz hZ gz; have T2 := bl_gr (bl_al (Below.refl wy.heap.size wy) _) gz (Nat.le_refl _); have hY2 := hY.ca T2; have u0 : wz.cell? ⟨wr.heap.size, 0, none⟩ = some (.int .u64 q.num) := hY2.cell 0; have u1 : wz.cell? ⟨wr.heap.size, 1, none⟩ = some (.int .i64 q.frm) := hY2.cell 1; have u2 : wz.cell? ⟨wr.heap.size, 2, none⟩ = some (.int .i64 q.to) := hY2.cell 2; have u3 : wz.cell? ⟨wr.heap.size, 3, none⟩ = some (.slice B' n' c') := hY2.cell 3; have u4 : wz.cell? ⟨wr.heap.size, 4, none⟩ = some (.bool q.sp) := hY2.cell 4; have v0 : wz.cell? ⟨wy.heap.size, 0, none⟩ = some (.int .u64 q2.num) := hZ.cell 0; have v1 : wz.cell? ⟨wy.heap.size, 1, none⟩ = some (.int .i64 q2.frm) := hZ.cell 1; have v2 : wz.cell? ⟨wy.heap.size, 2, none⟩ = some (.int .i64 q2.to) := hZ.cell 2; have v3 : wz.cell? ⟨wy.heap.size, 3, none⟩ = some (.slice B2 n2 c2) := hZ.cell 3; have v4 : wz.cell? ⟨wy.heap.size, 4, none⟩ = some (.bool q2.sp) := hZ.cell 4; have HT3 := Lib.hid (bl_ca T1 T2); clear f0 f1 f2 f3 f4 hY hY2 hZ gy gz T1 T2))
      have HCA := Lib.hid (samec_any q q2 B' n' c' B2 n2 c2 wz (HRB.out.below HT3.out) (HRB2.out.below HT3.out))
      clear e0 e1 e2 e3 e4
      cases hq : sameP q q2
      · rw [hq] at HCA
        have HF := Lib.hid (show decide (ps = qs) = false from decide_eq_false (fun e => by
          have h1 := HX.out
          rw [e, HX2.out] at h1
          injection h1 with h1
          rw [sameP_iff.2 h1.symm] at hq
          cases hq))
        clear hq
        refine HCA.out.mono ?_
        rintro e w5 ⟨rfl, q5⟩
        have HB5 := Lib.hid (bl_ca (bl_ca HBB.out HT3.out) q5)
        clear q5 HCA
        go_wp2
        go_ret
        exact ⟨ret_bool (by rw [HR.out, HF.out]), HB5.out⟩
      · rw [hq] at HCA
        have HF := Lib.hid (show ps.take (i + 1) = qs.take (i + 1) from by
          rw [List.take_add_one, List.take_add_one, HE.out, HX.out, HX2.out, sameP_iff.1 hq])
        clear hq
        refine HCA.out.mono ?_
        rintro e w5 ⟨rfl, q5⟩
        have HB5 := Lib.hid (bl_ca (bl_ca HBB.out HT3.out) q5)
        clear q5 HCA
        go_wp2
        go_roundg (gk - 1)
        · exact ⟨i + 1, by omega, by go_num, HF.out, HB5.out⟩
        · omega
    · obtain rfl : i = m := by omega
      have hi1 : (i : Int) ≤ (i : Int) := by omega
      clear bb
      go_wp2
      go_ret
      exact ⟨ret_bool (by rw [HR.out, decide_eq_true (by have h1 := HE.out; rwa [List.take_of_length_le (by rw [HL.out]; exact Nat.le_refl _), List.take_of_length_le (by rw [HK.out]; exact Nat.le_refl _)] at h1)]), HBB.out⟩
set_option maxRecDepth 100000 in
set_option maxHeartbeats 4000000 in
theorem nsame_any (s : Int) (A : Option Addr) (m c : Nat) (ps : List PC) (t : Int) (B : Option Addr) (l d : Nat) (qs : List PC) (w : World) (h : LP.rd w AllB A m ps) (k : LP.rd w AllB B l qs) (hm : m ≤ 9223372036854775807) :
    Calls Try.prog 34 #[.agg #[.int .u64 s, .slice A m c], .agg #[.int .u64 t, .slice B l d]] w fun e w' => e = .returned (.bool (decide (s = t ∧ ps = qs))) ∧ Below w.heap.size w w' := by
  obtain ⟨r, hr⟩ : ∃ r, r = decide (s = t ∧ ps = qs) := ⟨_, rfl⟩
  rw [← hr]
  have HR := Lib.hid hr
  clear hr
  have bb := Below.refl w.heap.size w
  have bN := Blk.new w 26 #[.int .u64 s, .slice A m c]
  replace bb := bl_al bb (.cells #[.int .u64 s, .slice A m c] 26)
  replace bN := bN.ca (bl_al (Below.refl _ _) (.cells #[.int .u64 t, .slice B l d] 26))
  have bM : Blk ((w.alloc (.cells #[.int .u64 s, .slice A m c] 26)).alloc (.cells #[.int .u64 t, .slice B l d] 26)) (w.heap.size + 1) 26 #[.int .u64 t, .slice B l d] := Blk.mk' (by simp only [World.size_alloc])
  replace bb := bl_al bb (.cells #[.int .u64 t, .slice B l d] 26)
  have hsz : w.heap.size + 2 ≤ ((w.alloc (.cells #[.int .u64 s, .slice A m c] 26)).alloc (.cells #[.int .u64 t, .slice B l d] 26)).heap.size := by simp only [World.size_alloc]; omega
  by_cases hst : s = t
  · have d1 : (s == t) = true := by simpa using hst
    have HST := Lib.hid hst
    have HE := Lib.hid (eqf_any A m c ps B l d qs _ (Lay.rd_below h bb) (Lay.rd_below k bb) hm)
    have n0 : ((w.alloc (.cells #[.int .u64 s, .slice A m c] 26)).alloc (.cells #[.int .u64 t, .slice B l d] 26)).cell? ⟨w.heap.size, 0, none⟩ = some (.int .u64 s) := bN.cell 0
    have n1 : ((w.alloc (.cells #[.int .u64 s, .slice A m c] 26)).alloc (.cells #[.int .u64 t, .slice B l d] 26)).cell? ⟨w.heap.size, 1, none⟩ = some (.slice A m c) := bN.cell 1
    have n2 : ((w.alloc (.cells #[.int .u64 s, .slice A m c] 26)).alloc (.cells #[.int .u64 t, .slice B l d] 26)).cell? ⟨w.heap.size + 1, 0, none⟩ = some (.int .u64 t) := bM.cell 0
    have n3 : ((w.alloc (.cells #[.int .u64 s, .slice A m c] 26)).alloc (.cells #[.int .u64 t, .slice B l d] 26)).cell? ⟨w.heap.size + 1, 1, none⟩ = some (.slice B l d) := bM.cell 1
    have HBB := Lib.hid bb
    clear hst h k bN bM bb
    go_enter Try.func34, Try.ntmps34
    go_wp2_with fail
    refine HE.out.mono ?_
    rintro e w2 ⟨rfl, q2⟩
    have HB2 := Lib.hid (bl_ca HBB.out q2)
    clear q2 n0 n1 n2 n3
    go_wp2
    go_ret
    exact ⟨ret_bool (by rw [HR.out]; simp [HST.out]), HB2.out⟩
  · have d1 : (s == t) = false := by simpa using hst
    have HST := Lib.hid hst
    have n0 : ((w.alloc (.cells #[.int .u64 s, .slice A m c] 26)).alloc (.cells #[.int .u64 t, .slice B l d] 26)).cell? ⟨w.heap.size, 0, none⟩ = some (.int .u64 s) := bN.cell 0
    have n2 : ((w.alloc (.cells #[.int .u64 s, .slice A m c] 26)).alloc (.cells #[.int .u64 t, .slice B l d] 26)).cell? ⟨w.heap.size + 1, 0, none⟩ = some (.int .u64 t) := bM.cell 0
    have HBB := Lib.hid bb
    clear hst h k bN bM bb
    go_enter Try.func34, Try.ntmps34
    go_wp2
    go_ret
    exact ⟨ret_bool (by rw [HR.out, decide_eq_false (fun e => HST.out e.1)]), HBB.out⟩
end Go.Proofs.Ytnbcffnhgijmcaa
/- bowspritref24.Right. Conditions: the slice reads as these parcels. -/
namespace Go.Proofs.Ytnbcffnhgijmcaa
open Go.RowKit
def lastN (ps : List PC) (i : Nat) : Int := if i = 0 then 0 else ((ps[i - 1]?).getD ⟨0, 0, 0, [], false⟩).num
theorem lastN_succ {ps : List PC} {i : Nat} {p : PC} (h : ps[i]? = some p) : lastN ps (i + 1) = p.num := by
  unfold lastN
  rw [if_neg (by omega), Nat.add_sub_cancel, h]; rfl
theorem go_false {sent : Int} {ps : List PC} {i : Nat} {p : PC} (h : ps[i]? = some p) (hp : parB sent (lastN ps i) p = false) : goB sent (lastN ps i) (ps.drop i) = false := by
  rw [drop_at h]
  unfold goB
  rw [hp]; rfl
theorem go_true {sent : Int} {ps : List PC} {i : Nat} {p : PC} (h : ps[i]? = some p) (hp : parB sent (lastN ps i) p = true) : goB sent (lastN ps i) (ps.drop i) = goB sent (lastN ps (i + 1)) (ps.drop (i + 1)) := by
  rw [drop_at h, lastN_succ h]
  show (parB sent (lastN ps i) p && goB sent p.num (ps.drop (i + 1))) = _
  rw [hp]; rfl
theorem go_end (sent last : Int) {ps : List PC} {i : Nat} (h : ps.length ≤ i) : goB sent last (ps.drop i) = true := by rw [List.drop_of_length_le h]; rfl
theorem rpair_v {f t : Int} {b : Bool} (h : pairB f t = b) (w : World) : Calls Try.prog 45 #[.int .i64 f, .int .i64 t] w fun e w' => e = .returned (.bool b) ∧ w' = w := by
  have := rpair_any f t w
  rw [h] at this
  exact this.mono fun _ _ h => ⟨h.1, h.2.symm⟩
set_option maxRecDepth 100000 in
set_option maxHeartbeats 32000000 in
theorem right_any (sent : Int) (A : Option Addr) (m c : Nat) (ps : List PC) (w : World) (h : LP.rd w AllB A m ps) (hm : m ≤ 9223372036854775807) :
    Calls Try.prog 33 #[.agg #[.int .u64 sent, .slice A m c]] w fun e w' => e = .returned (.bool (chkB sent ps)) ∧ Below w.heap.size w w' := by
  obtain ⟨r, hr⟩ : ∃ r, r = chkB sent ps := ⟨_, rfl⟩
  rw [← hr]
  have HL := Lib.hid h.1
  have HR := Lib.hid hr
  clear hr
  have bb := bl_al (Below.refl w.heap.size w) (.cells #[.int .u64 sent, .slice A m c] 26)
  have bN := Blk.new w 26 #[.int .u64 sent, .slice A m c]
  by_cases h1 : sent ≤ 1099511627776
  case neg =>
    have d1 : decide (1099511627776 < sent) = true := by simp; omega
    have HF := Lib.hid (show r = false from by rw [HR.out]; unfold chkB; rw [decide_eq_false h1]; rfl)
    clear h1 h
    go_enter Try.func33, Try.ntmps33
    go_wp2
    go_ret
    exact ⟨ret_bool HF.out.symm, bb⟩
  have d1 : decide (1099511627776 < sent) = false := by simp; omega
  by_cases h2 : m ≤ 20000
  case neg =>
    have d2 : (20000 : Int) < (m : Int) := by omega
    have HF := Lib.hid (show r = false from by rw [HR.out]; unfold chkB; rw [show decide ((ps.length : Int) ≤ 20000) = false from decide_eq_false (by have := HL.out; omega)]; simp)
    clear h1 h2 h
    go_enter Try.func33, Try.ntmps33
    go_wp2
    go_ret
    exact ⟨ret_bool HF.out.symm, bb⟩
  have d2 : (m : Int) ≤ 20000 := by omega
  have HG := Lib.hid (show r = goB sent (lastN ps 0) (ps.drop 0) from by rw [HR.out]; unfold chkB; rw [decide_eq_true h1, decide_eq_true (show (ps.length : Int) ≤ 20000 by have := HL.out; omega)]; rfl)
  clear h1
  go_enter Try.func33, Try.ntmps33
  go_wp2_with fail
  generalize w.alloc (.cells #[.int .u64 sent, .slice A m c] 26) = w1 at *
  clear d1
  go_loopg [17] m (fun g a wr => ∃ i : Nat, i + g = m ∧ a = .int .i64 i ∧ Hid (r = goB sent (lastN ps i) (ps.drop i)) ∧ (0 < i → 1 ≤ lastN ps i) ∧ Below w1.heap.size w1 wr)
  case atStart => exact ⟨0, by omega, rfl, HG, fun h => by omega, Below.refl _ _⟩
  case round =>
    obtain ⟨i, hig, rfl, HB, hpos, b0⟩ := hrel
    have HPOS := Lib.hid hpos
    clear hpos
    have HN := Lib.hid (bN.ca b0)
    have HBB := Lib.hid (bl_ca bb b0)
    have HB0 := Lib.hid b0
    by_cases hlt : i < m
    · have hi1 : (i : Int) < (m : Int) := by omega
      have hi2 : (i : Int) ≤ 20000 := by omega
      obtain ⟨ad, p, B, n', c', rfl, hx, s1⟩ := LP_at (Lay.rd_below (Lay.rd_below h bb) b0) hlt
      have e0 := s1.c0
      have e1 := s1.c1
      have e2 := s1.c2
      have e3 := s1.c3
      have e4 := s1.c4
      have hbl := s1.len
      have HX := Lib.hid hx
      have HBL := Lib.hid hbl
      obtain ⟨i1, hi1e⟩ : ∃ i1, i1 = i - 1 := ⟨_, rfl⟩
      have HI1 := Lib.hid hi1e
      have hi1m : i1 < m := by omega
      clear hi1e
      have HPV := Lib.hid (fun (wz : World) (q : Below wr.heap.size wr wz) => LP_at (Lay.rd_below (Lay.rd_below (Lay.rd_below h bb) b0) q) hi1m)
      clear hx s1 b0 hbl
      obtain ⟨pn, pf, pt, pb, psp⟩ := p
      dsimp only at e0 e1 e2 e3 e4 HBL
      have HST := Lib.hid (fun wz (hZ : Blk wz wr.heap.size 29 #[.int .u64 pn, .int .i64 pf, .int .i64 pt, .slice B n' c', .bool psp]) (q : Below wr.heap.size wr wz) => show wz.cell? ⟨w.heap.size, 0, none⟩ = some (.int .u64 sent) ∧ wz.cell? ⟨w.heap.size, 1, none⟩ = some (.slice (some ad) m c) ∧ wz.cell? ⟨wr.heap.size, 0, none⟩ = some (.int .u64 pn) ∧ wz.cell? ⟨wr.heap.size, 1, none⟩ = some (.int .i64 pf) ∧ wz.cell? ⟨wr.heap.size, 2, none⟩ = some (.int .i64 pt) ∧ wz.cell? ⟨wr.heap.size, 3, none⟩ = some (.slice B n' c') ∧ wz.cell? ⟨wr.heap.size, 4, none⟩ = some (.bool psp) from ⟨(HN.out.ca q).cell 0, (HN.out.ca q).cell 1, hZ.cell 0, hZ.cell 1, hZ.cell 2, hZ.cell 3, hZ.cell 4⟩)
      by_cases t1 : pn < 1
      case pos =>
        have d1 : decide (pn < 1) = true := decide_eq_true t1
        have HPR := Lib.hid (rpair_v (f := pf) (t := pt) rfl)
        have hlow : ¬ lastN ps i < pn := by exact (Nat.eq_zero_or_pos i).elim (fun h0 => by rw [h0]; unfold lastN; simp; omega) (fun h0 => by have := HPOS.out h0; omega)
        have HLO := Lib.hid hlow
        clear hlow t1
        have HF := Lib.hid (show r = false from by rw [HB.out]; exact go_false HX.out (by unfold parB; simp [HLO.out]))
        go_wp2_with (refine wpList_store_blk rfl 29 (.tmp 4) (.tmp 21) rfl wr.heap.size 29 _ _ rfl rfl (Blk.new _ _ _) rfl parcelI (by simp [Value.oneCell']) ?_; intro wz hZ gz; have T1 := bl_gr (bl_al (Below.refl wr.heap.size wr) _) gz (Nat.le_refl _); obtain ⟨s0, s1, x0, x1, x2, x3, x4⟩ := HST.out wz hZ T1; have HT1 := Lib.hid T1; clear hZ gz T1)
        try simp only [Act.put]
        go_quiet ((go_at_call 45; exact Calls.quiet_of_same (HPR.out _)))
        go_wp2
        go_ret
        exact ⟨ret_bool HF.out.symm, bl_dr (bl_ca HBB.out HT1.out) _⟩
      have d1 : decide (pn < 1) = false := decide_eq_false t1
      by_cases t2 : sent < pn
      case pos =>
        have d2 : decide (sent < pn) = true := decide_eq_true t2
        have HPR := Lib.hid (rpair_v (f := pf) (t := pt) rfl)
        have HLO := Lib.hid (show ¬ pn ≤ sent by omega)
        clear t1 t2
        have HF := Lib.hid (show r = false from by rw [HB.out]; exact go_false HX.out (by unfold parB; simp [HLO.out]))
        go_wp2_with (refine wpList_store_blk rfl 29 (.tmp 4) (.tmp 21) rfl wr.heap.size 29 _ _ rfl rfl (Blk.new _ _ _) rfl parcelI (by simp [Value.oneCell']) ?_; intro wz hZ gz; have T1 := bl_gr (bl_al (Below.refl wr.heap.size wr) _) gz (Nat.le_refl _); obtain ⟨s0, s1, x0, x1, x2, x3, x4⟩ := HST.out wz hZ T1; have HT1 := Lib.hid T1; clear hZ gz T1)
        try simp only [Act.put]
        go_quiet ((go_at_call 45; exact Calls.quiet_of_same (HPR.out _)))
        go_wp2
        go_ret
        exact ⟨ret_bool HF.out.symm, bl_dr (bl_ca HBB.out HT1.out) _⟩
      have d2 : decide (sent < pn) = false := decide_eq_false t2
      have h1n : 1 ≤ pn := by omega
      have hns : pn ≤ sent := by omega
      rcases Nat.eq_zero_or_pos i with hi0 | hi0
      · have d3c : decide (0 < i) = false := by subst hi0; rfl
        have HI0 := Lib.hid hi0
        clear hi0
        have HLOW := Lib.hid (show lastN ps i < pn from by rw [HI0.out]; unfold lastN; simp; omega)
        cases hp : pairB pf pt
        case false =>
          have HPR := Lib.hid (rpair_v hp)
          have HPP := Lib.hid hp
          clear hp t1 t2 h1n hns
          have HF := Lib.hid (show r = false from by rw [HB.out]; exact go_false HX.out (by unfold parB; simp [HPP.out]))
          go_wp2_with (refine wpList_store_blk rfl 29 (.tmp 4) (.tmp 21) rfl wr.heap.size 29 _ _ rfl rfl (Blk.new _ _ _) rfl parcelI (by simp [Value.oneCell']) ?_; intro wz hZ gz; have T1 := bl_gr (bl_al (Below.refl wr.heap.size wr) _) gz (Nat.le_refl _); obtain ⟨s0, s1, x0, x1, x2, x3, x4⟩ := HST.out wz hZ T1; have HT1 := Lib.hid T1; clear hZ gz T1)
          try simp only [Act.put]
          go_quiet ((go_at_call 45; exact Calls.quiet_of_same (HPR.out _)))
          go_wp2
          go_ret
          exact ⟨ret_bool HF.out.symm, bl_dr (bl_ca HBB.out HT1.out) _⟩
        have HPR := Lib.hid (rpair_v hp)
        have HPP := Lib.hid hp
        clear hp
        by_cases t5 : 60000 < n'
        case pos =>
          have d5 : (60000 : Int) < (n' : Int) := by omega
          have HNB := Lib.hid (show decide ((pb.length : Int) ≤ 60000) = false from decide_eq_false (by have := HBL.out; omega))
          clear t1 t2 h1n hns
          have HF := Lib.hid (show r = false from by rw [HB.out]; exact go_false HX.out (by unfold parB; simp only [HNB.out]; simp))
          go_wp2_with (refine wpList_store_blk rfl 29 (.tmp 4) (.tmp 21) rfl wr.heap.size 29 _ _ rfl rfl (Blk.new _ _ _) rfl parcelI (by simp [Value.oneCell']) ?_; intro wz hZ gz; have T1 := bl_gr (bl_al (Below.refl wr.heap.size wr) _) gz (Nat.le_refl _); obtain ⟨s0, s1, x0, x1, x2, x3, x4⟩ := HST.out wz hZ T1; have HT1 := Lib.hid T1; clear hZ gz T1)
          try simp only [Act.put]
          go_quiet ((go_at_call 45; exact Calls.quiet_of_same (HPR.out _)))
          go_wp2
          go_ret
          exact ⟨ret_bool HF.out.symm, bl_dr (bl_ca HBB.out HT1.out) _⟩
        have d5 : decide ((60000 : Int) < (n' : Int)) = false := by simp; omega
        have HNB := Lib.hid (show decide ((pb.length : Int) ≤ 60000) = true from decide_eq_true (by have := HBL.out; omega))
        have HNS := Lib.hid hns
        have H1N := Lib.hid h1n
        cases psp
        case false =>
          clear t1 t2 hns
          have HF := Lib.hid (show r = goB sent (lastN ps (i + 1)) (ps.drop (i + 1)) from by rw [HB.out]; exact go_true HX.out (by unfold parB; simp only [decide_eq_true HLOW.out, decide_eq_true HNS.out, HPP.out, HNB.out]; simp))
          have HLN := Lib.hid (show 1 ≤ lastN ps (i + 1) from by rw [lastN_succ HX.out]; dsimp only; omega)
          go_wp2_with (refine wpList_store_blk rfl 29 (.tmp 4) (.tmp 21) rfl wr.heap.size 29 _ _ rfl rfl (Blk.new _ _ _) rfl parcelI (by simp [Value.oneCell']) ?_; intro wz hZ gz; have T1 := bl_gr (bl_al (Below.refl wr.heap.size wr) _) gz (Nat.le_refl _); obtain ⟨s0, s1, x0, x1, x2, x3, x4⟩ := HST.out wz hZ T1; have HT1 := Lib.hid T1; clear hZ gz T1)
          try simp only [Act.put]
          go_quiet ((go_at_call 45; exact Calls.quiet_of_same (HPR.out _)))
          go_wp2
          go_roundg (gk - 1)
          · exact ⟨i + 1, by omega, by go_num, HF, fun _ => HLN.out, bl_dr (bl_ca HB0.out HT1.out) _⟩
          · omega
        rcases Nat.eq_zero_or_pos n' with hn0 | hn0
        · have HZ := Lib.hid (show ¬ (0 : Int) < (pb.length : Int) from by have := HBL.out; omega)
          subst hn0
          clear t1 t2 hns h1n
          have HF := Lib.hid (show r = false from by rw [HB.out]; exact go_false HX.out (by unfold parB; simp only [decide_eq_false HZ.out]; simp))
          go_wp2_with (refine wpList_store_blk rfl 29 (.tmp 4) (.tmp 21) rfl wr.heap.size 29 _ _ rfl rfl (Blk.new _ _ _) rfl parcelI (by simp [Value.oneCell']) ?_; intro wz hZ gz; have T1 := bl_gr (bl_al (Below.refl wr.heap.size wr) _) gz (Nat.le_refl _); obtain ⟨s0, s1, x0, x1, x2, x3, x4⟩ := HST.out wz hZ T1; have HT1 := Lib.hid T1; clear hZ gz T1)
          try simp only [Act.put]
          go_quiet ((go_at_call 45; exact Calls.quiet_of_same (HPR.out _)))
          go_wp2
          go_ret
          exact ⟨ret_bool HF.out.symm, bl_dr (bl_ca HBB.out HT1.out) _⟩
        · have HZ := Lib.hid (show (0 : Int) < (pb.length : Int) from by have := HBL.out; omega)
          have hn1 : ((n' : Int) == 0) = false := by simp; omega
          clear t1 t2 hns
          have HF := Lib.hid (show r = goB sent (lastN ps (i + 1)) (ps.drop (i + 1)) from by rw [HB.out]; exact go_true HX.out (by unfold parB; simp only [decide_eq_true HLOW.out, decide_eq_true HNS.out, HPP.out, HNB.out, decide_eq_true HZ.out]; simp))
          have HLN := Lib.hid (show 1 ≤ lastN ps (i + 1) from by rw [lastN_succ HX.out]; dsimp only; omega)
          go_wp2_with (refine wpList_store_blk rfl 29 (.tmp 4) (.tmp 21) rfl wr.heap.size 29 _ _ rfl rfl (Blk.new _ _ _) rfl parcelI (by simp [Value.oneCell']) ?_; intro wz hZ gz; have T1 := bl_gr (bl_al (Below.refl wr.heap.size wr) _) gz (Nat.le_refl _); obtain ⟨s0, s1, x0, x1, x2, x3, x4⟩ := HST.out wz hZ T1; have HT1 := Lib.hid T1; clear hZ gz T1)
          try simp only [Act.put]
          go_quiet ((go_at_call 45; exact Calls.quiet_of_same (HPR.out _)))
          go_wp2
          go_roundg (gk - 1)
          · exact ⟨i + 1, by omega, by go_num, HF, fun _ => HLN.out, bl_dr (bl_ca HB0.out HT1.out) _⟩
          · omega
      · have d3 : (0 : Int) < (i : Int) := by omega
        obtain ⟨pv0, hpv0⟩ : ∃ pv0, ps[i1]? = some pv0 := ⟨_, List.getElem?_eq_getElem (by have := HL.out; omega)⟩
        have HPV0 := Lib.hid hpv0
        have HLV := Lib.hid (show lastN ps i = pv0.num from by unfold lastN; rw [if_neg (by omega), ← HI1.out, hpv0]; rfl)
        clear hpv0
        by_cases t3 : pn ≤ pv0.num
        case pos =>
          have d4 : decide (pn ≤ pv0.num) = true := decide_eq_true t3
          have HPR := Lib.hid (rpair_v (f := pf) (t := pt) rfl)
          have HLO := Lib.hid (show ¬ lastN ps i < pn from by rw [HLV.out]; omega)
          clear t1 t2 t3 h1n hns
          have HF := Lib.hid (show r = false from by rw [HB.out]; exact go_false HX.out (by unfold parB; simp [HLO.out]))
          go_wp2_with (refine wpList_store_blk rfl 29 (.tmp 4) (.tmp 21) rfl wr.heap.size 29 _ _ rfl rfl (Blk.new _ _ _) rfl parcelI (by simp [Value.oneCell']) ?_; intro wz hZ gz; have T1 := bl_gr (bl_al (Below.refl wr.heap.size wr) _) gz (Nat.le_refl _); obtain ⟨s0, s1, x0, x1, x2, x3, x4⟩ := HST.out wz hZ T1; have HT1 := Lib.hid T1; clear hZ gz T1)
          try simp only [Act.put]
          obtain ⟨_, pv, Bv, nv, cv, hadv, hxv, sv⟩ := HPV.out wz HT1.out
          injection hadv with hadv
          subst hadv
          have v0 := sv.c0
          obtain rfl : pv = pv0 := by have h9 := HPV0.out; rw [hxv] at h9; injection h9
          have hw : IntKind.i64.wrap ((i : Int) - 1) = (i1 : Int) := by have h9 := HI1.out; rw [IntWalk.i64_in _ (by omega)]; omega
          have hi1n : (i1 : Int) < (m : Int) := by omega
          clear hxv sv
          go_quiet ((go_at_call 45; exact Calls.quiet_of_same (HPR.out _)))
          go_wp2
          go_ret
          exact ⟨ret_bool HF.out.symm, bl_dr (bl_ca HBB.out HT1.out) _⟩
        have d4 : decide (pn ≤ pv0.num) = false := decide_eq_false t3
        have HLOW := Lib.hid (show lastN ps i < pn from by rw [HLV.out]; omega)
        cases hp : pairB pf pt
        case false =>
          have HPR := Lib.hid (rpair_v hp)
          have HPP := Lib.hid hp
          clear hp t1 t2 h1n hns
          have HF := Lib.hid (show r = false from by rw [HB.out]; exact go_false HX.out (by unfold parB; simp [HPP.out]))
          go_wp2_with (refine wpList_store_blk rfl 29 (.tmp 4) (.tmp 21) rfl wr.heap.size 29 _ _ rfl rfl (Blk.new _ _ _) rfl parcelI (by simp [Value.oneCell']) ?_; intro wz hZ gz; have T1 := bl_gr (bl_al (Below.refl wr.heap.size wr) _) gz (Nat.le_refl _); obtain ⟨s0, s1, x0, x1, x2, x3, x4⟩ := HST.out wz hZ T1; have HT1 := Lib.hid T1; clear hZ gz T1)
          try simp only [Act.put]
          obtain ⟨_, pv, Bv, nv, cv, hadv, hxv, sv⟩ := HPV.out wz HT1.out
          injection hadv with hadv
          subst hadv
          have v0 := sv.c0
          obtain rfl : pv = pv0 := by have h9 := HPV0.out; rw [hxv] at h9; injection h9
          have hw : IntKind.i64.wrap ((i : Int) - 1) = (i1 : Int) := by have h9 := HI1.out; rw [IntWalk.i64_in _ (by omega)]; omega
          have hi1n : (i1 : Int) < (m : Int) := by omega
          clear hxv sv
          go_quiet ((go_at_call 45; exact Calls.quiet_of_same (HPR.out _)))
          go_wp2
          go_ret
          exact ⟨ret_bool HF.out.symm, bl_dr (bl_ca HBB.out HT1.out) _⟩
        have HPR := Lib.hid (rpair_v hp)
        have HPP := Lib.hid hp
        clear hp
        by_cases t5 : 60000 < n'
        case pos =>
          have d5 : (60000 : Int) < (n' : Int) := by omega
          have HNB := Lib.hid (show decide ((pb.length : Int) ≤ 60000) = false from decide_eq_false (by have := HBL.out; omega))
          clear t1 t2 h1n hns
          have HF := Lib.hid (show r = false from by rw [HB.out]; exact go_false HX.out (by unfold parB; simp only [HNB.out]; simp))
          go_wp2_with (refine wpList_store_blk rfl 29 (.tmp 4) (.tmp 21) rfl wr.heap.size 29 _ _ rfl rfl (Blk.new _ _ _) rfl parcelI (by simp [Value.oneCell']) ?_; intro wz hZ gz; have T1 := bl_gr (bl_al (Below.refl wr.heap.size wr) _) gz (Nat.le_refl _); obtain ⟨s0, s1, x0, x1, x2, x3, x4⟩ := HST.out wz hZ T1; have HT1 := Lib.hid T1; clear hZ gz T1)
          try simp only [Act.put]
          obtain ⟨_, pv, Bv, nv, cv, hadv, hxv, sv⟩ := HPV.out wz HT1.out
          injection hadv with hadv
          subst hadv
          have v0 := sv.c0
          obtain rfl : pv = pv0 := by have h9 := HPV0.out; rw [hxv] at h9; injection h9
          have hw : IntKind.i64.wrap ((i : Int) - 1) = (i1 : Int) := by have h9 := HI1.out; rw [IntWalk.i64_in _ (by omega)]; omega
          have hi1n : (i1 : Int) < (m : Int) := by omega
          clear hxv sv
          go_quiet ((go_at_call 45; exact Calls.quiet_of_same (HPR.out _)))
          go_wp2
          go_ret
          exact ⟨ret_bool HF.out.symm, bl_dr (bl_ca HBB.out HT1.out) _⟩
        have d5 : decide ((60000 : Int) < (n' : Int)) = false := by simp; omega
        have HNB := Lib.hid (show decide ((pb.length : Int) ≤ 60000) = true from decide_eq_true (by have := HBL.out; omega))
        have HNS := Lib.hid hns
        have H1N := Lib.hid h1n
        cases psp
        case false =>
          clear t1 t2 hns
          have HF := Lib.hid (show r = goB sent (lastN ps (i + 1)) (ps.drop (i + 1)) from by rw [HB.out]; exact go_true HX.out (by unfold parB; simp only [decide_eq_true HLOW.out, decide_eq_true HNS.out, HPP.out, HNB.out]; simp))
          have HLN := Lib.hid (show 1 ≤ lastN ps (i + 1) from by rw [lastN_succ HX.out]; dsimp only; omega)
          go_wp2_with (refine wpList_store_blk rfl 29 (.tmp 4) (.tmp 21) rfl wr.heap.size 29 _ _ rfl rfl (Blk.new _ _ _) rfl parcelI (by simp [Value.oneCell']) ?_; intro wz hZ gz; have T1 := bl_gr (bl_al (Below.refl wr.heap.size wr) _) gz (Nat.le_refl _); obtain ⟨s0, s1, x0, x1, x2, x3, x4⟩ := HST.out wz hZ T1; have HT1 := Lib.hid T1; clear hZ gz T1)
          try simp only [Act.put]
          obtain ⟨_, pv, Bv, nv, cv, hadv, hxv, sv⟩ := HPV.out wz HT1.out
          injection hadv with hadv
          subst hadv
          have v0 := sv.c0
          obtain rfl : pv = pv0 := by have h9 := HPV0.out; rw [hxv] at h9; injection h9
          have hw : IntKind.i64.wrap ((i : Int) - 1) = (i1 : Int) := by have h9 := HI1.out; rw [IntWalk.i64_in _ (by omega)]; omega
          have hi1n : (i1 : Int) < (m : Int) := by omega
          clear hxv sv
          go_quiet ((go_at_call 45; exact Calls.quiet_of_same (HPR.out _)))
          go_wp2
          go_roundg (gk - 1)
          · exact ⟨i + 1, by omega, by go_num, HF, fun _ => HLN.out, bl_dr (bl_ca HB0.out HT1.out) _⟩
          · omega
        rcases Nat.eq_zero_or_pos n' with hn0 | hn0
        · have HZ := Lib.hid (show ¬ (0 : Int) < (pb.length : Int) from by have := HBL.out; omega)
          subst hn0
          clear t1 t2 hns h1n
          have HF := Lib.hid (show r = false from by rw [HB.out]; exact go_false HX.out (by unfold parB; simp only [decide_eq_false HZ.out]; simp))
          go_wp2_with (refine wpList_store_blk rfl 29 (.tmp 4) (.tmp 21) rfl wr.heap.size 29 _ _ rfl rfl (Blk.new _ _ _) rfl parcelI (by simp [Value.oneCell']) ?_; intro wz hZ gz; have T1 := bl_gr (bl_al (Below.refl wr.heap.size wr) _) gz (Nat.le_refl _); obtain ⟨s0, s1, x0, x1, x2, x3, x4⟩ := HST.out wz hZ T1; have HT1 := Lib.hid T1; clear hZ gz T1)
          try simp only [Act.put]
          obtain ⟨_, pv, Bv, nv, cv, hadv, hxv, sv⟩ := HPV.out wz HT1.out
          injection hadv with hadv
          subst hadv
          have v0 := sv.c0
          obtain rfl : pv = pv0 := by have h9 := HPV0.out; rw [hxv] at h9; injection h9
          have hw : IntKind.i64.wrap ((i : Int) - 1) = (i1 : Int) := by have h9 := HI1.out; rw [IntWalk.i64_in _ (by omega)]; omega
          have hi1n : (i1 : Int) < (m : Int) := by omega
          clear hxv sv
          go_quiet ((go_at_call 45; exact Calls.quiet_of_same (HPR.out _)))
          go_wp2
          go_ret
          exact ⟨ret_bool HF.out.symm, bl_dr (bl_ca HBB.out HT1.out) _⟩
        · have HZ := Lib.hid (show (0 : Int) < (pb.length : Int) from by have := HBL.out; omega)
          have hn1 : ((n' : Int) == 0) = false := by simp; omega
          clear t1 t2 hns
          have HF := Lib.hid (show r = goB sent (lastN ps (i + 1)) (ps.drop (i + 1)) from by rw [HB.out]; exact go_true HX.out (by unfold parB; simp only [decide_eq_true HLOW.out, decide_eq_true HNS.out, HPP.out, HNB.out, decide_eq_true HZ.out]; simp))
          have HLN := Lib.hid (show 1 ≤ lastN ps (i + 1) from by rw [lastN_succ HX.out]; dsimp only; omega)
          go_wp2_with (refine wpList_store_blk rfl 29 (.tmp 4) (.tmp 21) rfl wr.heap.size 29 _ _ rfl rfl (Blk.new _ _ _) rfl parcelI (by simp [Value.oneCell']) ?_; intro wz hZ gz; have T1 := bl_gr (bl_al (Below.refl wr.heap.size wr) _) gz (Nat.le_refl _); obtain ⟨s0, s1, x0, x1, x2, x3, x4⟩ := HST.out wz hZ T1; have HT1 := Lib.hid T1; clear hZ gz T1)
          try simp only [Act.put]
          obtain ⟨_, pv, Bv, nv, cv, hadv, hxv, sv⟩ := HPV.out wz HT1.out
          injection hadv with hadv
          subst hadv
          have v0 := sv.c0
          obtain rfl : pv = pv0 := by have h9 := HPV0.out; rw [hxv] at h9; injection h9
          have hw : IntKind.i64.wrap ((i : Int) - 1) = (i1 : Int) := by have h9 := HI1.out; rw [IntWalk.i64_in _ (by omega)]; omega
          have hi1n : (i1 : Int) < (m : Int) := by omega
          clear hxv sv
          go_quiet ((go_at_call 45; exact Calls.quiet_of_same (HPR.out _)))
          go_wp2
          go_roundg (gk - 1)
          · exact ⟨i + 1, by omega, by go_num, HF, fun _ => HLN.out, bl_dr (bl_ca HB0.out HT1.out) _⟩
          · omega
    · obtain rfl : i = m := by omega
      have hi1 : (i : Int) ≤ (i : Int) := by omega
      have HF := Lib.hid (show r = true from by rw [HB.out]; exact go_end _ _ (by have := HL.out; omega))
      clear b0
      go_wp2
      go_ret
      exact ⟨ret_bool HF.out.symm, HBB.out⟩
end Go.Proofs.Ytnbcffnhgijmcaa
