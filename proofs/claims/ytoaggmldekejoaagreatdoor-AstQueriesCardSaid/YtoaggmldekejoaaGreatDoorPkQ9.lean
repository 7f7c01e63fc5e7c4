/- tree: a node over two parts; PrintTree. Conditions: the nodes read so; what the tables hold. -/
import Derived.Test.YtoaggmldekejoaaGreatDoorPkQ8
namespace Go.Proofs.YtoaggmldekejoaaGreatDoor
open Go.RowKit
theorem par_len (x : Tr) : (parT x).length ≤ (prT x).length + 2 := by
 unfold parT; split
 · omega
 · rw [List.length_cons, List.length_append]; simp only [List.length_cons, List.length_nil]; omega
theorem sg_at {k : Nat} (h1 : 1 ≤ k) (h2 : k ≤ 23) : asigns[k]? = some (sgL (k : Int)) := by
 unfold asigns sgL
 obtain ⟨j, rfl⟩ : ∃ j, k = j + 1 := ⟨k - 1, by omega⟩
 rw [List.getElem?_cons_succ, Int.toNat_natCast, Nat.add_sub_cancel, List.getD_eq_getElem?_getD]
 have : j < sgs.length := by have : sgs.length = 23 := rfl; omega
 rw [List.getElem?_eq_getElem this]
 rfl
set_option maxRecDepth 100000 in
set_option maxHeartbeats 8000000 in
theorem node_two {F : Nat → Prop} {xs : List Nd} {A : Option Addr} {n c bt bn bp : Nat} {p : Py} {a b : Tr} {o : Nat} (hP : PartW F xs A n c bt bn bp a o) (hP2 : PartW F xs A n c bt bn bp b (o + a.size)) (hl : LiesAt xs (.two p a b) o) (hok : (Tr.two p a b).ok cntB = true) (hz : (prT a).length ≤ 99000) (hz2 : (prT b).length ≤ 99000) : NodeW F xs A n c bt bn bp (.two p a b) o := by
 obtain ⟨hpt, hcb, _⟩ := ok_two hok
 obtain ⟨tg, htp, _⟩ := one_zero hcb (.inr hpt)
 subst htp
 intro w hc
 have hrt := lies_root hl
 have hap := a.size_pos
 have hbp := b.size_pos
 have htg := tag_two hpt
 change 12 ≤ tg ∧ tg ≤ 23 at htg
 unfold PartW at hP hP2
 obtain ⟨i, hi⟩ : ∃ i, i = o + (Tr.two (zP tg) a b).size - 1 := ⟨_, rfl⟩
 obtain ⟨i1, hi1⟩ : ∃ i1, i1 = o + a.size - 1 := ⟨_, rfl⟩
 obtain ⟨i2, hi2⟩ : ∃ i2, i2 = o + a.size + b.size - 1 := ⟨_, rfl⟩
 rw [← hi] at hrt ⊢
 rw [← hi1] at hP
 rw [← hi2] at hP2
 have hin : i < n := by
  have := (List.getElem?_eq_some_iff.1 hrt).1
  rw [Lay.rd_len hc.rd] at this
  exact this
 obtain ⟨p3, x, hAe, hx, s3⟩ := LN_at hc.rd hin
 obtain rfl : A = some p3 := hAe
 have hxe := at_eq hrt hx
 subst hxe
 have hL : ((Tr.two (zP tg) a b).node o).l = (i1 : Int) := by show ((o + a.size : Nat) : Int) - 1 = _; omega
 have hR : ((Tr.two (zP tg) a b).node o).r = (i2 : Int) := by show ((o + a.size + b.size : Nat) : Int) - 1 = _; omega
 have e0 : w.cell? (p3.add (i * 9)) = some (.int .i64 tg) := s3.c0
 have e1 : w.cell? ⟨(p3.add (i * 9)).block, (p3.add (i * 9)).off + 1, none⟩ = some (.int .i64 (i1 : Int)) := by rw [← hL]; exact s3.c1
 have e2 : w.cell? ⟨(p3.add (i * 9)).block, (p3.add (i * 9)).off + 2, none⟩ = some (.int .i64 (i2 : Int)) := by rw [← hR]; exact s3.c2
 have e3 : w.cell? ⟨(p3.add (i * 9)).block, (p3.add (i * 9)).off + 3, none⟩ = some (.int .i64 0) := s3.c3
 have e4 : w.cell? ⟨(p3.add (i * 9)).block, (p3.add (i * 9)).off + 4, none⟩ = some (.int .i64 0) := s3.c4
 have e5 : w.cell? ⟨(p3.add (i * 9)).block, (p3.add (i * 9)).off + 5, none⟩ = some (.int .u64 0) := s3.c5
 have e6 : w.cell? ⟨(p3.add (i * 9)).block, (p3.add (i * 9)).off + 6, none⟩ = some (.string eB) := s3.c6
 have e7 : w.cell? ⟨(p3.add (i * 9)).block, (p3.add (i * 9)).off + 7, none⟩ = some (.string eB) := s3.c7
 have e8 : w.cell? ⟨(p3.add (i * 9)).block, (p3.add (i * 9)).off + 8, none⟩ = some (.string eB) := s3.c8
 have c1 := hc.tr
 have hin2 : (i : Int) < (n : Int) := by omega
 have HC := Lib.hid hc
 have HQ := Lib.hid (bl_al (Below.refl w.heap.size w) (.cells #[.int .i64 tg, .int .i64 (i1 : Int), .int .i64 (i2 : Int), .int .i64 0, .int .i64 0, .int .u64 0, .string eB, .string eB, .string eB] 57))
 have HB := Lib.hid (Blk.new w 57 #[.int .i64 tg, .int .i64 (i1 : Int), .int .i64 (i2 : Int), .int .i64 0, .int .i64 0, .int .u64 0, .string eB, .string eB, .string eB])
 have HPR := Lib.hid (show bS (parT a ++ (32 :: (sgL tg ++ (32 :: parT b)))) = bS (prT (.two (zP tg) a b)) from by rw [pr_two])
 generalize prT (.two (zP tg) a b) = R at *
 obtain ⟨ZA, hZA⟩ : ∃ Z, Z = bS (parT a) := ⟨_, rfl⟩
 obtain ⟨ZB, hZB⟩ : ∃ Z, Z = bS (parT b) := ⟨_, rfl⟩
 obtain ⟨SG, hSG⟩ : ∃ Z, Z = bS (sgL tg) := ⟨_, rfl⟩
 have HPA := Lib.hid hP
 have HPB := Lib.hid hP2
 rw [← hZA] at HPA
 rw [← hZB] at HPB
 have sa : ZA.size ≤ 99002 := by rw [hZA, bs_size]; have := par_len a; omega
 have sb : ZB.size ≤ 99002 := by rw [hZB, bs_size]; have := par_len b; omega
 have ss : SG.size ≤ 11 := by rw [hSG, bs_size]; exact sg_len tg
 have b1 : (⟨#[32]⟩ : ByteArray).size ≤ 1 := by decide
 have s1 : (ZA ++ ⟨#[32]⟩ : ByteArray).size ≤ 99003 := by rw [ByteArray.size_append]; omega
 have s2 : ((ZA ++ ⟨#[32]⟩) ++ SG : ByteArray).size ≤ 99014 := by rw [ByteArray.size_append]; omega
 have s3' : (((ZA ++ ⟨#[32]⟩) ++ SG) ++ ⟨#[32]⟩ : ByteArray).size ≤ 99015 := by rw [ByteArray.size_append]; omega
 have HF := Lib.hid (show (((ZA ++ ⟨#[32]⟩) ++ SG) ++ ⟨#[32]⟩) ++ ZB = bS R from by
  rw [← HPR.out, hZA, hZB, hSG]
  exact bS_of (by rw [ByteArray.data_append, Array.toList_append, ByteArray.data_append, Array.toList_append, ByteArray.data_append, Array.toList_append, ByteArray.data_append, Array.toList_append, List.append_assoc, List.append_assoc, List.append_assoc]; rfl))
 have HSG := Lib.hid hSG
 clear hc hrt hx s3 hcb hok hl hP hP2 hz hz2 hZA hZB hpt hi hi1 hi2 hL hR hap hbp hSG HPR
 go_enter Tryz.func65, Tryz.ntmps65
 go_upto_region 2 with fail
 generalize w.alloc (.cells #[.int .i64 tg, .int .i64 (i1 : Int), .int .i64 (i2 : Int), .int .i64 0, .int .i64 0, .int .u64 0, .string eB, .string eB, .string eB] 57) = w1 at *
 clear e0 e1 e2 e3 e4 e5 e6 e7 e8 c1
 have HC1 := Lib.hid (HC.out.below HQ.out)
 have e0 := HB.out.cell 0
 simp at e0
 obtain ⟨tk, htk⟩ : ∃ tk : Nat, tg = (tk : Int) := ⟨tg.toNat, by omega⟩
 subst htk
 have hsg := HC1.out.tab.sg tk _ (sg_at (by omega) (by omega))
 rw [← HSG.out] at hsg
 have h24 : (tk : Int) < 24 := by omega
 have h0 : 0 ≤ (tk : Int) := by omega
 have k1 : ((tk : Int) == 1) = false := by simp; omega
 have k2 : ((tk : Int) == 2) = false := by simp; omega
 have k3 : ((tk : Int) == 3) = false := by simp; omega
 have k4 : ((tk : Int) == 4) = false := by simp; omega
 have k5 : ((tk : Int) == 5) = false := by simp; omega
 have k6 : ((tk : Int) == 6) = false := by simp; omega
 have k7 : ((tk : Int) == 7) = false := by simp; omega
 have k8 : ((tk : Int) == 8) = false := by simp; omega
 have k9 : ((tk : Int) == 9) = false := by simp; omega
 have k10 : ((tk : Int) == 10) = false := by simp; omega
 have k11 : ((tk : Int) == 11) = false := by simp; omega
 clear htg
 go_upto_region 22 with fail
 have c3 := HC1.out.pt
 have HCC := Lib.hid HC1.out
 refine wp_region_ps (S := fun _ _ w' => Below w1.heap.size w1 w') (by kernel_rfl) ?spswg1 ?ppswg1
 case spswg1 =>
  exact (Below.refl w1.heap.size w1).drew
 refine Pz 0 (some 73) (.func (.func 64) #[] #[.pointer (some ⟨bn, 0, none⟩), .pointer (some ⟨bt, 0, none⟩)]) rfl rfl ?ywg1_2 ?rwg1_2
 case ywg1_2 =>
  refine StepS.read [] (by kernel_rfl) nP (by rfl) (fun L9 m9 w9 hSh hAt hDn hS => ?_)
  have hT : Below _ _ w9 := hS
  have x0 : w9.cell? ⟨bp, 0, none⟩ = some (.func (.func 64) #[] #[.pointer (some ⟨bn, 0, none⟩), .pointer (some ⟨bt, 0, none⟩)]) := ce c3 hT
  clear hT hS
  go_simp
  try rfl
 try simp only [Act.put, sA, sZ, sS]
 refine Pz 1 (some 74) (.pointer (some ⟨w.heap.size, 1, none⟩)) rfl rfl (by exact StepS.pure nP rfl fun _ => rfl) ?_
 try simp only [Act.put, sA, sZ, sS]
 refine Pz 2 (some 75) (.int .i64 ((i1 : Int))) rfl rfl ?ywg1_4 ?rwg1_4
 case ywg1_4 =>
  refine StepS.read [] (by kernel_rfl) nP (by rfl) (fun L9 m9 w9 hSh hAt hDn hS => ?_)
  have hT : Below _ _ w9 := hS
  have x0 : w9.cell? ⟨w.heap.size, 1, none⟩ = some (.int .i64 ((i1 : Int))) := (HB.out.ca hT).cell 1
  clear hT hS
  go_simp
  try rfl
 try simp only [Act.put, sA, sZ, sS]
 refine Pz 3 (some 76) (.string ZA) rfl rfl ?ywg1_5 ?rwg1_5
 case ywg1_5 =>
  refine StepS.call ?fwg1_5 ?awg1_5 [] (by kernel_rfl) (by rfl) (fun w9 => ?hwg1_5) (fun L9 m9 w9 hSh hAt hDn hS => ?cwg1_5)
  case hwg1_5 => go_simp; refine ⟨?_, ?_⟩ <;> rfl
  case cwg1_5 =>
   have hT : Below _ _ w9 := hS
   refine (HPA.out _ (HCC.out.below hT)).mono ?_
   rintro e w8 ⟨rfl, q8⟩
   exact ⟨rfl, bl_ca hT q8⟩
 try simp only [Act.put, sA, sZ, sS]
 refine Pz 4 (some 77) (.string ((ZA ++ ⟨#[32]⟩))) rfl rfl ?ywg1_6 ?rwg1_6
 case ywg1_6 =>
  refine StepS.pure nP (by rfl) (fun w9 => ?_)
  have hz9 := trivial
  (go_simp; omega)
 try simp only [Act.put, sA, sZ, sS]
 refine Pz 5 (some 78) (.string SG) rfl rfl (by exact StepS.pure nP rfl fun _ => rfl) ?_
 try simp only [Act.put, sA, sZ, sS]
 refine Pz 6 (some 79) (.string (((ZA ++ ⟨#[32]⟩) ++ SG))) rfl rfl ?ywg1_8 ?rwg1_8
 case ywg1_8 =>
  refine StepS.pure nP (by rfl) (fun w9 => ?_)
  have hz9 := trivial
  (go_simp; omega)
 try simp only [Act.put, sA, sZ, sS]
 refine Pz 7 (some 80) (.string ((((ZA ++ ⟨#[32]⟩) ++ SG) ++ ⟨#[32]⟩))) rfl rfl ?ywg1_9 ?rwg1_9
 case ywg1_9 =>
  refine StepS.pure nP (by rfl) (fun w9 => ?_)
  have hz9 := trivial
  (go_simp; omega)
 try simp only [Act.put, sA, sZ, sS]
 refine Pz 8 (some 81) (.func (.func 64) #[] #[.pointer (some ⟨bn, 0, none⟩), .pointer (some ⟨bt, 0, none⟩)]) rfl rfl ?ywg1_10 ?rwg1_10
 case ywg1_10 =>
  refine StepS.read [] (by kernel_rfl) nP (by rfl) (fun L9 m9 w9 hSh hAt hDn hS => ?_)
  have hT : Below _ _ w9 := hS
  have x0 : w9.cell? ⟨bp, 0, none⟩ = some (.func (.func 64) #[] #[.pointer (some ⟨bn, 0, none⟩), .pointer (some ⟨bt, 0, none⟩)]) := ce c3 hT
  clear hT hS
  go_simp
  try rfl
 try simp only [Act.put, sA, sZ, sS]
 refine Pz 9 (some 82) (.pointer (some ⟨w.heap.size, 2, none⟩)) rfl rfl (by exact StepS.pure nP rfl fun _ => rfl) ?_
 try simp only [Act.put, sA, sZ, sS]
 refine Pz 10 (some 83) (.int .i64 ((i2 : Int))) rfl rfl ?ywg1_12 ?rwg1_12
 case ywg1_12 =>
  refine StepS.read [] (by kernel_rfl) nP (by rfl) (fun L9 m9 w9 hSh hAt hDn hS => ?_)
  have hT : Below _ _ w9 := hS
  have x0 : w9.cell? ⟨w.heap.size, 2, none⟩ = some (.int .i64 ((i2 : Int))) := (HB.out.ca hT).cell 2
  clear hT hS
  go_simp
  try rfl
 try simp only [Act.put, sA, sZ, sS]
 refine Pz 11 (some 84) (.string ZB) rfl rfl ?ywg1_13 ?rwg1_13
 case ywg1_13 =>
  refine StepS.call ?fwg1_13 ?awg1_13 [] (by kernel_rfl) (by rfl) (fun w9 => ?hwg1_13) (fun L9 m9 w9 hSh hAt hDn hS => ?cwg1_13)
  case hwg1_13 => go_simp; refine ⟨?_, ?_⟩ <;> rfl
  case cwg1_13 =>
   have hT : Below _ _ w9 := hS
   refine (HPB.out _ (HCC.out.below hT)).mono ?_
   rintro e w8 ⟨rfl, q8⟩
   exact ⟨rfl, bl_ca hT q8⟩
 try simp only [Act.put, sA, sZ, sS]
 refine Pz 12 (some 85) (.string (((((ZA ++ ⟨#[32]⟩) ++ SG) ++ ⟨#[32]⟩) ++ ZB))) rfl rfl ?ywg1_14 ?rwg1_14
 case ywg1_14 =>
  refine StepS.pure nP (by rfl) (fun w9 => ?_)
  have hz9 := trivial
  (go_simp; omega)
 try simp only [Act.put, sA, sZ, sS]
 refine Pz 13 (some 5) (.string (((((ZA ++ ⟨#[32]⟩) ++ SG) ++ ⟨#[32]⟩) ++ ZB))) rfl rfl (by exact StepS.pure nP rfl fun _ => rfl) ?_
 try simp only [Act.put, sA, sZ, sS]
 refine Ps.done (by kernel_rfl) (fun wg1 hS => ?_) _
 have HW := Lib.hid (show Below w1.heap.size w1 wg1 from hS)
 clear hS
 obtain ⟨w2, rfl⟩ : ∃ x, x = wg1 := ⟨_, rfl⟩
 go_wp2
 go_ret
 exact ⟨by rw [← HF.out]; rfl, bl_ca HQ.out HW.out⟩
/-- how the nodes of a tree are written -/
def prF (xs : List Nd) : ByteArray := match treeF cntB xs with | some t => bS (prT t) | none => ⟨#[]⟩
theorem store_there {P : Program} {w : World} {g i : Nat} {t : TypeId} {cs : Array Value} {v : Value} (h : Blk w g t cs) (hi : i < cs.size) (h1 : v.oneCell' = true) : (store ⟨g, i, none⟩ v).run P w = .ok () (w.setCell ⟨g, i, none⟩ v) := by
 rw [run_store P w _ v _ h1, h.cell, Array.getElem?_eq_getElem hi]
 simp [h.frozen]
/-! ### whole trees -/
theorem all_W {F : Nat → Prop} {xs : List Nd} {A : Option Addr} {n c bt bn bp : Nat} : ∀ (u : Tr) (o : Nat), LiesAt xs u o → u.ok cntB = true → rgT u → u.size ≤ 300 → NodeW F xs A n c bt bn bp u o ∧ PartW F xs A n c bt bn bp u o
 | .leaf p, o, hl, hok, hr, hs => by
  have hN : NodeW F xs A n c bt bn bp (.leaf p) o := node_leaf hl hok hr
  have := pr_len (.leaf p) hok hr
  exact ⟨hN, part_of hN hl hok (by omega)⟩
 | .one p a, o, hl, hok, hr, hs => by
  have hsz : (Tr.one p a).size = a.size + 1 := rfl
  have ih := all_W (F := F) (A := A) (n := n) (c := c) (bt := bt) (bn := bn) (bp := bp) a o (lies_one hl) (ok_one hok).2.2 hr (by omega)
  have ha := pr_len a (ok_one hok).2.2 hr
  have hN : NodeW F xs A n c bt bn bp (.one p a) o := node_one ih.1 ih.2 hl hok (by omega)
  have := pr_len (.one p a) hok hr
  exact ⟨hN, part_of hN hl hok (by omega)⟩
 | .two p a b, o, hl, hok, hr, hs => by
  have hsz : (Tr.two p a b).size = a.size + b.size + 1 := rfl
  have ih := all_W (F := F) (A := A) (n := n) (c := c) (bt := bt) (bn := bn) (bp := bp) a o (lies_two hl).1 (ok_two hok).2.2.1 hr.1 (by omega)
  have ih2 := all_W (F := F) (A := A) (n := n) (c := c) (bt := bt) (bn := bn) (bp := bp) b (o + a.size) (lies_two hl).2 (ok_two hok).2.2.2 hr.2 (by omega)
  have ha := pr_len a (ok_two hok).2.2.1 hr.1
  have hb := pr_len b (ok_two hok).2.2.2 hr.2
  have hN : NodeW F xs A n c bt bn bp (.two p a b) o := node_two ih.2 ih2.2 hl hok (by omega) (by omega)
  have := pr_len (.two p a b) hok hr
  exact ⟨hN, part_of hN hl hok (by omega)⟩
theorem rg_all : ∀ (u : Tr) (o : Nat), (∀ x ∈ u.flat o, RgP x.p) → rgT u
 | .leaf p, o, h => h ⟨p, -1, -1⟩ (by show _ ∈ [(⟨p, -1, -1⟩ : Nd)]; simp)
 | .one p a, o, h => rg_all a o (fun x hx => h x (List.mem_append_left _ hx))
 | .two p a b, o, h => ⟨rg_all a o (fun x hx => h x (List.mem_append_left _ hx)), rg_all b _ (fun x hx => h x (List.mem_append_right _ (List.mem_append_left _ hx)))⟩
set_option maxRecDepth 100000 in
theorem tree_any (F : Nat → Prop) (xs : List Nd) (t : Tr) (A : Option Addr) (n c : Nat) (w : World) (h : LN.rd w F A n xs) (hn : n ≤ 100000) (hT : Tab w) (ht : treeF cntB xs = some t) (hr : ∀ x ∈ xs, RgP x.p) :
 Calls Tryz.prog 28 #[.agg #[.slice A n c]] w fun e w' => e = .returned (.string (bS (prT t))) ∧ Below w.heap.size w w' := by
 have hx := (treeF_some.1 ht).1
 have hsz := (treeF_some.1 ht).2.2.1
 have htl := tree_len ht
 have hp := t.size_pos
 have hl : LiesAt xs t 0 := fun i _ => by rw [Nat.zero_add, hx]
 have hrg : rgT t := rg_all t 0 (by rw [← hx]; exact hr)
 have hln := Lay.rd_len h
 have HW := Lib.hid (fun bt bn bp => (all_W (F := F) (A := A) (n := n) (c := c) (bt := bt) (bn := bn) (bp := bp) t 0 hl (treeF_some.1 ht).2.1 hrg hsz).1)
 obtain ⟨n1, hn1⟩ : ∃ n1, n = n1 + 1 := ⟨n - 1, by omega⟩
 have HI := Lib.hid (show 0 + t.size - 1 = n1 from by omega)
 have hix : (n : Int) - 1 = (n1 : Int) := by omega
 have hix1 : (n1 : Int) ≤ 100000 := by omega
 have HRD := Lib.hid h
 have HT := Lib.hid hT
 unfold NodeW at HW
 generalize bS (prT t) = Z at *
 clear h hT ht hr hx hsz htl hp hl hrg hln hn1
 have HB1 := Lib.hid ((Blk.new w 26 #[.slice A n c]).alloc (.cells #[.nilFunc] 111))
 have HB3 := Lib.hid (show Blk ((w.alloc (.cells #[.slice A n c] 26)).alloc (.cells #[.nilFunc] 111)) (w.heap.size + 1) 111 #[.nilFunc] from by
  have := Blk.new (w.alloc (.cells #[.slice A n c] 26)) 111 #[.nilFunc]
  rwa [World.size_alloc] at this)
 have HQ1 := Lib.hid (bl_al (bl_al (Below.refl w.heap.size w) (.cells #[.slice A n c] 26)) (.cells #[.nilFunc] 111))
 go_enter Tryz.func28, Tryz.ntmps28
 go_upto_region 2 with fail
 generalize (w.alloc (.cells #[.slice A n c] 26)).alloc (.cells #[.nilFunc] 111) = w1 at *
 generalize hg3 : w.heap.size + 1 = g3 at *
 have l3 : w.heap.size < g3 := by omega
 have l4 := HB3.out.lt
 clear hg3
 have HC4 := Lib.hid (Blk.new w1 111 #[.func (.func 64) #[] #[.pointer (some ⟨g3, 0, none⟩), .pointer (some ⟨w.heap.size, 0, none⟩)]])
 have HQ5 := Lib.hid (bl_al (Below.refl w1.heap.size w1) (.cells #[.func (.func 64) #[] #[.pointer (some ⟨g3, 0, none⟩), .pointer (some ⟨w.heap.size, 0, none⟩)]] 111))
 have hst1 := store_there (P := Tryz.prog) (Blk.new w1 111 #[.nilFunc]) (i := 0) (v := .func (.func 64) #[] #[.pointer (some ⟨g3, 0, none⟩), .pointer (some ⟨w.heap.size, 0, none⟩)]) (by decide) rfl
 go_upto_region 3 with fail
 clear hst1
 generalize w1.alloc (.cells #[.func (.func 64) #[] #[.pointer (some ⟨g3, 0, none⟩), .pointer (some ⟨w.heap.size, 0, none⟩)]] 111) = w2 at *
 have HC3 := Lib.hid (HB3.out.ca HQ5.out)
 have HC1 := Lib.hid (HB1.out.ca HQ5.out)
 have hst2 := store_there (P := Tryz.prog) HC3.out (i := 0) (v := .func (.func 65) #[] #[.pointer (some ⟨w.heap.size, 0, none⟩), .pointer (some ⟨w1.heap.size, 0, none⟩), .pointer (some ⟨g3, 0, none⟩)]) (by decide) rfl
 go_upto_region 4 with fail
 have hgr : w2.grownBy (w2.setCell ⟨g3, 0, none⟩ (.func (.func 65) #[] #[.pointer (some ⟨w.heap.size, 0, none⟩), .pointer (some ⟨w1.heap.size, 0, none⟩), .pointer (some ⟨g3, 0, none⟩)])) (some g3) := only_setCell (p := ⟨g3, 0, none⟩) (World.grownBy.refl w2 _) (.inl rfl) _
 have HD3 := Lib.hid (show Blk (w2.setCell ⟨g3, 0, none⟩ (.func (.func 65) #[] #[.pointer (some ⟨w.heap.size, 0, none⟩), .pointer (some ⟨w1.heap.size, 0, none⟩), .pointer (some ⟨g3, 0, none⟩)])) g3 111 #[.func (.func 65) #[] #[.pointer (some ⟨w.heap.size, 0, none⟩), .pointer (some ⟨w1.heap.size, 0, none⟩), .pointer (some ⟨g3, 0, none⟩)]] from HC3.out.set_ 0 _)
 have HD1 := Lib.hid (HC1.out.apart hgr (by omega))
 have HD4 := Lib.hid (HC4.out.apart hgr (by omega))
 have HQ6 := Lib.hid (bl_set (bl_ca HQ1.out HQ5.out) (p := ⟨g3, 0, none⟩) (by show _ ≤ g3; omega) (.func (.func 65) #[] #[.pointer (some ⟨w.heap.size, 0, none⟩), .pointer (some ⟨w1.heap.size, 0, none⟩), .pointer (some ⟨g3, 0, none⟩)]))
 clear hst2 hgr
 generalize w2.setCell ⟨g3, 0, none⟩ (.func (.func 65) #[] #[.pointer (some ⟨w.heap.size, 0, none⟩), .pointer (some ⟨w1.heap.size, 0, none⟩), .pointer (some ⟨g3, 0, none⟩)]) = w3 at *
 have HCX := Lib.hid (show Cx F xs A n c w.heap.size g3 w1.heap.size w3 from ⟨HD1.out.cell 0, HD3.out.cell 0, HD4.out.cell 0, Lay.rd_below HRD.out HQ6.out, HT.out.below HQ6.out⟩)
 have c1 := HCX.out.tr
 have c3 := HCX.out.nd
 go_wp2_with fail
 have hw := HW.out w.heap.size g3 w1.heap.size w3 HCX.out
 rw [HI.out] at hw
 refine hw.mono ?_
 rintro e w4 ⟨rfl, q4⟩
 have HQ7 := Lib.hid (bl_ca HQ6.out q4)
 clear q4 hw c1 c3
 go_wp2
 go_ret
 exact ⟨rfl, HQ7.out⟩
set_option maxRecDepth 100000 in
theorem printtree_any (F : Nat → Prop) (xs : List Nd) (A : Option Addr) (n c : Nat) (w : World) (h : LN.rd w F A n xs) (hn : n ≤ 100000) (hT : Tab w) (hS : ∀ x ∈ xs, SmP x.p) (hr : ∀ x ∈ xs, RgP x.p) :
 Calls Tryz.prog 12 #[.agg #[.slice A n c]] w fun e w' => e = .returned (.tuple #[.string (prF xs), .int .i64 (chkE xs)]) ∧ Below w.heap.size w w' := by
 have HQ := Lib.hid (bl_al (Below.refl w.heap.size w) (.cells #[.slice A n c] 26))
 have HB := Lib.hid (Blk.new w 26 #[.slice A n c])
 have HRD := Lib.hid (Lay.rd_below h HQ.out)
 have HT := Lib.hid (hT.below HQ.out)
 have HC := Lib.hid (checktree_any F xs A n c _ HRD.out hn HT.out hS)
 have HPF := Lib.hid (show prF xs = match treeF cntB xs with | some t => bS (prT t) | none => ⟨#[]⟩ from rfl)
 have HCE := Lib.hid (show chkE xs = if okF xs then 0 else 180 from rfl)
 have HN := Lib.hid hn
 have HR := Lib.hid hr
 generalize prF xs = P at *
 obtain ⟨E, hE⟩ : ∃ E, E = chkE xs := ⟨_, rfl⟩
 rw [← hE] at HC HCE ⊢
 clear h hT hS hn hr hE
 go_enter Tryz.func12, Tryz.ntmps12
 go_wp2_with fail
 generalize w.alloc (.cells #[.slice A n c] 26) = w1 at *
 refine HC.out.mono ?_
 rintro e w2 ⟨rfl, q2⟩
 have HQ2 := Lib.hid (bl_ca HQ.out q2)
 have x0 := (HB.out.ca q2).cell 0
 simp at x0
 have HR2 := Lib.hid (Lay.rd_below HRD.out q2)
 have HT2 := Lib.hid (HT.out.below q2)
 clear q2
 cases ht : treeF cntB xs with
 | none =>
  have HE := Lib.hid (show E = 180 from by rw [HCE.out, okF_no ht]; rfl)
  have HP := Lib.hid (show P = ⟨#[]⟩ from by rw [HPF.out, ht])
  have hE := HE.out
  subst hE
  clear ht
  go_wp2
  go_ret2
  exact ⟨by rw [HP.out]; rfl, HQ2.out⟩
 | some t =>
  have HE := Lib.hid (show E = 0 from by rw [HCE.out, okF_of ht]; rfl)
  have HP := Lib.hid (show P = bS (prT t) from by rw [HPF.out, ht])
  have HTR := Lib.hid (tree_any F xs t A n c w2 HR2.out HN.out HT2.out ht HR.out)
  have hE := HE.out
  subst hE
  rw [← HP.out] at HTR
  clear ht
  go_wp2_with fail
  refine HTR.out.mono ?_
  rintro e w3 ⟨rfl, q3⟩
  have HQ3 := Lib.hid (bl_ca HQ2.out q3)
  clear q3 x0
  go_wp2
  go_ret2
  exact ⟨rfl, HQ3.out⟩
end Go.Proofs.YtoaggmldekejoaaGreatDoor
/- Queries as data in memory. Conditions: none. -/
namespace Go.Proofs.YtoaggmldekejoaaGreatDoor
open Go.RowKit
theorem Lay.own_at {α : Type} {L : Lay α} {e : TypeId} {w : World} {B n c i : Nat} {G : Nat → Prop} {A : Option Addr} {xs : List α} (h : L.own e w B G A n c xs) (hi : i < n) : ∃ ad x cs, A = some ad ∧ xs[i]? = some x ∧ ad.block < w.heap.size ∧ True ∧ L.rep w G x cs ∧ ∀ j u, cs[j]? = some u → w.cell? (ad.add (i * L.size + j)) = some u := by
 obtain ⟨hl, cs, hr, ho⟩ := h
 rcases ho.2 with ⟨_, e2⟩ | ⟨g, cap, cur, e1, h2, h3, h4, h5, h6, h7⟩
 · omega
 injection e1 with e1 _ _
 subst e1
 have hx : xs[i]? = some xs[i] := List.getElem?_eq_getElem (by omega)
 obtain ⟨ds, hd, hc⟩ := Lay.reps_at hr hx
 refine ⟨⟨g, 0, none⟩, xs[i], ds, rfl, hx, (Array.getElem?_eq_some_iff.1 h3).1, trivial, L.weak (fun b hb _ => hb.1) hd, fun j u hu => ?_⟩
 have hj := hc j u hu
 rw [show (⟨g, 0, none⟩ : Addr).add (i * L.size + j) = ⟨g, i * L.size + j, none⟩ from by unfold Addr.add; split <;> simp_all]
 rw [← h7, List.getElem?_take] at hj
 split at hj
 · rw [Array.getElem?_toList] at hj
   unfold World.cell?
   rw [h3]; exact hj
 · cases hj
theorem Lay.own_some {α : Type} {L : Lay α} {e : TypeId} {w : World} {B n c : Nat} {G : Nat → Prop} {A : Option Addr} {xs : List α} (h : L.own e w B G A n c xs) (hn : 0 < n) : ∃ g, A = some ⟨g, 0, none⟩ := by
 obtain ⟨_, cs, _, ho⟩ := h
 rcases ho.2 with ⟨_, e2⟩ | ⟨g, cap, cur, e1, _⟩
 · omega
 · injection e1 with e1 _ _
   exact ⟨g, e1⟩
/-- an item -/
structure QI where
 t : List Nd
 as_ : ByteArray
deriving DecidableEq
/-- a join -/
structure QJ where
 left : Bool
 tb : ByteArray
 as_ : ByteArray
 on : List Nd
deriving DecidableEq
/-- a name -/
structure QN where
 tb : ByteArray
 nm : ByteArray
deriving DecidableEq
/-- a key -/
structure QK where
 nm : ByteArray
 num : Int
 desc : Bool
deriving DecidableEq
/-- a select -/
structure QS where
 dis : Bool
 star : Bool
 items : List QI
 ftb : ByteArray
 fas : ByteArray
 joins : List QJ
 wh : List Nd
 hv : List Nd
 grp : List QN
deriving DecidableEq
/-- a query -/
structure QC where
 sels : List QS
 keys : List QK
 lim : Int
deriving DecidableEq
def LQI : Lay QI where
 size := 2
 rep := fun w F x cs => ∃ A0 n0 c0, cs = [.slice A0 n0 c0, .string x.as_] ∧ (n0 ≤ c0 ∧ c0 ≤ 9223372036854775807 ∧ LN.rd w F A0 n0 x.t)
 len := fun h => by obtain ⟨A0, n0, c0, rfl, _⟩ := h; rfl
 one := fun h u hu => by obtain ⟨A0, n0, c0, rfl, _⟩ := h; simp at hu; rcases hu with rfl | rfl <;> rfl
 keep := fun hk h => by obtain ⟨A0, n0, c0, e, ⟨a0, b0, h0⟩⟩ := h; exact ⟨A0, n0, c0, e, ⟨a0, b0, Lay.rd_keep hk h0⟩⟩
 weak := fun hk h => by obtain ⟨A0, n0, c0, e, ⟨a0, b0, h0⟩⟩ := h; exact ⟨A0, n0, c0, e, ⟨a0, b0, Lay.rd_weak hk h0⟩⟩
structure SQI (w : World) (F : Nat → Prop) (p : Addr) (x : QI) (A0 : Option Addr) (n0 c0 : Nat) : Prop where
 z0 : w.cell? p = some (.slice A0 n0 c0)
 z1 : w.cell? ⟨p.block, p.off + 1, none⟩ = some (.string x.as_)
 k0 : n0 ≤ c0 ∧ c0 ≤ 9223372036854775807
 r0 : LN.rd w F A0 n0 x.t
theorem LQI_at {w : World} {F : Nat → Prop} {A : Option Addr} {n i : Nat} {xs : List QI} (h : LQI.rd w F A n xs) (hi : i < n) : ∃ ad x A0 n0 c0, A = some ad ∧ xs[i]? = some x ∧ SQI w F (ad.add (i * 2)) x A0 n0 c0 := by
 obtain ⟨ad, x, cs, e, hx, _, _, ⟨A0, n0, c0, rfl, ⟨a0, b0, h0⟩⟩, hc⟩ := Lay.rd_at h hi
 exact ⟨ad, x, A0, n0, c0, e, hx, ⟨hc 0 _ rfl, (by rw [← addr_more _ _ 1 (by omega)]; exact hc 1 _ rfl), ⟨a0, b0⟩, h0⟩⟩
theorem LQI_own {e : TypeId} {w : World} {B : Nat} {G : Nat → Prop} {A : Option Addr} {n c i : Nat} {xs : List QI} (h : LQI.own e w B G A n c xs) (hi : i < n) : ∃ ad x A0 n0 c0, A = some ad ∧ xs[i]? = some x ∧ SQI w G (ad.add (i * 2)) x A0 n0 c0 := by
 obtain ⟨ad, x, cs, e, hx, _, _, ⟨A0, n0, c0, rfl, ⟨a0, b0, h0⟩⟩, hc⟩ := Lay.own_at h hi
 exact ⟨ad, x, A0, n0, c0, e, hx, ⟨hc 0 _ rfl, (by rw [← addr_more _ _ 1 (by omega)]; exact hc 1 _ rfl), ⟨a0, b0⟩, h0⟩⟩
abbrev QI.cells (x : QI) (A0 : Option Addr) (n0 c0 : Nat) : Array Value := #[.slice A0 n0 c0, .string x.as_]
def LQJ : Lay QJ where
 size := 4
 rep := fun w F x cs => ∃ A0 n0 c0, cs = [.bool x.left, .string x.tb, .string x.as_, .slice A0 n0 c0] ∧ (n0 ≤ c0 ∧ c0 ≤ 9223372036854775807 ∧ LN.rd w F A0 n0 x.on)
 len := fun h => by obtain ⟨A0, n0, c0, rfl, _⟩ := h; rfl
 one := fun h u hu => by obtain ⟨A0, n0, c0, rfl, _⟩ := h; simp at hu; rcases hu with rfl | rfl | rfl | rfl <;> rfl
 keep := fun hk h => by obtain ⟨A0, n0, c0, e, ⟨a0, b0, h0⟩⟩ := h; exact ⟨A0, n0, c0, e, ⟨a0, b0, Lay.rd_keep hk h0⟩⟩
 weak := fun hk h => by obtain ⟨A0, n0, c0, e, ⟨a0, b0, h0⟩⟩ := h; exact ⟨A0, n0, c0, e, ⟨a0, b0, Lay.rd_weak hk h0⟩⟩
structure SQJ (w : World) (F : Nat → Prop) (p : Addr) (x : QJ) (A0 : Option Addr) (n0 c0 : Nat) : Prop where
 z0 : w.cell? p = some (.bool x.left)
 z1 : w.cell? ⟨p.block, p.off + 1, none⟩ = some (.string x.tb)
 z2 : w.cell? ⟨p.block, p.off + 2, none⟩ = some (.string x.as_)
 z3 : w.cell? ⟨p.block, p.off + 3, none⟩ = some (.slice A0 n0 c0)
 k0 : n0 ≤ c0 ∧ c0 ≤ 9223372036854775807
 r0 : LN.rd w F A0 n0 x.on
theorem LQJ_at {w : World} {F : Nat → Prop} {A : Option Addr} {n i : Nat} {xs : List QJ} (h : LQJ.rd w F A n xs) (hi : i < n) : ∃ ad x A0 n0 c0, A = some ad ∧ xs[i]? = some x ∧ SQJ w F (ad.add (i * 4)) x A0 n0 c0 := by
 obtain ⟨ad, x, cs, e, hx, _, _, ⟨A0, n0, c0, rfl, ⟨a0, b0, h0⟩⟩, hc⟩ := Lay.rd_at h hi
 exact ⟨ad, x, A0, n0, c0, e, hx, ⟨hc 0 _ rfl, (by rw [← addr_more _ _ 1 (by omega)]; exact hc 1 _ rfl), (by rw [← addr_more _ _ 2 (by omega)]; exact hc 2 _ rfl), (by rw [← addr_more _ _ 3 (by omega)]; exact hc 3 _ rfl), ⟨a0, b0⟩, h0⟩⟩
theorem LQJ_own {e : TypeId} {w : World} {B : Nat} {G : Nat → Prop} {A : Option Addr} {n c i : Nat} {xs : List QJ} (h : LQJ.own e w B G A n c xs) (hi : i < n) : ∃ ad x A0 n0 c0, A = some ad ∧ xs[i]? = some x ∧ SQJ w G (ad.add (i * 4)) x A0 n0 c0 := by
 obtain ⟨ad, x, cs, e, hx, _, _, ⟨A0, n0, c0, rfl, ⟨a0, b0, h0⟩⟩, hc⟩ := Lay.own_at h hi
 exact ⟨ad, x, A0, n0, c0, e, hx, ⟨hc 0 _ rfl, (by rw [← addr_more _ _ 1 (by omega)]; exact hc 1 _ rfl), (by rw [← addr_more _ _ 2 (by omega)]; exact hc 2 _ rfl), (by rw [← addr_more _ _ 3 (by omega)]; exact hc 3 _ rfl), ⟨a0, b0⟩, h0⟩⟩
abbrev QJ.cells (x : QJ) (A0 : Option Addr) (n0 c0 : Nat) : Array Value := #[.bool x.left, .string x.tb, .string x.as_, .slice A0 n0 c0]
def LQN : Lay QN where
 size := 2
 rep := fun _ _ x cs => cs = [.string x.tb, .string x.nm]
 len := fun h => by subst h; rfl
 one := fun h u hu => by subst h; simp at hu; rcases hu with rfl | rfl <;> rfl
 keep := fun _ h => h
 weak := fun _ h => h
structure SQN (w : World) (F : Nat → Prop) (p : Addr) (x : QN) : Prop where
 z0 : w.cell? p = some (.string x.tb)
 z1 : w.cell? ⟨p.block, p.off + 1, none⟩ = some (.string x.nm)
theorem LQN_at {w : World} {F : Nat → Prop} {A : Option Addr} {n i : Nat} {xs : List QN} (h : LQN.rd w F A n xs) (hi : i < n) : ∃ ad x, A = some ad ∧ xs[i]? = some x ∧ SQN w F (ad.add (i * 2)) x := by
 obtain ⟨ad, x, cs, e, hx, _, _, rfl, hc⟩ := Lay.rd_at h hi
 exact ⟨ad, x, e, hx, ⟨hc 0 _ rfl, (by rw [← addr_more _ _ 1 (by omega)]; exact hc 1 _ rfl)⟩⟩
abbrev QN.cells (x : QN) : Array Value := #[.string x.tb, .string x.nm]
def LQK : Lay QK where
 size := 3
 rep := fun _ _ x cs => cs = [.string x.nm, .int .i64 x.num, .bool x.desc]
 len := fun h => by subst h; rfl
 one := fun h u hu => by subst h; simp at hu; rcases hu with rfl | rfl | rfl <;> rfl
 keep := fun _ h => h
 weak := fun _ h => h
structure SQK (w : World) (F : Nat → Prop) (p : Addr) (x : QK) : Prop where
 z0 : w.cell? p = some (.string x.nm)
 z1 : w.cell? ⟨p.block, p.off + 1, none⟩ = some (.int .i64 x.num)
 z2 : w.cell? ⟨p.block, p.off + 2, none⟩ = some (.bool x.desc)
theorem LQK_at {w : World} {F : Nat → Prop} {A : Option Addr} {n i : Nat} {xs : List QK} (h : LQK.rd w F A n xs) (hi : i < n) : ∃ ad x, A = some ad ∧ xs[i]? = some x ∧ SQK w F (ad.add (i * 3)) x := by
 obtain ⟨ad, x, cs, e, hx, _, _, rfl, hc⟩ := Lay.rd_at h hi
 exact ⟨ad, x, e, hx, ⟨hc 0 _ rfl, (by rw [← addr_more _ _ 1 (by omega)]; exact hc 1 _ rfl), (by rw [← addr_more _ _ 2 (by omega)]; exact hc 2 _ rfl)⟩⟩
abbrev QK.cells (x : QK) : Array Value := #[.string x.nm, .int .i64 x.num, .bool x.desc]
def LQS : Lay QS where
 size := 9
 rep := fun w F x cs => ∃ A0 n0 c0 A1 n1 c1 A2 n2 c2 A3 n3 c3 A4 n4 c4, cs = [.bool x.dis, .bool x.star, .slice A0 n0 c0, .string x.ftb, .string x.fas, .slice A1 n1 c1, .slice A2 n2 c2, .slice A3 n3 c3, .slice A4 n4 c4] ∧ (n0 ≤ c0 ∧ c0 ≤ 9223372036854775807 ∧ LQI.rd w F A0 n0 x.items) ∧ (n1 ≤ c1 ∧ c1 ≤ 9223372036854775807 ∧ LQJ.rd w F A1 n1 x.joins) ∧ (n2 ≤ c2 ∧ c2 ≤ 9223372036854775807 ∧ LN.rd w F A2 n2 x.wh) ∧ (n3 ≤ c3 ∧ c3 ≤ 9223372036854775807 ∧ LN.rd w F A3 n3 x.hv) ∧ (n4 ≤ c4 ∧ c4 ≤ 9223372036854775807 ∧ LQN.rd w F A4 n4 x.grp)
 len := fun h => by obtain ⟨A0, n0, c0, A1, n1, c1, A2, n2, c2, A3, n3, c3, A4, n4, c4, rfl, _⟩ := h; rfl
 one := fun h u hu => by obtain ⟨A0, n0, c0, A1, n1, c1, A2, n2, c2, A3, n3, c3, A4, n4, c4, rfl, _⟩ := h; simp at hu; rcases hu with rfl | rfl | rfl | rfl | rfl | rfl | rfl | rfl | rfl <;> rfl
 keep := fun hk h => by obtain ⟨A0, n0, c0, A1, n1, c1, A2, n2, c2, A3, n3, c3, A4, n4, c4, e, ⟨a0, b0, h0⟩, ⟨a1, b1, h1⟩, ⟨a2, b2, h2⟩, ⟨a3, b3, h3⟩, ⟨a4, b4, h4⟩⟩ := h; exact ⟨A0, n0, c0, A1, n1, c1, A2, n2, c2, A3, n3, c3, A4, n4, c4, e, ⟨a0, b0, Lay.rd_keep hk h0⟩, ⟨a1, b1, Lay.rd_keep hk h1⟩, ⟨a2, b2, Lay.rd_keep hk h2⟩, ⟨a3, b3, Lay.rd_keep hk h3⟩, ⟨a4, b4, Lay.rd_keep hk h4⟩⟩
 weak := fun hk h => by obtain ⟨A0, n0, c0, A1, n1, c1, A2, n2, c2, A3, n3, c3, A4, n4, c4, e, ⟨a0, b0, h0⟩, ⟨a1, b1, h1⟩, ⟨a2, b2, h2⟩, ⟨a3, b3, h3⟩, ⟨a4, b4, h4⟩⟩ := h; exact ⟨A0, n0, c0, A1, n1, c1, A2, n2, c2, A3, n3, c3, A4, n4, c4, e, ⟨a0, b0, Lay.rd_weak hk h0⟩, ⟨a1, b1, Lay.rd_weak hk h1⟩, ⟨a2, b2, Lay.rd_weak hk h2⟩, ⟨a3, b3, Lay.rd_weak hk h3⟩, ⟨a4, b4, Lay.rd_weak hk h4⟩⟩
structure SQS (w : World) (F : Nat → Prop) (p : Addr) (x : QS) (A0 : Option Addr) (n0 c0 : Nat) (A1 : Option Addr) (n1 c1 : Nat) (A2 : Option Addr) (n2 c2 : Nat) (A3 : Option Addr) (n3 c3 : Nat) (A4 : Option Addr) (n4 c4 : Nat) : Prop where
 z0 : w.cell? p = some (.bool x.dis)
 z1 : w.cell? ⟨p.block, p.off + 1, none⟩ = some (.bool x.star)
 z2 : w.cell? ⟨p.block, p.off + 2, none⟩ = some (.slice A0 n0 c0)
 z3 : w.cell? ⟨p.block, p.off + 3, none⟩ = some (.string x.ftb)
 z4 : w.cell? ⟨p.block, p.off + 4, none⟩ = some (.string x.fas)
 z5 : w.cell? ⟨p.block, p.off + 5, none⟩ = some (.slice A1 n1 c1)
 z6 : w.cell? ⟨p.block, p.off + 6, none⟩ = some (.slice A2 n2 c2)
 z7 : w.cell? ⟨p.block, p.off + 7, none⟩ = some (.slice A3 n3 c3)
 z8 : w.cell? ⟨p.block, p.off + 8, none⟩ = some (.slice A4 n4 c4)
 k0 : n0 ≤ c0 ∧ c0 ≤ 9223372036854775807
 r0 : LQI.rd w F A0 n0 x.items
 k1 : n1 ≤ c1 ∧ c1 ≤ 9223372036854775807
 r1 : LQJ.rd w F A1 n1 x.joins
 k2 : n2 ≤ c2 ∧ c2 ≤ 9223372036854775807
 r2 : LN.rd w F A2 n2 x.wh
 k3 : n3 ≤ c3 ∧ c3 ≤ 9223372036854775807
 r3 : LN.rd w F A3 n3 x.hv
 k4 : n4 ≤ c4 ∧ c4 ≤ 9223372036854775807
 r4 : LQN.rd w F A4 n4 x.grp
theorem LQS_at {w : World} {F : Nat → Prop} {A : Option Addr} {n i : Nat} {xs : List QS} (h : LQS.rd w F A n xs) (hi : i < n) : ∃ ad x A0 n0 c0 A1 n1 c1 A2 n2 c2 A3 n3 c3 A4 n4 c4, A = some ad ∧ xs[i]? = some x ∧ SQS w F (ad.add (i * 9)) x A0 n0 c0 A1 n1 c1 A2 n2 c2 A3 n3 c3 A4 n4 c4 := by
 obtain ⟨ad, x, cs, e, hx, _, _, ⟨A0, n0, c0, A1, n1, c1, A2, n2, c2, A3, n3, c3, A4, n4, c4, rfl, ⟨a0, b0, h0⟩, ⟨a1, b1, h1⟩, ⟨a2, b2, h2⟩, ⟨a3, b3, h3⟩, ⟨a4, b4, h4⟩⟩, hc⟩ := Lay.rd_at h hi
 exact ⟨ad, x, A0, n0, c0, A1, n1, c1, A2, n2, c2, A3, n3, c3, A4, n4, c4, e, hx, ⟨hc 0 _ rfl, (by rw [← addr_more _ _ 1 (by omega)]; exact hc 1 _ rfl), (by rw [← addr_more _ _ 2 (by omega)]; exact hc 2 _ rfl), (by rw [← addr_more _ _ 3 (by omega)]; exact hc 3 _ rfl), (by rw [← addr_more _ _ 4 (by omega)]; exact hc 4 _ rfl), (by rw [← addr_more _ _ 5 (by omega)]; exact hc 5 _ rfl), (by rw [← addr_more _ _ 6 (by omega)]; exact hc 6 _ rfl), (by rw [← addr_more _ _ 7 (by omega)]; exact hc 7 _ rfl), (by rw [← addr_more _ _ 8 (by omega)]; exact hc 8 _ rfl), ⟨a0, b0⟩, h0, ⟨a1, b1⟩, h1, ⟨a2, b2⟩, h2, ⟨a3, b3⟩, h3, ⟨a4, b4⟩, h4⟩⟩
theorem LQS_own {e : TypeId} {w : World} {B : Nat} {G : Nat → Prop} {A : Option Addr} {n c i : Nat} {xs : List QS} (h : LQS.own e w B G A n c xs) (hi : i < n) : ∃ ad x A0 n0 c0 A1 n1 c1 A2 n2 c2 A3 n3 c3 A4 n4 c4, A = some ad ∧ xs[i]? = some x ∧ SQS w G (ad.add (i * 9)) x A0 n0 c0 A1 n1 c1 A2 n2 c2 A3 n3 c3 A4 n4 c4 := by
 obtain ⟨ad, x, cs, e, hx, _, _, ⟨A0, n0, c0, A1, n1, c1, A2, n2, c2, A3, n3, c3, A4, n4, c4, rfl, ⟨a0, b0, h0⟩, ⟨a1, b1, h1⟩, ⟨a2, b2, h2⟩, ⟨a3, b3, h3⟩, ⟨a4, b4, h4⟩⟩, hc⟩ := Lay.own_at h hi
 exact ⟨ad, x, A0, n0, c0, A1, n1, c1, A2, n2, c2, A3, n3, c3, A4, n4, c4, e, hx, ⟨hc 0 _ rfl, (by rw [← addr_more _ _ 1 (by omega)]; exact hc 1 _ rfl), (by rw [← addr_more _ _ 2 (by omega)]; exact hc 2 _ rfl), (by rw [← addr_more _ _ 3 (by omega)]; exact hc 3 _ rfl), (by rw [← addr_more _ _ 4 (by omega)]; exact hc 4 _ rfl), (by rw [← addr_more _ _ 5 (by omega)]; exact hc 5 _ rfl), (by rw [← addr_more _ _ 6 (by omega)]; exact hc 6 _ rfl), (by rw [← addr_more _ _ 7 (by omega)]; exact hc 7 _ rfl), (by rw [← addr_more _ _ 8 (by omega)]; exact hc 8 _ rfl), ⟨a0, b0⟩, h0, ⟨a1, b1⟩, h1, ⟨a2, b2⟩, h2, ⟨a3, b3⟩, h3, ⟨a4, b4⟩, h4⟩⟩
abbrev QS.cells (x : QS) (A0 : Option Addr) (n0 c0 : Nat) (A1 : Option Addr) (n1 c1 : Nat) (A2 : Option Addr) (n2 c2 : Nat) (A3 : Option Addr) (n3 c3 : Nat) (A4 : Option Addr) (n4 c4 : Nat) : Array Value := #[.bool x.dis, .bool x.star, .slice A0 n0 c0, .string x.ftb, .string x.fas, .slice A1 n1 c1, .slice A2 n2 c2, .slice A3 n3 c3, .slice A4 n4 c4]
abbrev QC.val (x : QC) (A : Option Addr) (n c : Nat) (B : Option Addr) (m d : Nat) : Value := .agg #[.slice A n c, .slice B m d, .int .i64 x.lim]
end Go.Proofs.YtoaggmldekejoaaGreatDoor
/- bowspritlaw08.cut of selects, keys, items, joins, names; a part of one element of an owned row stored. Conditions: the slice reads so. -/
namespace Go.Proofs.YtoaggmldekejoaaGreatDoor
open Go.RowKit
theorem row_setCells {B g s n c : Nat} {e : TypeId} : ∀ (vs : List Value) (o : Nat) {w : World} {L : List Value}, w.ownsRow B e s (.slice (some ⟨g, 0, none⟩) n c) n L → o + vs.length ≤ L.length →
 (w.setCells g o vs).ownsRow B e s (.slice (some ⟨g, 0, none⟩) n c) n (L.take o ++ vs ++ L.drop (o + vs.length)) ∧ w.grownBy (w.setCells g o vs) (some g)
 | [], o, w, L, h, _ => by simp only [World.setCells, List.append_nil, List.length_nil, Nat.add_zero, List.take_append_drop]; exact ⟨h, World.grownBy.refl _ _⟩
 | v :: vs, o, w, L, h, hl => by
  simp only [List.length_cons] at hl
  have h1 := World.ownsRow.stored h o v
  have h2 := row_setCells vs (o + 1) h1.1 (by rw [List.length_set]; omega)
  have hL : (L.set o v).take (o + 1) ++ vs ++ (L.set o v).drop (o + 1 + vs.length) = L.take o ++ (v :: vs) ++ L.drop (o + (v :: vs).length) := by
   rw [List.take_add_one, List.take_set, List.set_eq_of_length_le (l := L.take o) (by rw [List.length_take]; omega), List.getElem?_set_self (by omega), List.drop_set_of_lt (by omega), List.length_cons, show o + (vs.length + 1) = o + 1 + vs.length from by omega]
   simp
  rw [hL] at h2
  exact ⟨h2.1, grown_setCells _ _ _ (World.grownBy.refl _ _)⟩
/-- a part of one of several -/
theorem Lay.reps_part {α : Type} {L : Lay α} {w : World} {F : Nat → Prop} {x y : α} {j : Nat} {vs : List Value} (hj : j + vs.length ≤ L.size) (hr : ∀ ds, L.rep w F y ds → L.rep w F x (ds.take j ++ vs ++ ds.drop (j + vs.length))) :
 ∀ {xs : List α} {cs : List Value} {i : Nat}, L.reps w F xs cs → xs[i]? = some y → L.reps w F (xs.set i x) (cs.take (i * L.size + j) ++ vs ++ cs.drop (i * L.size + j + vs.length))
 | [], _, _, _, h => by simp at h
 | z :: l, _, 0, ⟨a, b, rfl, ha, hb⟩, h => by
  simp at h
  subst h
  have hl := L.len ha
  refine ⟨a.take j ++ vs ++ a.drop (j + vs.length), b, ?_, hr a ha, hb⟩
  rw [Nat.zero_mul, Nat.zero_add, List.take_append_of_le_length (by omega), List.drop_append_of_le_length (by omega), List.append_assoc (a.take j ++ vs)]
 | z :: l, _, i + 1, ⟨a, b, rfl, ha, hb⟩, h => by
  have hl := L.len ha
  have ih := Lay.reps_part hj hr (i := i) hb (by simpa using h)
  refine ⟨a, _, ?_, ha, ih⟩
  rw [show (i + 1) * L.size + j = a.length + (i * L.size + j) from by rw [Nat.succ_mul, hl]; omega, show a.length + (i * L.size + j) + vs.length = a.length + (i * L.size + j + vs.length) from by omega, List.take_length_add_append, List.drop_length_add_append]
  simp
theorem Lay.own_part {α : Type} {L : Lay α} {e : TypeId} {w : World} {B g n c i j : Nat} {G : Nat → Prop} {xs : List α} {x y : α} {vs : List Value} (h : L.own e w B G (some ⟨g, 0, none⟩) n c xs) (hy : xs[i]? = some y) (hj : j + vs.length ≤ L.size)
 (hr : ∀ ds, L.rep w (fun b => G b ∧ b ≠ g) y ds → L.rep w (fun b => G b ∧ b ≠ g) x (ds.take j ++ vs ++ ds.drop (j + vs.length))) :
 L.own e (w.setCells g (i * L.size + j) vs) B G (some ⟨g, 0, none⟩) n c (xs.set i x) ∧ w.grownBy (w.setCells g (i * L.size + j) vs) (some g) := by
 obtain ⟨hl, cs, hreps, hrow⟩ := h
 obtain ⟨hi, _⟩ := List.getElem?_eq_some_iff.1 hy
 have hcl := Lay.reps_len hreps
 have hle : i * L.size + j + vs.length ≤ cs.length := by
  rw [hcl]
  have : (i + 1) * L.size ≤ xs.length * L.size := Nat.mul_le_mul_right _ hi
  rw [Nat.succ_mul] at this
  omega
 obtain ⟨h1, h2⟩ := row_setCells vs (i * L.size + j) hrow hle
 have hF : ∀ b, (G b ∧ (Value.slice (some ⟨g, 0, none⟩) n c).ownBlock ≠ some b) ↔ (G b ∧ b ≠ g) := fun b => by simp [Value.ownBlock, eq_comm]
 have hr0 := Lay.reps_weak (fun b hb _ => (hF b).1 hb) hreps
 have hr1 := Lay.reps_part hj hr hr0 hy
 refine ⟨⟨by rw [List.length_set]; exact hl, _, Lay.reps_weak (fun b hb _ => (hF b).2 hb) (Lay.reps_keep (fun b hb hlt => h2.block b hlt (fun e => hb.2 (by injection e))) hr1), h1⟩, h2⟩
theorem addr_zero (g i : Nat) : (⟨g, 0, none⟩ : Addr).add i = ⟨g, i, none⟩ := by unfold Addr.add; split <;> simp_all
theorem own_frozen {α : Type} {L : Lay α} {e : TypeId} {w : World} {B n c g : Nat} {G : Nat → Prop} {xs : List α} (h : L.own e w B G (some ⟨g, 0, none⟩) n c xs) (i : Nat) : w.frozen? ⟨g, i, none⟩ = false := by
 obtain ⟨_, cs, _, _, h2⟩ := h
 rcases h2 with ⟨e, _⟩ | ⟨g', cap, cur, e, _, hb, _⟩
 · cases e
 · injection e with e
   injection e with e
   injection e with e
   subst e
   exact Blk.frozen hb i
theorem own_there {α : Type} {L : Lay α} {e : TypeId} {w : World} {B n c g i j k : Nat} {G : Nat → Prop} {xs : List α} (h : L.own e w B G (some ⟨g, 0, none⟩) n c xs) (hi : i < n) (hj : j + k ≤ L.size) : w.there g (i * L.size + j) k := by
 intro x hx
 refine ⟨?_, own_frozen h _⟩
 obtain ⟨hl, cs, hreps, hrow⟩ := h
 have hcl := Lay.reps_len hreps
 have h2 : (i + 1) * L.size ≤ xs.length * L.size := Nat.mul_le_mul_right _ (by omega)
 rw [Nat.succ_mul] at h2
 have hlt : i * L.size + j + x < cs.length := by omega
 have := hrow.cells (g := g) rfl (i * L.size + j + x) _ (List.getElem?_eq_getElem hlt)
 rw [addr_zero] at this
 rw [this]; rfl
theorem exec_store_there {P : Program} {o : Oper} {a : Act} {w : World} (ty : TypeId) (x y : Operand) (ho : o.op = .store ty x y) (g k : Nat) (new : Array Value) (hx : a.eval x = .pointer (some ⟨g, k, none⟩)) (hy : a.eval y = .agg new) (hth : w.there g k new.size)
 (hi : (P.info? ty).map (·.size) = some new.size) (h1 : new.all (·.oneCell') = true) : (execOp a.eval o).run P w = .ok .skip (w.setCells g k new.toList) := by
 unfold execOp
 simp only [ho, hx, hy, Instr.storeAt, Instr.sureAddr, Sem.run_bind, Sem.run_pure, Result.andThen_ok, run_storeVar_mid w g k ty new hth hi h1]
def cellOf (v : Value) : Value := match v with | .agg a => a.getD 0 undef | u => u
theorem cellOf_agg (x : Value) : cellOf (.agg #[x]) = x := rfl
theorem grown_two2 {w1 w2 w3 : World} {k : Option Nat} (h : w1.grownBy w2 k) (h2 : w2.grownBy w3 k) : w1.grownBy w3 k :=
 ⟨h2.os.trans h.os, h2.tape.trans h.tape, h2.output.trans h.output, Nat.le_trans h.size h2.size, fun b hb hne => (h2.block b (Nat.lt_of_lt_of_le hb h.size) hne).trans (h.block b hb hne)⟩
theorem SeqN.le (pre post : List Nat) {T : World → Prop} {B : Nat → (Nat → Value) → World → Prop} {L : Array Bool} {m : Nat → Value} {w : World} (hd : ∀ x ∈ post, Dn L x = false) (t : ∀ j m w, j ≤ pre.length → B j m w → T w) (hS : SeqN (pre ++ post) B L m w) : T w := by
 refine t _ _ _ ?_ hS
 rw [cntD_append, cntD_none hd, Nat.add_zero]
 have : ∀ ks : List Nat, cntD L ks ≤ ks.length := fun ks => by
  induction ks with
  | nil => exact Nat.le_refl _
  | cons k ks ih => unfold cntD; rw [List.length_cons]; split <;> omega
 exact this pre
theorem infoQK : (Tryz.prog.info? 79).map (fun i => (i.zero, i.size, i.bytes)) = some (some (.agg #[.string ⟨#[]⟩, .int .i64 0, .bool false]), 3, 32) := by kernel_rfl
set_option maxRecDepth 100000 in
set_option maxHeartbeats 4000000 in
theorem qcutK (F : Nat → Prop) (A : Option Addr) (m c most : Nat) (xs : List QK) (w : World) (h : LQK.rd w F A m xs) (hmc : m ≤ c) (hc : c ≤ 9223372036854775807) (hmost : most ≤ 100) :
 Calls Tryz.prog 33 #[.slice A m c, .int .i64 most] w fun e w' => ∃ A' c', e = .returned (.slice A' (min m most) c') ∧ LQK.own 79 w' w.heap.size (fun b => F b ∧ b < w.heap.size) A' (min m most) c' (xs.take most) ∧ Below w.heap.size w w' := by
 obtain ⟨kk, hkk⟩ : ∃ kk, kk = min m most := ⟨_, rfl⟩
 have hk1 : kk ≤ m := by omega
 have hk2 : kk ≤ 100 := by omega
 have hmn : min (m : Int) (most : Int) = (kk : Int) := by omega
 have hkc : (kk : Int) ≤ (c : Int) := by omega
 have htk : xs.take most = xs.take kk := by
  have := Lay.rd_len h
  rw [hkk, ← this, List.take_eq_take_iff]; omega
 rw [← hkk, htk]
 have oe := Lay.own_empty LQK w 79 (fun b => F b ∧ b < w.heap.size) (by decide)
 have b1 := bl_al (Below.refl w.heap.size w) (.cells #[] 79)
 have h2 : LQK.rd (w.alloc (.cells #[] 79)) (fun b => F b ∧ b < w.heap.size) A kk (xs.take kk) := Lay.rd_below (Lay.rd_weak (fun b hb hl => ⟨hb, hl⟩) (Lay.rd_take h hk1)) b1
 have hz := b1.size
 have HOE := Lib.hid oe
 have HH2 := Lib.hid h2
 have HB := Lib.hid b1
 clear h h2 oe b1 hkk htk
 go_enter Tryz.func33, Tryz.ntmps33
 go_wp2_with (at_builtin; refine wpList_appLs (L := LQK) (e := 79) rfl (.tmp 5) (.tmp 11) 41 rfl (.agg #[.string ⟨#[]⟩, .int .i64 0, .bool false]) 3 32 Tryz.underlying41 infoQK rfl rfl (by decide) w.heap.size (fun b => F b ∧ b < w.heap.size) (fun b => F b ∧ b < w.heap.size) (some ⟨w.heap.size, 0, none⟩) 0 0 [] A kk c (xs.take kk) kk (by omega) rfl rfl HOE.out HH2.out (fun b hb _ => ⟨hb, fun e => by simp [Value.ownBlock] at e; have := hb.2; omega⟩) (fun b hb => Nat.lt_of_lt_of_le hb.2 hz) (by omega) (by unfold maxLen; omega) hz ?_; intro A4 c4 w4 o4 g4 _; rw [List.nil_append] at o4; have HO4 := Lib.hid o4; have HG4 := Lib.hid g4; clear o4 g4)
 go_ret
 exact ⟨A4, c4, rfl, HO4.out, HB.out.grown HG4.out hz (fun k e => by simp [Value.ownBlock] at e; omega)⟩
theorem infoQI : (Tryz.prog.info? 82).map (fun i => (i.zero, i.size, i.bytes)) = some (some (.agg #[.slice none 0 0, .string ⟨#[]⟩]), 2, 40) := by kernel_rfl
set_option maxRecDepth 100000 in
set_option maxHeartbeats 4000000 in
theorem qcutI (F : Nat → Prop) (A : Option Addr) (m c most : Nat) (xs : List QI) (w : World) (h : LQI.rd w F A m xs) (hmc : m ≤ c) (hc : c ≤ 9223372036854775807) (hmost : most ≤ 100) :
 Calls Tryz.prog 34 #[.slice A m c, .int .i64 most] w fun e w' => ∃ A' c', e = .returned (.slice A' (min m most) c') ∧ LQI.own 82 w' w.heap.size (fun b => F b ∧ b < w.heap.size) A' (min m most) c' (xs.take most) ∧ Below w.heap.size w w' := by
 obtain ⟨kk, hkk⟩ : ∃ kk, kk = min m most := ⟨_, rfl⟩
 have hk1 : kk ≤ m := by omega
 have hk2 : kk ≤ 100 := by omega
 have hmn : min (m : Int) (most : Int) = (kk : Int) := by omega
 have hkc : (kk : Int) ≤ (c : Int) := by omega
 have htk : xs.take most = xs.take kk := by
  have := Lay.rd_len h
  rw [hkk, ← this, List.take_eq_take_iff]; omega
 rw [← hkk, htk]
 have oe := Lay.own_empty LQI w 82 (fun b => F b ∧ b < w.heap.size) (by decide)
 have b1 := bl_al (Below.refl w.heap.size w) (.cells #[] 82)
 have h2 : LQI.rd (w.alloc (.cells #[] 82)) (fun b => F b ∧ b < w.heap.size) A kk (xs.take kk) := Lay.rd_below (Lay.rd_weak (fun b hb hl => ⟨hb, hl⟩) (Lay.rd_take h hk1)) b1
 have hz := b1.size
 have HOE := Lib.hid oe
 have HH2 := Lib.hid h2
 have HB := Lib.hid b1
 clear h h2 oe b1 hkk htk
 go_enter Tryz.func34, Tryz.ntmps34
 go_wp2_with (at_builtin; refine wpList_appLs (L := LQI) (e := 82) rfl (.tmp 5) (.tmp 11) 70 rfl (.agg #[.slice none 0 0, .string ⟨#[]⟩]) 2 40 Tryz.underlying70 infoQI rfl rfl (by decide) w.heap.size (fun b => F b ∧ b < w.heap.size) (fun b => F b ∧ b < w.heap.size) (some ⟨w.heap.size, 0, none⟩) 0 0 [] A kk c (xs.take kk) kk (by omega) rfl rfl HOE.out HH2.out (fun b hb _ => ⟨hb, fun e => by simp [Value.ownBlock] at e; have := hb.2; omega⟩) (fun b hb => Nat.lt_of_lt_of_le hb.2 hz) (by omega) (by unfold maxLen; omega) hz ?_; intro A4 c4 w4 o4 g4 _; rw [List.nil_append] at o4; have HO4 := Lib.hid o4; have HG4 := Lib.hid g4; clear o4 g4)
 go_ret
 exact ⟨A4, c4, rfl, HO4.out, HB.out.grown HG4.out hz (fun k e => by simp [Value.ownBlock] at e; omega)⟩
theorem infoQJ : (Tryz.prog.info? 85).map (fun i => (i.zero, i.size, i.bytes)) = some (some (.agg #[.bool false, .string ⟨#[]⟩, .string ⟨#[]⟩, .slice none 0 0]), 4, 64) := by kernel_rfl
set_option maxRecDepth 100000 in
set_option maxHeartbeats 4000000 in
theorem qcutJ (F : Nat → Prop) (A : Option Addr) (m c most : Nat) (xs : List QJ) (w : World) (h : LQJ.rd w F A m xs) (hmc : m ≤ c) (hc : c ≤ 9223372036854775807) (hmost : most ≤ 100) :
 Calls Tryz.prog 35 #[.slice A m c, .int .i64 most] w fun e w' => ∃ A' c', e = .returned (.slice A' (min m most) c') ∧ LQJ.own 85 w' w.heap.size (fun b => F b ∧ b < w.heap.size) A' (min m most) c' (xs.take most) ∧ Below w.heap.size w w' := by
 obtain ⟨kk, hkk⟩ : ∃ kk, kk = min m most := ⟨_, rfl⟩
 have hk1 : kk ≤ m := by omega
 have hk2 : kk ≤ 100 := by omega
 have hmn : min (m : Int) (most : Int) = (kk : Int) := by omega
 have hkc : (kk : Int) ≤ (c : Int) := by omega
 have htk : xs.take most = xs.take kk := by
  have := Lay.rd_len h
  rw [hkk, ← this, List.take_eq_take_iff]; omega
 rw [← hkk, htk]
 have oe := Lay.own_empty LQJ w 85 (fun b => F b ∧ b < w.heap.size) (by decide)
 have b1 := bl_al (Below.refl w.heap.size w) (.cells #[] 85)
 have h2 : LQJ.rd (w.alloc (.cells #[] 85)) (fun b => F b ∧ b < w.heap.size) A kk (xs.take kk) := Lay.rd_below (Lay.rd_weak (fun b hb hl => ⟨hb, hl⟩) (Lay.rd_take h hk1)) b1
 have hz := b1.size
 have HOE := Lib.hid oe
 have HH2 := Lib.hid h2
 have HB := Lib.hid b1
 clear h h2 oe b1 hkk htk
 go_enter Tryz.func35, Tryz.ntmps35
 go_wp2_with (at_builtin; refine wpList_appLs (L := LQJ) (e := 85) rfl (.tmp 5) (.tmp 11) 73 rfl (.agg #[.bool false, .string ⟨#[]⟩, .string ⟨#[]⟩, .slice none 0 0]) 4 64 Tryz.underlying73 infoQJ rfl rfl (by decide) w.heap.size (fun b => F b ∧ b < w.heap.size) (fun b => F b ∧ b < w.heap.size) (some ⟨w.heap.size, 0, none⟩) 0 0 [] A kk c (xs.take kk) kk (by omega) rfl rfl HOE.out HH2.out (fun b hb _ => ⟨hb, fun e => by simp [Value.ownBlock] at e; have := hb.2; omega⟩) (fun b hb => Nat.lt_of_lt_of_le hb.2 hz) (by omega) (by unfold maxLen; omega) hz ?_; intro A4 c4 w4 o4 g4 _; rw [List.nil_append] at o4; have HO4 := Lib.hid o4; have HG4 := Lib.hid g4; clear o4 g4)
 go_ret
 exact ⟨A4, c4, rfl, HO4.out, HB.out.grown HG4.out hz (fun k e => by simp [Value.ownBlock] at e; omega)⟩
theorem infoQN : (Tryz.prog.info? 88).map (fun i => (i.zero, i.size, i.bytes)) = some (some (.agg #[.string ⟨#[]⟩, .string ⟨#[]⟩]), 2, 32) := by kernel_rfl
set_option maxRecDepth 100000 in
set_option maxHeartbeats 4000000 in
theorem qcutN (F : Nat → Prop) (A : Option Addr) (m c most : Nat) (xs : List QN) (w : World) (h : LQN.rd w F A m xs) (hmc : m ≤ c) (hc : c ≤ 9223372036854775807) (hmost : most ≤ 100) :
 Calls Tryz.prog 36 #[.slice A m c, .int .i64 most] w fun e w' => ∃ A' c', e = .returned (.slice A' (min m most) c') ∧ LQN.own 88 w' w.heap.size (fun b => F b ∧ b < w.heap.size) A' (min m most) c' (xs.take most) ∧ Below w.heap.size w w' := by
 obtain ⟨kk, hkk⟩ : ∃ kk, kk = min m most := ⟨_, rfl⟩
 have hk1 : kk ≤ m := by omega
 have hk2 : kk ≤ 100 := by omega
 have hmn : min (m : Int) (most : Int) = (kk : Int) := by omega
 have hkc : (kk : Int) ≤ (c : Int) := by omega
 have htk : xs.take most = xs.take kk := by
  have := Lay.rd_len h
  rw [hkk, ← this, List.take_eq_take_iff]; omega
 rw [← hkk, htk]
 have oe := Lay.own_empty LQN w 88 (fun b => F b ∧ b < w.heap.size) (by decide)
 have b1 := bl_al (Below.refl w.heap.size w) (.cells #[] 88)
 have h2 : LQN.rd (w.alloc (.cells #[] 88)) (fun b => F b ∧ b < w.heap.size) A kk (xs.take kk) := Lay.rd_below (Lay.rd_weak (fun b hb hl => ⟨hb, hl⟩) (Lay.rd_take h hk1)) b1
 have hz := b1.size
 have HOE := Lib.hid oe
 have HH2 := Lib.hid h2
 have HB := Lib.hid b1
 clear h h2 oe b1 hkk htk
 go_enter Tryz.func36, Tryz.ntmps36
 go_wp2_with (at_builtin; refine wpList_appLs (L := LQN) (e := 88) rfl (.tmp 5) (.tmp 11) 74 rfl (.agg #[.string ⟨#[]⟩, .string ⟨#[]⟩]) 2 32 Tryz.underlying74 infoQN rfl rfl (by decide) w.heap.size (fun b => F b ∧ b < w.heap.size) (fun b => F b ∧ b < w.heap.size) (some ⟨w.heap.size, 0, none⟩) 0 0 [] A kk c (xs.take kk) kk (by omega) rfl rfl HOE.out HH2.out (fun b hb _ => ⟨hb, fun e => by simp [Value.ownBlock] at e; have := hb.2; omega⟩) (fun b hb => Nat.lt_of_lt_of_le hb.2 hz) (by omega) (by unfold maxLen; omega) hz ?_; intro A4 c4 w4 o4 g4 _; rw [List.nil_append] at o4; have HO4 := Lib.hid o4; have HG4 := Lib.hid g4; clear o4 g4)
 go_ret
 exact ⟨A4, c4, rfl, HO4.out, HB.out.grown HG4.out hz (fun k e => by simp [Value.ownBlock] at e; omega)⟩
theorem infoQS : (Tryz.prog.info? 76).map (fun i => (i.zero, i.size, i.bytes)) = some (some (.agg #[.bool false, .bool false, .slice none 0 0, .string ⟨#[]⟩, .string ⟨#[]⟩, .slice none 0 0, .slice none 0 0, .slice none 0 0, .slice none 0 0]), 9, 160) := by kernel_rfl
set_option maxRecDepth 100000 in
set_option maxHeartbeats 4000000 in
theorem qcutS (F : Nat → Prop) (A : Option Addr) (m c most : Nat) (xs : List QS) (w : World) (h : LQS.rd w F A m xs) (hmc : m ≤ c) (hc : c ≤ 9223372036854775807) (hmost : most ≤ 100) :
 Calls Tryz.prog 32 #[.slice A m c, .int .i64 most] w fun e w' => ∃ A' c', e = .returned (.slice A' (min m most) c') ∧ LQS.own 76 w' w.heap.size (fun b => F b ∧ b < w.heap.size) A' (min m most) c' (xs.take most) ∧ Below w.heap.size w w' := by
 obtain ⟨kk, hkk⟩ : ∃ kk, kk = min m most := ⟨_, rfl⟩
 have hk1 : kk ≤ m := by omega
 have hk2 : kk ≤ 100 := by omega
 have hmn : min (m : Int) (most : Int) = (kk : Int) := by omega
 have hkc : (kk : Int) ≤ (c : Int) := by omega
 have htk : xs.take most = xs.take kk := by
  have := Lay.rd_len h
  rw [hkk, ← this, List.take_eq_take_iff]; omega
 rw [← hkk, htk]
 have oe := Lay.own_empty LQS w 76 (fun b => F b ∧ b < w.heap.size) (by decide)
 have b1 := bl_al (Below.refl w.heap.size w) (.cells #[] 76)
 have h2 : LQS.rd (w.alloc (.cells #[] 76)) (fun b => F b ∧ b < w.heap.size) A kk (xs.take kk) := Lay.rd_below (Lay.rd_weak (fun b hb hl => ⟨hb, hl⟩) (Lay.rd_take h hk1)) b1
 have hz := b1.size
 have HOE := Lib.hid oe
 have HH2 := Lib.hid h2
 have HB := Lib.hid b1
 clear h h2 oe b1 hkk htk
 go_enter Tryz.func32, Tryz.ntmps32
 go_wp2_with (at_builtin; refine wpList_appLs (L := LQS) (e := 76) rfl (.tmp 5) (.tmp 11) 40 rfl (.agg #[.bool false, .bool false, .slice none 0 0, .string ⟨#[]⟩, .string ⟨#[]⟩, .slice none 0 0, .slice none 0 0, .slice none 0 0, .slice none 0 0]) 9 160 Tryz.underlying40 infoQS rfl rfl (by decide) w.heap.size (fun b => F b ∧ b < w.heap.size) (fun b => F b ∧ b < w.heap.size) (some ⟨w.heap.size, 0, none⟩) 0 0 [] A kk c (xs.take kk) kk (by omega) rfl rfl HOE.out HH2.out (fun b hb _ => ⟨hb, fun e => by simp [Value.ownBlock] at e; have := hb.2; omega⟩) (fun b hb => Nat.lt_of_lt_of_le hb.2 hz) (by omega) (by unfold maxLen; omega) hz ?_; intro A4 c4 w4 o4 g4 _; rw [List.nil_append] at o4; have HO4 := Lib.hid o4; have HG4 := Lib.hid g4; clear o4 g4)
 go_ret
 exact ⟨A4, c4, rfl, HO4.out, HB.out.grown HG4.out hz (fun k e => by simp [Value.ownBlock] at e; omega)⟩
end Go.Proofs.YtoaggmldekejoaaGreatDoor
