/- tree: a node over two parts; PrintTree. Conditions: the nodes read so; what the tables hold. -/
import Derived.Test.YtoaggmldekejoaaDoorPkM11
namespace Go.Proofs.YtoaggmldekejoaaDoor
open Go.RowKit
theorem par_len (x : Tr) : (parT x).length ≤ (prT x).length + 2 := by
  unfold parT; split
  · omega
  · rw [List.length_cons, List.length_append]; simp only [List.length_cons, List.length_nil]; omega
theorem sg_at {k : Nat} (h1 : 1 ≤ k) (h2 : k ≤ 23) : asigns[k]? = some (sgL (k : Int)) := by
  unfold asigns sgL
  obtain ⟨j, rfl⟩ : ∃ j, k = j + 1 := ⟨k - 1, by omega⟩
  rw [List.getElem?_cons_succ, Int.toNat_natCast, Nat.add_sub_cancel, List.getD_eq_getElem?_getD]
  have : j < sgs.length := by have : sgs.length = 23 := rfl; omega
  rw [List.getElem?_eq_getElem this]
  rfl
set_option maxRecDepth 100000 in
set_option maxHeartbeats 8000000 in
theorem node_two {F : Nat → Prop} {xs : List Nd} {A : Option Addr} {n c bt bn bp : Nat} {p : Py} {a b : Tr} {o : Nat} (hP : PartW F xs A n c bt bn bp a o) (hP2 : PartW F xs A n c bt bn bp b (o + a.size)) (hl : LiesAt xs (.two p a b) o) (hok : (Tr.two p a b).ok cntB = true) (hz : (prT a).length ≤ 99000) (hz2 : (prT b).length ≤ 99000) : NodeW F xs A n c bt bn bp (.two p a b) o := by
  obtain ⟨hpt, hcb, _⟩ := ok_two hok
  obtain ⟨tg, htp, _⟩ := one_zero hcb (.inr hpt)
  subst htp
  intro w hc
  have hrt := lies_root hl
  have hap := a.size_pos
  have hbp := b.size_pos
  have htg := tag_two hpt
  change 12 ≤ tg ∧ tg ≤ 23 at htg
  unfold PartW at hP hP2
  obtain ⟨i, hi⟩ : ∃ i, i = o + (Tr.two (zP tg) a b).size - 1 := ⟨_, rfl⟩
  obtain ⟨i1, hi1⟩ : ∃ i1, i1 = o + a.size - 1 := ⟨_, rfl⟩
  obtain ⟨i2, hi2⟩ : ∃ i2, i2 = o + a.size + b.size - 1 := ⟨_, rfl⟩
  rw [← hi] at hrt ⊢
  rw [← hi1] at hP
  rw [← hi2] at hP2
  have hin : i < n := by
    have := (List.getElem?_eq_some_iff.1 hrt).1
    rw [Lay.rd_len hc.rd] at this
    exact this
  obtain ⟨p3, x, hAe, hx, s3⟩ := LN_at hc.rd hin
  obtain rfl : A = some p3 := hAe
  have hxe := at_eq hrt hx
  subst hxe
  have hL : ((Tr.two (zP tg) a b).node o).l = (i1 : Int) := by show ((o + a.size : Nat) : Int) - 1 = _; omega
  have hR : ((Tr.two (zP tg) a b).node o).r = (i2 : Int) := by show ((o + a.size + b.size : Nat) : Int) - 1 = _; omega
  have e0 : w.cell? (p3.add (i * 9)) = some (.int .i64 tg) := s3.c0
  have e1 : w.cell? ⟨(p3.add (i * 9)).block, (p3.add (i * 9)).off + 1, none⟩ = some (.int .i64 (i1 : Int)) := by rw [← hL]; exact s3.c1
  have e2 : w.cell? ⟨(p3.add (i * 9)).block, (p3.add (i * 9)).off + 2, none⟩ = some (.int .i64 (i2 : Int)) := by rw [← hR]; exact s3.c2
  have e3 : w.cell? ⟨(p3.add (i * 9)).block, (p3.add (i * 9)).off + 3, none⟩ = some (.int .i64 0) := s3.c3
  have e4 : w.cell? ⟨(p3.add (i * 9)).block, (p3.add (i * 9)).off + 4, none⟩ = some (.int .i64 0) := s3.c4
  have e5 : w.cell? ⟨(p3.add (i * 9)).block, (p3.add (i * 9)).off + 5, none⟩ = some (.int .u64 0) := s3.c5
  have e6 : w.cell? ⟨(p3.add (i * 9)).block, (p3.add (i * 9)).off + 6, none⟩ = some (.string eB) := s3.c6
  have e7 : w.cell? ⟨(p3.add (i * 9)).block, (p3.add (i * 9)).off + 7, none⟩ = some (.string eB) := s3.c7
  have e8 : w.cell? ⟨(p3.add (i * 9)).block, (p3.add (i * 9)).off + 8, none⟩ = some (.string eB) := s3.c8
  have c1 := hc.tr
  have hin2 : (i : Int) < (n : Int) := by omega
  have HC := Lib.hid hc
  have HQ := Lib.hid (bl_al (Below.refl w.heap.size w) (.cells #[.int .i64 tg, .int .i64 (i1 : Int), .int .i64 (i2 : Int), .int .i64 0, .int .i64 0, .int .u64 0, .string eB, .string eB, .string eB] 27))
  have HB := Lib.hid (Blk.new w 27 #[.int .i64 tg, .int .i64 (i1 : Int), .int .i64 (i2 : Int), .int .i64 0, .int .i64 0, .int .u64 0, .string eB, .string eB, .string eB])
  have HPR := Lib.hid (show bS (parT a ++ (32 :: (sgL tg ++ (32 :: parT b)))) = bS (prT (.two (zP tg) a b)) from by rw [pr_two])
  generalize prT (.two (zP tg) a b) = R at *
  obtain ⟨ZA, hZA⟩ : ∃ Z, Z = bS (parT a) := ⟨_, rfl⟩
  obtain ⟨ZB, hZB⟩ : ∃ Z, Z = bS (parT b) := ⟨_, rfl⟩
  obtain ⟨SG, hSG⟩ : ∃ Z, Z = bS (sgL tg) := ⟨_, rfl⟩
  have HPA := Lib.hid hP
  have HPB := Lib.hid hP2
  rw [← hZA] at HPA
  rw [← hZB] at HPB
  have sa : ZA.size ≤ 99002 := by rw [hZA, bs_size]; have := par_len a; omega
  have sb : ZB.size ≤ 99002 := by rw [hZB, bs_size]; have := par_len b; omega
  have ss : SG.size ≤ 11 := by rw [hSG, bs_size]; exact sg_len tg
  have b1 : (⟨#[32]⟩ : ByteArray).size ≤ 1 := by decide
  have s1 : (ZA ++ ⟨#[32]⟩ : ByteArray).size ≤ 99003 := by rw [ByteArray.size_append]; omega
  have s2 : ((ZA ++ ⟨#[32]⟩) ++ SG : ByteArray).size ≤ 99014 := by rw [ByteArray.size_append]; omega
  have s3' : (((ZA ++ ⟨#[32]⟩) ++ SG) ++ ⟨#[32]⟩ : ByteArray).size ≤ 99015 := by rw [ByteArray.size_append]; omega
  have HF := Lib.hid (show (((ZA ++ ⟨#[32]⟩) ++ SG) ++ ⟨#[32]⟩) ++ ZB = bS R from by
    rw [← HPR.out, hZA, hZB, hSG]
    exact bS_of (by rw [ByteArray.data_append, Array.toList_append, ByteArray.data_append, Array.toList_append, ByteArray.data_append, Array.toList_append, ByteArray.data_append, Array.toList_append, List.append_assoc, List.append_assoc, List.append_assoc]; rfl))
  have HSG := Lib.hid hSG
  clear hc hrt hx s3 hcb hok hl hP hP2 hz hz2 hZA hZB hpt hi hi1 hi2 hL hR hap hbp hSG HPR
  go_enter Tryd.func35, Tryd.ntmps35
  go_upto_region 2 with fail
  generalize w.alloc (.cells #[.int .i64 tg, .int .i64 (i1 : Int), .int .i64 (i2 : Int), .int .i64 0, .int .i64 0, .int .u64 0, .string eB, .string eB, .string eB] 27) = w1 at *
  clear e0 e1 e2 e3 e4 e5 e6 e7 e8 c1
  have HC1 := Lib.hid (HC.out.below HQ.out)
  have e0 := HB.out.cell 0
  simp at e0
  obtain ⟨tk, htk⟩ : ∃ tk : Nat, tg = (tk : Int) := ⟨tg.toNat, by omega⟩
  subst htk
  have hsg := HC1.out.tab.sg tk _ (sg_at (by omega) (by omega))
  rw [← HSG.out] at hsg
  have h24 : (tk : Int) < 24 := by omega
  have h0 : 0 ≤ (tk : Int) := by omega
  have k1 : ((tk : Int) == 1) = false := by simp; omega
  have k2 : ((tk : Int) == 2) = false := by simp; omega
  have k3 : ((tk : Int) == 3) = false := by simp; omega
  have k4 : ((tk : Int) == 4) = false := by simp; omega
  have k5 : ((tk : Int) == 5) = false := by simp; omega
  have k6 : ((tk : Int) == 6) = false := by simp; omega
  have k7 : ((tk : Int) == 7) = false := by simp; omega
  have k8 : ((tk : Int) == 8) = false := by simp; omega
  have k9 : ((tk : Int) == 9) = false := by simp; omega
  have k10 : ((tk : Int) == 10) = false := by simp; omega
  have k11 : ((tk : Int) == 11) = false := by simp; omega
  clear htg
  go_upto_region 22 with fail
  have c3 := HC1.out.pt
  have HCC := Lib.hid HC1.out
  refine wp_region_ps (S := fun _ _ w' => Below w1.heap.size w1 w') (by kernel_rfl) ?spswg1 ?ppswg1
  case spswg1 =>
    exact (Below.refl w1.heap.size w1).drew
  refine Ps.st (i := 0) (d := some 73) (u := (.func (.func 34) #[] #[.pointer (some ⟨bn, 0, none⟩), .pointer (some ⟨bt, 0, none⟩)])) rfl rfl ?ywg1_2 ?rwg1_2
  case ywg1_2 =>
    refine StepS.read [] (by kernel_rfl) nP (by rfl) (fun L9 m9 w9 hSh hAt hDn hS => ?_)
    have hT : Below _ _ w9 := hS
    have x0 : w9.cell? ⟨bp, 0, none⟩ = some (.func (.func 34) #[] #[.pointer (some ⟨bn, 0, none⟩), .pointer (some ⟨bt, 0, none⟩)]) := ce c3 hT
    clear hT hS
    go_simp
    try rfl
  try simp only [Act.put, sA, sZ, sS]
  refine Ps.st (i := 1) (d := some 74) (u := (.pointer (some ⟨w.heap.size, 1, none⟩))) rfl rfl (by exact StepS.pure nP rfl fun _ => rfl) ?_
  try simp only [Act.put, sA, sZ, sS]
  refine Ps.st (i := 2) (d := some 75) (u := (.int .i64 ((i1 : Int)))) rfl rfl ?ywg1_4 ?rwg1_4
  case ywg1_4 =>
    refine StepS.read [] (by kernel_rfl) nP (by rfl) (fun L9 m9 w9 hSh hAt hDn hS => ?_)
    have hT : Below _ _ w9 := hS
    have x0 : w9.cell? ⟨w.heap.size, 1, none⟩ = some (.int .i64 ((i1 : Int))) := (HB.out.ca hT).cell 1
    clear hT hS
    go_simp
    try rfl
  try simp only [Act.put, sA, sZ, sS]
  refine Ps.st (i := 3) (d := some 76) (u := (.string ZA)) rfl rfl ?ywg1_5 ?rwg1_5
  case ywg1_5 =>
    refine StepS.call ?fwg1_5 ?awg1_5 [] (by kernel_rfl) (by rfl) (fun w9 => ?hwg1_5) (fun L9 m9 w9 hSh hAt hDn hS => ?cwg1_5)
    case hwg1_5 => go_simp; refine ⟨?_, ?_⟩ <;> rfl
    case cwg1_5 =>
      have hT : Below _ _ w9 := hS
      refine (HPA.out _ (HCC.out.below hT)).mono ?_
      rintro e w8 ⟨rfl, q8⟩
      exact ⟨rfl, bl_ca hT q8⟩
  try simp only [Act.put, sA, sZ, sS]
  refine Ps.st (i := 4) (d := some 77) (u := (.string ((ZA ++ ⟨#[32]⟩)))) rfl rfl ?ywg1_6 ?rwg1_6
  case ywg1_6 =>
    refine StepS.pure nP (by rfl) (fun w9 => ?_)
    have hz9 := trivial
    (go_simp; omega)
  try simp only [Act.put, sA, sZ, sS]
  refine Ps.st (i := 5) (d := some 78) (u := (.string SG)) rfl rfl (by exact StepS.pure nP rfl fun _ => rfl) ?_
  try simp only [Act.put, sA, sZ, sS]
  refine Ps.st (i := 6) (d := some 79) (u := (.string (((ZA ++ ⟨#[32]⟩) ++ SG)))) rfl rfl ?ywg1_8 ?rwg1_8
  case ywg1_8 =>
    refine StepS.pure nP (by rfl) (fun w9 => ?_)
    have hz9 := trivial
    (go_simp; omega)
  try simp only [Act.put, sA, sZ, sS]
  refine Ps.st (i := 7) (d := some 80) (u := (.string ((((ZA ++ ⟨#[32]⟩) ++ SG) ++ ⟨#[32]⟩)))) rfl rfl ?ywg1_9 ?rwg1_9
  case ywg1_9 =>
    refine StepS.pure nP (by rfl) (fun w9 => ?_)
    have hz9 := trivial
    (go_simp; omega)
  try simp only [Act.put, sA, sZ, sS]
  refine Ps.st (i := 8) (d := some 81) (u := (.func (.func 34) #[] #[.pointer (some ⟨bn, 0, none⟩), .pointer (some ⟨bt, 0, none⟩)])) rfl rfl ?ywg1_10 ?rwg1_10
  case ywg1_10 =>
    refine StepS.read [] (by kernel_rfl) nP (by rfl) (fun L9 m9 w9 hSh hAt hDn hS => ?_)
    have hT : Below _ _ w9 := hS
    have x0 : w9.cell? ⟨bp, 0, none⟩ = some (.func (.func 34) #[] #[.pointer (some ⟨bn, 0, none⟩), .pointer (some ⟨bt, 0, none⟩)]) := ce c3 hT
    clear hT hS
    go_simp
    try rfl
  try simp only [Act.put, sA, sZ, sS]
  refine Ps.st (i := 9) (d := some 82) (u := (.pointer (some ⟨w.heap.size, 2, none⟩))) rfl rfl (by exact StepS.pure nP rfl fun _ => rfl) ?_
  try simp only [Act.put, sA, sZ, sS]
  refine Ps.st (i := 10) (d := some 83) (u := (.int .i64 ((i2 : Int)))) rfl rfl ?ywg1_12 ?rwg1_12
  case ywg1_12 =>
    refine StepS.read [] (by kernel_rfl) nP (by rfl) (fun L9 m9 w9 hSh hAt hDn hS => ?_)
    have hT : Below _ _ w9 := hS
    have x0 : w9.cell? ⟨w.heap.size, 2, none⟩ = some (.int .i64 ((i2 : Int))) := (HB.out.ca hT).cell 2
    clear hT hS
    go_simp
    try rfl
  try simp only [Act.put, sA, sZ, sS]
  refine Ps.st (i := 11) (d := some 84) (u := (.string ZB)) rfl rfl ?ywg1_13 ?rwg1_13
  case ywg1_13 =>
    refine StepS.call ?fwg1_13 ?awg1_13 [] (by kernel_rfl) (by rfl) (fun w9 => ?hwg1_13) (fun L9 m9 w9 hSh hAt hDn hS => ?cwg1_13)
    case hwg1_13 => go_simp; refine ⟨?_, ?_⟩ <;> rfl
    case cwg1_13 =>
      have hT : Below _ _ w9 := hS
      refine (HPB.out _ (HCC.out.below hT)).mono ?_
      rintro e w8 ⟨rfl, q8⟩
      exact ⟨rfl, bl_ca hT q8⟩
  try simp only [Act.put, sA, sZ, sS]
  refine Ps.st (i := 12) (d := some 85) (u := (.string (((((ZA ++ ⟨#[32]⟩) ++ SG) ++ ⟨#[32]⟩) ++ ZB)))) rfl rfl ?ywg1_14 ?rwg1_14
  case ywg1_14 =>
    refine StepS.pure nP (by rfl) (fun w9 => ?_)
    have hz9 := trivial
    (go_simp; omega)
  try simp only [Act.put, sA, sZ, sS]
  refine Ps.st (i := 13) (d := some 5) (u := (.string (((((ZA ++ ⟨#[32]⟩) ++ SG) ++ ⟨#[32]⟩) ++ ZB)))) rfl rfl (by exact StepS.pure nP rfl fun _ => rfl) ?_
  try simp only [Act.put, sA, sZ, sS]
  refine Ps.done (by kernel_rfl) (fun wg1 hS => ?_) _
  have HW := Lib.hid (show Below w1.heap.size w1 wg1 from hS)
  clear hS
  obtain ⟨w2, rfl⟩ : ∃ x, x = wg1 := ⟨_, rfl⟩
  go_wp2
  go_ret
  exact ⟨by rw [← HF.out]; rfl, bl_ca HQ.out HW.out⟩
/-- how the nodes of a tree are written -/
def prF (xs : List Nd) : ByteArray := match treeF cntB xs with | some t => bS (prT t) | none => ⟨#[]⟩
theorem store_there {P : Program} {w : World} {g i : Nat} {t : TypeId} {cs : Array Value} {v : Value} (h : Blk w g t cs) (hi : i < cs.size) (h1 : v.oneCell' = true) : (store ⟨g, i, none⟩ v).run P w = .ok () (w.setCell ⟨g, i, none⟩ v) := by
  rw [run_store P w _ v _ h1, h.cell, Array.getElem?_eq_getElem hi]
  simp [h.frozen]
/-! ### whole trees -/
theorem all_W {F : Nat → Prop} {xs : List Nd} {A : Option Addr} {n c bt bn bp : Nat} : ∀ (u : Tr) (o : Nat), LiesAt xs u o → u.ok cntB = true → rgT u → u.size ≤ 300 → NodeW F xs A n c bt bn bp u o ∧ PartW F xs A n c bt bn bp u o
  | .leaf p, o, hl, hok, hr, hs => by
    have hN : NodeW F xs A n c bt bn bp (.leaf p) o := node_leaf hl hok hr
    have := pr_len (.leaf p) hok hr
    exact ⟨hN, part_of hN hl hok (by omega)⟩
  | .one p a, o, hl, hok, hr, hs => by
    have hsz : (Tr.one p a).size = a.size + 1 := rfl
    have ih := all_W (F := F) (A := A) (n := n) (c := c) (bt := bt) (bn := bn) (bp := bp) a o (lies_one hl) (ok_one hok).2.2 hr (by omega)
    have ha := pr_len a (ok_one hok).2.2 hr
    have hN : NodeW F xs A n c bt bn bp (.one p a) o := node_one ih.1 ih.2 hl hok (by omega)
    have := pr_len (.one p a) hok hr
    exact ⟨hN, part_of hN hl hok (by omega)⟩
  | .two p a b, o, hl, hok, hr, hs => by
    have hsz : (Tr.two p a b).size = a.size + b.size + 1 := rfl
    have ih := all_W (F := F) (A := A) (n := n) (c := c) (bt := bt) (bn := bn) (bp := bp) a o (lies_two hl).1 (ok_two hok).2.2.1 hr.1 (by omega)
    have ih2 := all_W (F := F) (A := A) (n := n) (c := c) (bt := bt) (bn := bn) (bp := bp) b (o + a.size) (lies_two hl).2 (ok_two hok).2.2.2 hr.2 (by omega)
    have ha := pr_len a (ok_two hok).2.2.1 hr.1
    have hb := pr_len b (ok_two hok).2.2.2 hr.2
    have hN : NodeW F xs A n c bt bn bp (.two p a b) o := node_two ih.2 ih2.2 hl hok (by omega) (by omega)
    have := pr_len (.two p a b) hok hr
    exact ⟨hN, part_of hN hl hok (by omega)⟩
theorem rg_all : ∀ (u : Tr) (o : Nat), (∀ x ∈ u.flat o, RgP x.p) → rgT u
  | .leaf p, o, h => h ⟨p, -1, -1⟩ (by show _ ∈ [(⟨p, -1, -1⟩ : Nd)]; simp)
  | .one p a, o, h => rg_all a o (fun x hx => h x (List.mem_append_left _ hx))
  | .two p a b, o, h => ⟨rg_all a o (fun x hx => h x (List.mem_append_left _ hx)), rg_all b _ (fun x hx => h x (List.mem_append_right _ (List.mem_append_left _ hx)))⟩
set_option maxRecDepth 100000 in
theorem tree_any (F : Nat → Prop) (xs : List Nd) (t : Tr) (A : Option Addr) (n c : Nat) (w : World) (h : LN.rd w F A n xs) (hn : n ≤ 100000) (hT : Tab w) (ht : treeF cntB xs = some t) (hr : ∀ x ∈ xs, RgP x.p) :
    Calls Tryd.prog 27 #[.agg #[.slice A n c]] w fun e w' => e = .returned (.string (bS (prT t))) ∧ Below w.heap.size w w' := by
  have hx := (treeF_some.1 ht).1
  have hsz := (treeF_some.1 ht).2.2.1
  have htl := tree_len ht
  have hp := t.size_pos
  have hl : LiesAt xs t 0 := fun i _ => by rw [Nat.zero_add, hx]
  have hrg : rgT t := rg_all t 0 (by rw [← hx]; exact hr)
  have hln := Lay.rd_len h
  have HW := Lib.hid (fun bt bn bp => (all_W (F := F) (A := A) (n := n) (c := c) (bt := bt) (bn := bn) (bp := bp) t 0 hl (treeF_some.1 ht).2.1 hrg hsz).1)
  obtain ⟨n1, hn1⟩ : ∃ n1, n = n1 + 1 := ⟨n - 1, by omega⟩
  have HI := Lib.hid (show 0 + t.size - 1 = n1 from by omega)
  have hix : (n : Int) - 1 = (n1 : Int) := by omega
  have hix1 : (n1 : Int) ≤ 100000 := by omega
  have HRD := Lib.hid h
  have HT := Lib.hid hT
  unfold NodeW at HW
  generalize bS (prT t) = Z at *
  clear h hT ht hr hx hsz htl hp hl hrg hln hn1
  have HB1 := Lib.hid ((Blk.new w 30 #[.slice A n c]).alloc (.cells #[.nilFunc] 70))
  have HB3 := Lib.hid (show Blk ((w.alloc (.cells #[.slice A n c] 30)).alloc (.cells #[.nilFunc] 70)) (w.heap.size + 1) 70 #[.nilFunc] from by
    have := Blk.new (w.alloc (.cells #[.slice A n c] 30)) 70 #[.nilFunc]
    rwa [World.size_alloc] at this)
  have HQ1 := Lib.hid (bl_al (bl_al (Below.refl w.heap.size w) (.cells #[.slice A n c] 30)) (.cells #[.nilFunc] 70))
  go_enter Tryd.func27, Tryd.ntmps27
  go_upto_region 2 with fail
  generalize (w.alloc (.cells #[.slice A n c] 30)).alloc (.cells #[.nilFunc] 70) = w1 at *
  generalize hg3 : w.heap.size + 1 = g3 at *
  have l3 : w.heap.size < g3 := by omega
  have l4 := HB3.out.lt
  clear hg3
  have HC4 := Lib.hid (Blk.new w1 70 #[.func (.func 34) #[] #[.pointer (some ⟨g3, 0, none⟩), .pointer (some ⟨w.heap.size, 0, none⟩)]])
  have HQ5 := Lib.hid (bl_al (Below.refl w1.heap.size w1) (.cells #[.func (.func 34) #[] #[.pointer (some ⟨g3, 0, none⟩), .pointer (some ⟨w.heap.size, 0, none⟩)]] 70))
  have hst1 := store_there (P := Tryd.prog) (Blk.new w1 70 #[.nilFunc]) (i := 0) (v := .func (.func 34) #[] #[.pointer (some ⟨g3, 0, none⟩), .pointer (some ⟨w.heap.size, 0, none⟩)]) (by decide) rfl
  go_upto_region 3 with fail
  clear hst1
  generalize w1.alloc (.cells #[.func (.func 34) #[] #[.pointer (some ⟨g3, 0, none⟩), .pointer (some ⟨w.heap.size, 0, none⟩)]] 70) = w2 at *
  have HC3 := Lib.hid (HB3.out.ca HQ5.out)
  have HC1 := Lib.hid (HB1.out.ca HQ5.out)
  have hst2 := store_there (P := Tryd.prog) HC3.out (i := 0) (v := .func (.func 35) #[] #[.pointer (some ⟨w.heap.size, 0, none⟩), .pointer (some ⟨w1.heap.size, 0, none⟩), .pointer (some ⟨g3, 0, none⟩)]) (by decide) rfl
  go_upto_region 4 with fail
  have hgr : w2.grownBy (w2.setCell ⟨g3, 0, none⟩ (.func (.func 35) #[] #[.pointer (some ⟨w.heap.size, 0, none⟩), .pointer (some ⟨w1.heap.size, 0, none⟩), .pointer (some ⟨g3, 0, none⟩)])) (some g3) := only_setCell (p := ⟨g3, 0, none⟩) (World.grownBy.refl w2 _) (.inl rfl) _
  have HD3 := Lib.hid (show Blk (w2.setCell ⟨g3, 0, none⟩ (.func (.func 35) #[] #[.pointer (some ⟨w.heap.size, 0, none⟩), .pointer (some ⟨w1.heap.size, 0, none⟩), .pointer (some ⟨g3, 0, none⟩)])) g3 70 #[.func (.func 35) #[] #[.pointer (some ⟨w.heap.size, 0, none⟩), .pointer (some ⟨w1.heap.size, 0, none⟩), .pointer (some ⟨g3, 0, none⟩)]] from HC3.out.set_ 0 _)
  have HD1 := Lib.hid (HC1.out.apart hgr (by omega))
  have HD4 := Lib.hid (HC4.out.apart hgr (by omega))
  have HQ6 := Lib.hid (bl_set (bl_ca HQ1.out HQ5.out) (p := ⟨g3, 0, none⟩) (by show _ ≤ g3; omega) (.func (.func 35) #[] #[.pointer (some ⟨w.heap.size, 0, none⟩), .pointer (some ⟨w1.heap.size, 0, none⟩), .pointer (some ⟨g3, 0, none⟩)]))
  clear hst2 hgr
  generalize w2.setCell ⟨g3, 0, none⟩ (.func (.func 35) #[] #[.pointer (some ⟨w.heap.size, 0, none⟩), .pointer (some ⟨w1.heap.size, 0, none⟩), .pointer (some ⟨g3, 0, none⟩)]) = w3 at *
  have HCX := Lib.hid (show Cx F xs A n c w.heap.size g3 w1.heap.size w3 from ⟨HD1.out.cell 0, HD3.out.cell 0, HD4.out.cell 0, Lay.rd_below HRD.out HQ6.out, HT.out.below HQ6.out⟩)
  have c1 := HCX.out.tr
  have c3 := HCX.out.nd
  go_wp2_with fail
  have hw := HW.out w.heap.size g3 w1.heap.size w3 HCX.out
  rw [HI.out] at hw
  refine hw.mono ?_
  rintro e w4 ⟨rfl, q4⟩
  have HQ7 := Lib.hid (bl_ca HQ6.out q4)
  clear q4 hw c1 c3
  go_wp2
  go_ret
  exact ⟨rfl, HQ7.out⟩
set_option maxRecDepth 100000 in
theorem printtree_any (F : Nat → Prop) (xs : List Nd) (A : Option Addr) (n c : Nat) (w : World) (h : LN.rd w F A n xs) (hn : n ≤ 100000) (hT : Tab w) (hS : ∀ x ∈ xs, SmP x.p) (hr : ∀ x ∈ xs, RgP x.p) :
    Calls Tryd.prog 18 #[.agg #[.slice A n c]] w fun e w' => e = .returned (.tuple #[.string (prF xs), .int .i64 (chkE xs)]) ∧ Below w.heap.size w w' := by
  have HQ := Lib.hid (bl_al (Below.refl w.heap.size w) (.cells #[.slice A n c] 30))
  have HB := Lib.hid (Blk.new w 30 #[.slice A n c])
  have HRD := Lib.hid (Lay.rd_below h HQ.out)
  have HT := Lib.hid (hT.below HQ.out)
  have HC := Lib.hid (checktree_any F xs A n c _ HRD.out hn HT.out hS)
  have HPF := Lib.hid (show prF xs = match treeF cntB xs with | some t => bS (prT t) | none => ⟨#[]⟩ from rfl)
  have HCE := Lib.hid (show chkE xs = if okF xs then 0 else 180 from rfl)
  have HN := Lib.hid hn
  have HR := Lib.hid hr
  generalize prF xs = P at *
  obtain ⟨E, hE⟩ : ∃ E, E = chkE xs := ⟨_, rfl⟩
  rw [← hE] at HC HCE ⊢
  clear h hT hS hn hr hE
  go_enter Tryd.func18, Tryd.ntmps18
  go_wp2_with fail
  generalize w.alloc (.cells #[.slice A n c] 30) = w1 at *
  refine HC.out.mono ?_
  rintro e w2 ⟨rfl, q2⟩
  have HQ2 := Lib.hid (bl_ca HQ.out q2)
  have x0 := (HB.out.ca q2).cell 0
  simp at x0
  have HR2 := Lib.hid (Lay.rd_below HRD.out q2)
  have HT2 := Lib.hid (HT.out.below q2)
  clear q2
  cases ht : treeF cntB xs with
  | none =>
    have HE := Lib.hid (show E = 180 from by rw [HCE.out, okF_no ht]; rfl)
    have HP := Lib.hid (show P = ⟨#[]⟩ from by rw [HPF.out, ht])
    have hE := HE.out
    subst hE
    clear ht
    go_wp2
    go_ret2
    exact ⟨by rw [HP.out]; rfl, HQ2.out⟩
  | some t =>
    have HE := Lib.hid (show E = 0 from by rw [HCE.out, okF_of ht]; rfl)
    have HP := Lib.hid (show P = bS (prT t) from by rw [HPF.out, ht])
    have HTR := Lib.hid (tree_any F xs t A n c w2 HR2.out HN.out HT2.out ht HR.out)
    have hE := HE.out
    subst hE
    rw [← HP.out] at HTR
    clear ht
    go_wp2_with fail
    refine HTR.out.mono ?_
    rintro e w3 ⟨rfl, q3⟩
    have HQ3 := Lib.hid (bl_ca HQ2.out q3)
    clear q3 x0
    go_wp2
    go_ret2
    exact ⟨rfl, HQ3.out⟩
end Go.Proofs.YtoaggmldekejoaaDoor
/- The reference's literal. Conditions: none. -/
namespace Go.Proofs.YtoaggmldekejoaaDoor
open Go.RowKit
set_option maxRecDepth 100000 in
set_option maxHeartbeats 4000000 in
theorem rliteral_any (k n u : Int) (s : ByteArray) (w : World) (hs : s.size ≤ 9223372036854775807) : Calls Tryd.prog 38 #[.agg #[.int .i64 k, .int .i64 n, .int .u64 u, .string s]] w fun e w' => e = .returned (.bool (wriB s && (plainB k n u s && decide (0 ≤ n)))) ∧ Below w.heap.size w w' := by
  have HR := Lib.hid (show wriB s = (s.data.toList.drop 0).all plU from by rw [List.drop_zero]; rfl)
  generalize wriB s = r at *
  have HL := Lib.hid (show s.data.toList.length = s.size from by simp)
  have HBB := Lib.hid (Blk.new w 25 #[.int .i64 k, .int .i64 n, .int .u64 u, .string s])
  have HQ := Lib.hid (bl_al (Below.refl w.heap.size w) (.cells #[.int .i64 k, .int .i64 n, .int .u64 u, .string s] 25))
  go_enter Tryd.func38, Tryd.ntmps38
  go_wp2_with fail
  generalize w.alloc (.cells #[.int .i64 k, .int .i64 n, .int .u64 u, .string s] 25) = w1 at *
  go_loopg [7] s.size (fun g a wr => ∃ i : Nat, i + g = s.size ∧ a = .int .i64 i ∧ Hid (r = (s.data.toList.drop i).all plU) ∧ Below w1.heap.size w1 wr)
  case atStart => exact ⟨0, by omega, rfl, HR, Below.refl _ _⟩
  case round =>
    obtain ⟨i, hig, rfl, HI, hb⟩ := hrel
    have HB := Lib.hid hb
    have x0 := (HBB.out.ca hb).cell 0
    have x1 := (HBB.out.ca hb).cell 1
    have x2 := (HBB.out.ca hb).cell 2
    have x3 := (HBB.out.ca hb).cell 3
    simp at x0 x1 x2 x3
    clear hb
    by_cases hlt : i < s.size
    · have hi1 : (i : Int) < (s.size : Int) := by omega
      obtain ⟨b, hbt⟩ := byte_at hlt
      have hix := run_bt hbt
      have HA := Lib.hid (all_drop plU hbt)
      have HPL := Lib.hid (show plU b = (decide (32 ≤ (b.toNat : Int)) && decide ((b.toNat : Int) ≤ 126)) from rfl)
      obtain ⟨cc, hc⟩ : ∃ cc, cc = (b.toNat : Int) := ⟨_, rfl⟩
      rw [← hc] at hix HPL
      clear hbt hc
      by_cases h1 : cc < 32
      · have HF := Lib.hid (show r = false from by rw [HI.out, HA.out, HPL.out, decide_eq_false (by omega)]; rfl)
        go_wp2
        go_ret
        exact ⟨ret_bool (by rw [HF.out]; rfl), bl_ca HQ.out HB.out⟩
      · have h1' : 32 ≤ cc := by omega
        by_cases h2 : 126 < cc
        · have HF := Lib.hid (show r = false from by rw [HI.out, HA.out, HPL.out, decide_eq_false (show ¬ cc ≤ 126 by omega), Bool.and_false]; rfl)
          clear h1
          go_wp2
          go_ret
          exact ⟨ret_bool (by rw [HF.out]; rfl), bl_ca HQ.out HB.out⟩
        · have h2' : cc ≤ 126 := by omega
          have HF := Lib.hid (show r = (s.data.toList.drop (i + 1)).all plU from by rw [HI.out, HA.out, HPL.out, decide_eq_true h1', decide_eq_true h2']; rfl)
          clear h1 h2
          go_wp2
          go_roundg (gk - 1)
          · exact ⟨i + 1, by omega, by go_num, HF, HB.out⟩
          · omega
    · obtain rfl : i = s.size := by omega
      have hi1 : (s.size : Int) ≤ (s.size : Int) := by omega
      have HF := Lib.hid (show r = true from by rw [HI.out, List.drop_of_length_le (by rw [HL.out]; exact Nat.le_refl _)]; rfl)
      go_wp2_with fail
      refine (rplain_any k n u s _).mono ?_
      rintro e w3 ⟨rfl, q3⟩
      have HQ3 := Lib.hid (bl_ca (bl_ca HQ.out HB.out) q3)
      have y1 := ce x1 q3
      clear q3 x0 x1 x2 x3
      cases hpp : plainB k n u s
      · have HPP := Lib.hid hpp
        clear hpp
        go_wp2
        go_ret
        exact ⟨ret_bool (by rw [HF.out, HPP.out]; rfl), HQ3.out⟩
      · have HPP := Lib.hid hpp
        clear hpp
        by_cases hn0 : 0 ≤ n
        · have HN0 := Lib.hid hn0
          go_wp2
          go_ret
          exact ⟨ret_bool (by rw [HF.out, HPP.out, decide_eq_true HN0.out]; rfl), HQ3.out⟩
        · have hn1 : n < 0 := by omega
          clear hn0
          go_wp2
          go_ret
          exact ⟨ret_bool (by rw [HF.out, HPP.out, decide_eq_false (show ¬ 0 ≤ n by omega)]; rfl), HQ3.out⟩
end Go.Proofs.YtoaggmldekejoaaDoor
/- The reference's words. Conditions: none. -/
namespace Go.Proofs.YtoaggmldekejoaaDoor
open Go.RowKit
theorem arrI28 : (Tryd.prog.info? 82).map (·.size) = some 28 := by kernel_rfl
abbrev wordsV : Array Value := (wordsL.map fun s => Value.string s).toArray
theorem words_one : wordsV.all (·.oneCell') = true := by simp [wordsV, wordsL, Value.oneCell']
set_option maxRecDepth 100000 in
theorem rwords_any (w : World) : Calls Tryd.prog 50 #[] w fun e w' => e = .returned (.agg wordsV) ∧ Below w.heap.size w w' := by
  have HB := Lib.hid (Blk.new w 82 #[.string ⟨#[]⟩, .string ⟨#[]⟩, .string ⟨#[]⟩, .string ⟨#[]⟩, .string ⟨#[]⟩, .string ⟨#[]⟩, .string ⟨#[]⟩, .string ⟨#[]⟩, .string ⟨#[]⟩, .string ⟨#[]⟩, .string ⟨#[]⟩, .string ⟨#[]⟩, .string ⟨#[]⟩, .string ⟨#[]⟩, .string ⟨#[]⟩, .string ⟨#[]⟩, .string ⟨#[]⟩, .string ⟨#[]⟩, .string ⟨#[]⟩, .string ⟨#[]⟩, .string ⟨#[]⟩, .string ⟨#[]⟩, .string ⟨#[]⟩, .string ⟨#[]⟩, .string ⟨#[]⟩, .string ⟨#[]⟩, .string ⟨#[]⟩, .string ⟨#[]⟩])
  have HQ := Lib.hid (bl_al (Below.refl w.heap.size w) (.cells #[.string ⟨#[]⟩, .string ⟨#[]⟩, .string ⟨#[]⟩, .string ⟨#[]⟩, .string ⟨#[]⟩, .string ⟨#[]⟩, .string ⟨#[]⟩, .string ⟨#[]⟩, .string ⟨#[]⟩, .string ⟨#[]⟩, .string ⟨#[]⟩, .string ⟨#[]⟩, .string ⟨#[]⟩, .string ⟨#[]⟩, .string ⟨#[]⟩, .string ⟨#[]⟩, .string ⟨#[]⟩, .string ⟨#[]⟩, .string ⟨#[]⟩, .string ⟨#[]⟩, .string ⟨#[]⟩, .string ⟨#[]⟩, .string ⟨#[]⟩, .string ⟨#[]⟩, .string ⟨#[]⟩, .string ⟨#[]⟩, .string ⟨#[]⟩, .string ⟨#[]⟩] 82))
  go_enter Tryd.func50, Tryd.ntmps50
  go_upto_region 1 with fail
  generalize w.alloc (.cells #[.string ⟨#[]⟩, .string ⟨#[]⟩, .string ⟨#[]⟩, .string ⟨#[]⟩, .string ⟨#[]⟩, .string ⟨#[]⟩, .string ⟨#[]⟩, .string ⟨#[]⟩, .string ⟨#[]⟩, .string ⟨#[]⟩, .string ⟨#[]⟩, .string ⟨#[]⟩, .string ⟨#[]⟩, .string ⟨#[]⟩, .string ⟨#[]⟩, .string ⟨#[]⟩, .string ⟨#[]⟩, .string ⟨#[]⟩, .string ⟨#[]⟩, .string ⟨#[]⟩, .string ⟨#[]⟩, .string ⟨#[]⟩, .string ⟨#[]⟩, .string ⟨#[]⟩, .string ⟨#[]⟩, .string ⟨#[]⟩, .string ⟨#[]⟩, .string ⟨#[]⟩] 82) = w1 at *
  go_wp2_with (refine wpList_store_blk rfl 82 (.tmp 0) (.tmp 1) rfl w.heap.size 82 #[.string ⟨#[]⟩, .string ⟨#[]⟩, .string ⟨#[]⟩, .string ⟨#[]⟩, .string ⟨#[]⟩, .string ⟨#[]⟩, .string ⟨#[]⟩, .string ⟨#[]⟩, .string ⟨#[]⟩, .string ⟨#[]⟩, .string ⟨#[]⟩, .string ⟨#[]⟩, .string ⟨#[]⟩, .string ⟨#[]⟩, .string ⟨#[]⟩, .string ⟨#[]⟩, .string ⟨#[]⟩, .string ⟨#[]⟩, .string ⟨#[]⟩, .string ⟨#[]⟩, .string ⟨#[]⟩, .string ⟨#[]⟩, .string ⟨#[]⟩, .string ⟨#[]⟩, .string ⟨#[]⟩, .string ⟨#[]⟩, .string ⟨#[]⟩, .string ⟨#[]⟩] wordsV rfl rfl HB.out rfl arrI28 words_one ?_; intro w8 h8 g8)
  exact bodyPost_ret (res1 Tryd.results50 rfl h8 Tryd.underlying82 rfl arrI28) rfl ⟨rfl, bl_gr HQ.out g8 (Nat.le_refl _)⟩
end Go.Proofs.YtoaggmldekejoaaDoor
/- The reference's names. Conditions: none. -/
namespace Go.Proofs.YtoaggmldekejoaaDoor
open Go.RowKit
set_option maxRecDepth 100000 in
theorem words_ix0 (W : World) : ∀ (j : Nat), j < 28 → (Instr.index 82 (.agg wordsV) (.int .i64 (j : Int))).run Tryd.prog W = .ok (wordsV.getD j undef) W
  | 0, _ => by kernel_rfl
  | 1, _ => by kernel_rfl
  | 2, _ => by kernel_rfl
  | 3, _ => by kernel_rfl
  | 4, _ => by kernel_rfl
  | 5, _ => by kernel_rfl
  | 6, _ => by kernel_rfl
  | 7, _ => by kernel_rfl
  | 8, _ => by kernel_rfl
  | 9, _ => by kernel_rfl
  | 10, _ => by kernel_rfl
  | 11, _ => by kernel_rfl
  | 12, _ => by kernel_rfl
  | 13, _ => by kernel_rfl
  | 14, _ => by kernel_rfl
  | 15, _ => by kernel_rfl
  | 16, _ => by kernel_rfl
  | 17, _ => by kernel_rfl
  | 18, _ => by kernel_rfl
  | 19, _ => by kernel_rfl
  | 20, _ => by kernel_rfl
  | 21, _ => by kernel_rfl
  | 22, _ => by kernel_rfl
  | 23, _ => by kernel_rfl
  | 24, _ => by kernel_rfl
  | 25, _ => by kernel_rfl
  | 26, _ => by kernel_rfl
  | 27, _ => by kernel_rfl
  | _ + 28, h => absurd h (by omega)
theorem words_ix (j : Nat) (s : ByteArray) (h : wordsL[j]? = some s) : ∀ W, (Instr.index 82 (.agg wordsV) (.int .i64 (j : Int))).run Tryd.prog W = .ok (.string s) W := fun W => by
  rw [words_ix0 W j (List.getElem?_eq_some_iff.1 h).1]
  unfold wordsV
  rw [Array.getD_eq_getD_getElem?, List.getElem?_toArray, List.getElem?_map, h]
  rfl
set_option maxRecDepth 100000 in
set_option maxHeartbeats 8000000 in
theorem risname_any (s : ByteArray) (w : World) : Calls Tryd.prog 39 #[.string s] w fun e w' => e = .returned (.bool (nameB s)) ∧ Below w.heap.size w w' := by
  have HR := Lib.hid (show nameB s = (decide (1 ≤ s.size) && (decide (s.size ≤ 16) && (smI (bt s 0) && ((bts s).all okI && !isWordB ⟨(upL s.data.toList).toArray⟩)))) from rfl)
  generalize nameB s = r at *
  by_cases h1 : s.size < 1
  · have h2 : (s.size : Int) < 1 := by omega
    go_enter Tryd.func39, Tryd.ntmps39
    go_wp2
    go_ret
    exact ⟨ret_bool (by rw [HR.out]; simp; omega), Below.refl _ _⟩
  by_cases h16 : 16 < s.size
  · have h2 : 1 ≤ (s.size : Int) := by omega
    have h3 : 16 < (s.size : Int) := by omega
    go_enter Tryd.func39, Tryd.ntmps39
    go_wp2
    go_ret
    exact ⟨ret_bool (by rw [HR.out]; simp; omega), Below.refl _ _⟩
  have h2 : 1 ≤ (s.size : Int) := by omega
  have h3 : (s.size : Int) ≤ 16 := by omega
  obtain ⟨b, hb⟩ := byte_at (s := s) (i := 0) (by omega)
  have hix : ∀ W, (Instr.index 9 (.string s) (.int .i64 0)).run Tryd.prog W = .ok (.int .u8 (b.toNat : Int)) W := run_bt hb
  have HR2 := Lib.hid (show r = ((decide (97 ≤ (b.toNat : Int)) && decide ((b.toNat : Int) ≤ 122)) && ((bts s).all okI && !isWordB ⟨(upL s.data.toList).toArray⟩)) from by rw [HR.out, bt_of hb, decide_eq_true (show 1 ≤ s.size by omega), decide_eq_true (show s.size ≤ 16 by omega)]; rfl)
  obtain ⟨cc, hc⟩ : ∃ cc, cc = (b.toNat : Int) := ⟨_, rfl⟩
  rw [← hc] at hix HR2
  clear hb HR h1 h16 hc
  by_cases c1 : cc < 97
  · have HF := Lib.hid (show r = false from by rw [HR2.out, decide_eq_false (by omega)]; rfl)
    go_enter Tryd.func39, Tryd.ntmps39
    go_wp2
    go_ret
    exact ⟨ret_bool HF.out.symm, Below.refl _ _⟩
  have c1' : 97 ≤ cc := by omega
  by_cases c2 : 122 < cc
  · have HF := Lib.hid (show r = false from by rw [HR2.out, decide_eq_false (show ¬ cc ≤ 122 by omega), Bool.and_false]; rfl)
    clear c1
    go_enter Tryd.func39, Tryd.ntmps39
    go_wp2
    go_ret
    exact ⟨ret_bool HF.out.symm, Below.refl _ _⟩
  have c2' : cc ≤ 122 := by omega
  have HF := Lib.hid (show r = ((bts s).all okI && !isWordB ⟨(upL s.data.toList).toArray⟩) from by rw [HR2.out, decide_eq_true c1', decide_eq_true c2']; rfl)
  clear c1 c2 HR2
  go_enter Tryd.func39, Tryd.ntmps39
  go_wp2_with fail
  go_loopg [3, 30] s.size (fun g a b wr => ∃ (i : Nat) (A : Option Addr) (c : Nat), i + g = s.size ∧ a = .slice A i c ∧ b = .int .i64 i ∧ OwnB wr w.heap.size A i c (upL (s.data.toList.take i)) ∧ Hid (r = (((bts s).drop i).all okI && !isWordB ⟨(upL s.data.toList).toArray⟩)) ∧ Below w.heap.size w wr)
  case atStart => exact ⟨0, _, 0, by omega, rfl, rfl, OwnB.empty w, Lib.hid (by rw [HF.out, List.drop_zero]), bl_al (Below.refl _ _) _⟩
  case round =>
    obtain ⟨i, A, c, hig, rfl, rfl, ho, HI, bb⟩ := hrel
    have HO := Lib.hid ho
    have HBB := Lib.hid bb
    clear ho bb
    by_cases hlt : i < s.size
    · have hi1 : (i : Int) < (s.size : Int) := by omega
      obtain ⟨b, hb⟩ := byte_at hlt
      have hix := run_bt hb
      have HA := Lib.hid (allok_at (bts_at hb))
      have HT := Lib.hid (show upL (s.data.toList.take (i + 1)) = upL (s.data.toList.take i) ++ [upB b] from by unfold upL; rw [List.take_add_one, hb]; simp)
      have HUB := Lib.hid (show upB b = if smI (b.toNat : Int) then b - 32 else b from rfl)
      have HOK := Lib.hid (show okI (b.toNat : Int) = (smI (b.toNat : Int) || ((decide (48 ≤ (b.toNat : Int)) && decide ((b.toNat : Int) ≤ 57)) || decide ((b.toNat : Int) = 95))) from rfl)
      have HSM := Lib.hid (show smI (b.toNat : Int) = (decide (97 ≤ (b.toNat : Int)) && decide ((b.toNat : Int) ≤ 122)) from rfl)
      have hb255 : (b.toNat : Int) < 256 := by have := b.toNat_lt; omega
      have hb0 : 0 ≤ (b.toNat : Int) := by omega
      have hsz := HBB.out.size
      obtain ⟨cd, hcd⟩ : ∃ cd, cd = (b.toNat : Int) := ⟨_, rfl⟩
      rw [← hcd] at hix HA HUB HOK HSM hb255 hb0
      have HCD := Lib.hid hcd
      clear hb hcd
      by_cases d1 : 97 ≤ cd ∧ cd ≤ 122
      · obtain ⟨d2, d3⟩ := d1
        have HI2 := Lib.hid (show r = (((bts s).drop (i + 1)).all okI && !isWordB ⟨(upL s.data.toList).toArray⟩) from by rw [HI.out, HA.out, HOK.out, HSM.out, decide_eq_true d2, decide_eq_true d3]; rfl)
        have HV := Lib.hid (show Value.int .u8 (cd - 32) = vb (upB b) from by
          rw [HUB.out, HSM.out, decide_eq_true d2, decide_eq_true d3, HCD.out]
          unfold vb
          rw [HCD.out] at d2
          rw [if_pos (show (true && true) = true from rfl), UInt8.toNat_sub_of_le _ _ (by rw [UInt8.le_iff_toNat_le]; show 32 ≤ b.toNat; omega)]
          show _ = Value.int .u8 ((b.toNat - 32 : Nat) : Int)
          congr 1
          omega)
        go_wp2_with (at_builtin; refine wpList_appB rfl (.tmp 59) (.tmp 61) rfl w.heap.size A i c _ (some ⟨wr.heap.size, 0, none⟩) 1 1 [upB b] rfl rfl (HO.out.alloc _) (RdB.one wr (upB b) _ (by refine Eq.trans ?_ HV.out; first | rfl | (congr 1; omega)) _) (by omega) (by simp only [World.size_alloc]; omega) ?_; intro A1 c1 w1 ho1 hb1)
        go_roundg (gk - 1)
        · exact ⟨i + 1, A1, c1, by omega, rfl, by go_num, by rw [HT.out]; exact ho1, HI2, HBB.out.trans (((Below.refl _ _).alloc hsz _).trans hb1)⟩
        · omega
      · have HSF := Lib.hid (show smI cd = false from by rw [HSM.out, Bool.and_eq_false_iff, decide_eq_false_iff_not, decide_eq_false_iff_not]; omega)
        have HV := Lib.hid (show Value.int .u8 cd = vb (upB b) from by rw [HUB.out, HSF.out, HCD.out]; rfl)
        have g1 : (decide (97 ≤ cd) && decide (cd ≤ 122)) = false := by rw [Bool.and_eq_false_iff, decide_eq_false_iff_not, decide_eq_false_iff_not]; omega
        by_cases d4 : 48 ≤ cd ∧ cd ≤ 57
        · obtain ⟨d5, d6⟩ := d4
          have HI2 := Lib.hid (show r = (((bts s).drop (i + 1)).all okI && !isWordB ⟨(upL s.data.toList).toArray⟩) from by rw [HI.out, HA.out, HOK.out, HSF.out, decide_eq_true d5, decide_eq_true d6]; rfl)
          have d7 : cd < 97 := by omega
          clear d1 g1
          go_wp2_with (at_builtin; refine wpList_appB rfl (.tmp 59) (.tmp 61) rfl w.heap.size A i c _ (some ⟨wr.heap.size, 0, none⟩) 1 1 [upB b] rfl rfl (HO.out.alloc _) (RdB.one wr (upB b) _ (by refine Eq.trans ?_ HV.out; first | rfl | (congr 1; omega)) _) (by omega) (by simp only [World.size_alloc]; omega) ?_; intro A1 c1 w1 ho1 hb1)
          go_roundg (gk - 1)
          · exact ⟨i + 1, A1, c1, by omega, rfl, by go_num, by rw [HT.out]; exact ho1, HI2, HBB.out.trans (((Below.refl _ _).alloc hsz _).trans hb1)⟩
          · omega
        · by_cases d8 : cd = 95
          · subst d8
            have HI2 := Lib.hid (show r = (((bts s).drop (i + 1)).all okI && !isWordB ⟨(upL s.data.toList).toArray⟩) from by rw [HI.out, HA.out, HOK.out, HSF.out]; rfl)
            clear d1 d4 g1
            go_wp2_with (at_builtin; refine wpList_appB rfl (.tmp 59) (.tmp 61) rfl w.heap.size A i c _ (some ⟨wr.heap.size, 0, none⟩) 1 1 [upB b] rfl rfl (HO.out.alloc _) (RdB.one wr (upB b) _ (by refine Eq.trans ?_ HV.out; first | rfl | (congr 1; omega)) _) (by omega) (by simp only [World.size_alloc]; omega) ?_; intro A1 c1 w1 ho1 hb1)
            go_roundg (gk - 1)
            · exact ⟨i + 1, A1, c1, by omega, rfl, by go_num, by rw [HT.out]; exact ho1, HI2, HBB.out.trans (((Below.refl _ _).alloc hsz _).trans hb1)⟩
            · omega
          · have HFF := Lib.hid (show r = false from by
              rw [HI.out, HA.out, HOK.out, HSF.out, decide_eq_false d8]
              have : (decide (48 ≤ cd) && decide (cd ≤ 57)) = false := by rw [Bool.and_eq_false_iff, decide_eq_false_iff_not, decide_eq_false_iff_not]; omega
              rw [this]
              rfl)
            have e95 : (cd == 95) = false := by simpa using d8
            have n95 : (cd != 95) = true := by simpa using d8
            have p95 : decide (cd = 95) = false := decide_eq_false d8
            by_cases k1 : cd < 48
            · clear d1 d4 g1
              go_wp2
              go_ret
              exact ⟨ret_bool HFF.out.symm, HBB.out⟩
            · have k2 : 57 < cd := by omega
              have k1' : 48 ≤ cd := by omega
              by_cases k3 : cd < 97
              · clear d1 d4 g1 k1
                go_wp2
                go_ret
                exact ⟨ret_bool HFF.out.symm, HBB.out⟩
              · have k4 : 122 < cd := by omega
                have k5 : 97 ≤ cd := by omega
                have g2 : (!(decide (97 ≤ cd) && decide (cd ≤ 122))) = true := by rw [g1]; rfl
                have g3 : decide (cd ≤ 122) = false := decide_eq_false (by omega)
                clear d1 d4 k1 k3
                go_wp2
                go_ret
                exact ⟨ret_bool HFF.out.symm, HBB.out⟩
    · obtain rfl : i = s.size := by omega
      have hi1 : (s.size : Int) ≤ (s.size : Int) := by omega
      have hbl : (bts s).length = s.size := by unfold bts; rw [List.length_map]; simp
      have hsl : s.data.toList.take s.size = s.data.toList := List.take_of_length_le (by simp)
      obtain ⟨U, hU⟩ : ∃ U : ByteArray, U = ⟨(upL s.data.toList).toArray⟩ := ⟨_, rfl⟩
      have HF2 := Lib.hid (show r = !isWordB U from by rw [HI.out, List.drop_of_length_le (by rw [hbl]; exact Nat.le_refl _), hU]; rfl)
      have ho := HO.out
      rw [hsl] at ho
      have HOW := Lib.hid ho
      have HU := Lib.hid hU
      clear hbl hsl ho hU HF HI HO
      go_wp2_with fail
      refine (rwords_any _).mono ?_
      rintro e w3 ⟨rfl, q3⟩
      have hcv : (convert 81 9 (.slice A s.size c)).run Tryd.prog w3 = .ok (.string U) w3 := by rw [HU.out]; exact (HOW.out.below q3).rd.str c
      have HB3 := Lib.hid (bl_ca HBB.out q3)
      have HIX := Lib.hid words_ix
      clear q3
      obtain ⟨WV, hWV⟩ : ∃ WV, WV = wordsV := ⟨_, rfl⟩
      rw [← hWV]
      rw [← hWV] at HIX
      clear hWV
      go_wp2_with fail
      go_loopg [65] 28 (fun g a wx => ∃ j : Nat, j + g = 28 ∧ a = .int .i64 (j : Int) ∧ wx = w3 ∧ Hid (∀ k, k < j → wordsL[k]? ≠ some U))
      case atStart => exact ⟨0, by omega, rfl, rfl, Lib.hid (fun k hk => by omega)⟩
      case round =>
        obtain ⟨j, hjg, rfl, rfl, HNE⟩ := hrel
        by_cases hlt : j < 28
        · have hj1 : (j : Int) < 28 := by omega
          obtain ⟨wd, hwd⟩ : ∃ wd, wordsL[j]? = some wd := ⟨_, List.getElem?_eq_getElem (show j < wordsL.length from hlt)⟩
          have hix := HIX.out j wd hwd
          have HWD := Lib.hid hwd
          clear hwd
          by_cases hw : wd = U
          · have HFF := Lib.hid (show r = false from by rw [HF2.out, show isWordB U = true from (Lib.containsS_iff wordsL U).2 (hw ▸ List.mem_of_getElem? HWD.out)]; rfl)
            subst hw
            go_wp2
            go_ret
            exact ⟨ret_bool HFF.out.symm, HB3.out⟩
          · have h1 : (wd.toList == U.toList) = false := by rw [toList_data, toList_data, beq_eq_false_iff_ne]; exact fun h => hw ((ba_of h).trans rfl)
            have h2 : decide (wd.toList = U.toList) = false := decide_eq_false (fun h => hw (by rw [toList_data, toList_data] at h; exact (ba_of h).trans rfl))
            have h3 : ¬ wd.toList = U.toList := fun h => hw (by rw [toList_data, toList_data] at h; exact (ba_of h).trans rfl)
            have HN2 := Lib.hid (show ∀ k, k < j + 1 → wordsL[k]? ≠ some U from fun k hk => by
              rcases Nat.lt_or_ge k j with h7 | h7
              · exact HNE.out k h7
              · obtain rfl : k = j := by omega
                rw [HWD.out]
                intro e
                injection e with e
                exact hw e)
            clear hw
            go_wp2
            go_roundg (gk - 1)
            · exact ⟨j + 1, by omega, by go_num, rfl, HN2⟩
            · omega
        · obtain rfl : j = 28 := by omega
          have HFF := Lib.hid (show r = true from by
            rw [HF2.out]
            cases hc : isWordB U with
            | false => rfl
            | true =>
              have := (Lib.containsS_iff wordsL U).1 hc
              obtain ⟨k, hk, he⟩ := List.getElem_of_mem this
              exact absurd (List.getElem?_eq_getElem hk ▸ by rw [he]) (HNE.out k hk))
          go_wp2
          go_ret
          exact ⟨ret_bool HFF.out.symm, HB3.out⟩
end Go.Proofs.YtoaggmldekejoaaDoor
/- What the reference's functions come to, in plain Lean. Conditions: none. -/
namespace Go.Proofs.YtoaggmldekejoaaDoor
theorem size_at {x : List Nd} {t : Tr} {c : Py → Bool} (h : treeF c x = some t) {i : Nat} (hi : i < t.size) : sizeF c x x.length (i + 1) = ((t.sub i).size, (t.sub i).depth) := by
  obtain ⟨rfl, hok, _, _⟩ := treeF_some.1 h
  have hs := t.sub_size i hi
  have hl := t.flat_len 0
  have hx : t.flat 0 = (t.flat 0).take (i + 1 - (t.sub i).size) ++ ((t.sub i).flat ((t.flat 0).take (i + 1 - (t.sub i).size)).length ++ (t.flat 0).drop (i + 1)) := by
    have hln : ((t.flat 0).take (i + 1 - (t.sub i).size)).length = i + 1 - (t.sub i).size := by rw [List.length_take]; omega
    have e := t.flat_at 0 i hi
    rw [Nat.zero_add] at e
    rw [hln, ← e]
    conv => lhs; rw [← List.take_append_drop (i + 1 - (t.sub i).size) (t.flat 0)]
    congr 1
    conv => lhs; rw [← List.take_append_drop (t.sub i).size ((t.flat 0).drop (i + 1 - (t.sub i).size))]
    rw [List.drop_drop]
    congr 2
    omega
  have hln : ((t.flat 0).take (i + 1 - (t.sub i).size)).length = i + 1 - (t.sub i).size := by rw [List.length_take]; omega
  have := size_flat c (t.sub i) ((t.flat 0).take (i + 1 - (t.sub i).size)) ((t.flat 0).drop (i + 1)) (t.flat 0).length (Tr.sub_ok hok) (by rw [hln, hl]; omega)
  rw [← hx, hln, show i + 1 - (t.sub i).size + (t.sub i).size = i + 1 from by omega] at this
  exact this
theorem ok_right (x : List Nd) : okF x = rightT cntB x := (rightT_tree cntB x).symm
end Go.Proofs.YtoaggmldekejoaaDoor
/- The reference's counts. Conditions: none. -/
namespace Go.Proofs.YtoaggmldekejoaaDoor
open Go.RowKit
set_option maxRecDepth 100000 in
theorem rmaybe_any (s : ByteArray) (w : World) : Calls Tryd.prog 40 #[.string s] w fun e w' => e = .returned (.bool (mayB s)) ∧ Below w.heap.size w w' := by
  have HR := Lib.hid (show mayB s = (decide (s.data.toList = []) || nameB s) from rfl)
  have HC := Lib.hid (risname_any s w)
  generalize mayB s = r at *
  generalize nameB s = q at *
  by_cases h0 : s.data.toList = []
  · have HF := Lib.hid (show r = true from by rw [HR.out, decide_eq_true h0]; rfl)
    have hs0 : s = ⟨#[]⟩ := by rw [show s = ⟨s.data.toList.toArray⟩ from rfl, h0]
    subst hs0
    clear h0
    go_enter Tryd.func40, Tryd.ntmps40
    go_wp2
    go_ret
    exact ⟨ret_bool HF.out.symm, Below.refl _ _⟩
  · have HF := Lib.hid (show r = q from by rw [HR.out, decide_eq_false h0]; rfl)
    have e1 : s.toList.isEmpty = false := by rw [toList_data]; cases h : s.data.toList with | nil => exact absurd h h0 | cons => rfl
    have e2 : (s.toList == []) = false := by rw [toList_data]; simpa using h0
    have e3 : ¬ s.toList = [] := by rw [toList_data]; exact h0
    clear h0
    go_enter Tryd.func40, Tryd.ntmps40
    go_wp2_with fail
    refine HC.out.mono ?_
    rintro e w2 ⟨rfl, q2⟩
    go_wp2
    go_ret
    exact ⟨ret_bool HF.out.symm, q2⟩
theorem lit_b {w pl z d1 d2 lb : Bool} (h : lb = (w && (pl && z))) : (d1 && (d2 && (pl && (z && w)))) = (lb && (d1 && d2)) := by subst h; cases w <;> cases pl <;> cases z <;> cases d1 <;> cases d2 <;> rfl
theorem emp_facts {s : ByteArray} (h0 : s.data.toList ≠ []) : s.toList.isEmpty = false ∧ (s.toList == []) = false ∧ ¬ s.toList = [] := by
  refine ⟨?_, ?_, ?_⟩
  · rw [toList_data]; cases h : s.data.toList with | nil => exact absurd h h0 | cons => rfl
  · rw [toList_data]; simpa using h0
  · rw [toList_data]; exact h0
set_option maxRecDepth 100000 in
set_option maxHeartbeats 8000000 in
theorem rcounts_any (p : Py) (l r : Int) (w : World) (h1 : p.s.size ≤ 9223372036854775807) :
    Calls Tryd.prog 30 #[.agg (Nd.cells ⟨p, l, r⟩)] w fun e w' => e = .returned (.bool (cntB p)) ∧ Below w.heap.size w w' := by
  have HC := Lib.hid (show cntB p = if p.tag = 1 then decide (p.tb.data.toList = []) && (decide (p.nm.data.toList = []) && (plainV p.k p.n p.u p.s && (decide (0 ≤ p.n) && p.s.data.toList.all plU))) else if p.tag = 2 then zvB p && (nameB p.nm && (decide (p.tb.data.toList = []) || nameB p.tb)) else zvB p && (decide (p.tb.data.toList = []) && decide (p.nm.data.toList = [])) from rfl)
  have HZ := run_eqZ p.k p.n p.u p.s
  have HZV := Lib.hid (show zvB p = decide (p.k = 0 ∧ p.n = 0 ∧ p.u = 0 ∧ p.s.data.toList = []) from rfl)
  obtain ⟨t, k, n, u, s, tb, nm⟩ := p
  generalize cntB ⟨t, k, n, u, s, tb, nm⟩ = res at *
  generalize zvB ⟨t, k, n, u, s, tb, nm⟩ = zv at *
  simp only at HC HZ h1 HZV ⊢
  rw [← HZV.out] at HZ
  rw [plainV_eq] at HC
  have HQ := Lib.hid (bl_al (Below.refl w.heap.size w) (.cells (Nd.cells ⟨⟨t, k, n, u, s, tb, nm⟩, l, r⟩) 27))
  have HB := Lib.hid (Blk.new w 27 (Nd.cells ⟨⟨t, k, n, u, s, tb, nm⟩, l, r⟩))
  have HL := Lib.hid (fun W => rliteral_any k n u s W h1)
  obtain ⟨lb, hlb⟩ : ∃ lb, lb = (wriB s && (plainB k n u s && decide (0 ≤ n))) := ⟨_, rfl⟩
  rw [← hlb] at HL
  have HLB := Lib.hid hlb
  clear hlb h1 HZV
  go_enter Tryd.func30, Tryd.ntmps30
  go_upto_region 1 with fail
  generalize w.alloc (.cells #[.int .i64 t, .int .i64 l, .int .i64 r, .int .i64 k, .int .i64 n, .int .u64 u, .string s, .string tb, .string nm] 27) = w1 at *
  have x0 := HB.out.cell 0
  have x3 := HB.out.cell 3
  have x4 := HB.out.cell 4
  have x5 := HB.out.cell 5
  have x6 := HB.out.cell 6
  have x7 := HB.out.cell 7
  have x8 := HB.out.cell 8
  simp at x0 x3 x4 x5 x6 x7 x8
  by_cases t1 : t = 1
  · subst t1
    have HF := Lib.hid (show res = (decide (tb.data.toList = []) && (decide (nm.data.toList = []) && (plainB k n u s && (decide (0 ≤ n) && wriB s)))) from by rw [HC.out, if_pos rfl]; rfl)
    clear HC HZ
    go_wp2_with fail
    refine (HL.out _).mono ?_
    rintro e w2 ⟨rfl, q2⟩
    have HQ2 := Lib.hid (bl_ca HQ.out q2)
    have y7 := (HB.out.ca q2).cell 7
    have y8 := (HB.out.ca q2).cell 8
    simp at y7 y8
    clear x0 x3 x4 x5 x6 x7 x8 q2
    rw [lit_b HLB.out] at HF
    cases lb
    · have HFF := Lib.hid (show res = false from by rw [HF.out]; rfl)
      go_wp2
      go_ret
      exact ⟨ret_bool HFF.out.symm, HQ2.out⟩
    · have HF2 := Lib.hid (show res = (decide (tb.data.toList = []) && decide (nm.data.toList = [])) from by rw [HF.out]; rfl)
      clear HF
      by_cases htb : tb.data.toList = []
      · by_cases hnm : nm.data.toList = []
        · have HFF := Lib.hid (show res = true from by rw [HF2.out, decide_eq_true htb, decide_eq_true hnm]; rfl)
          obtain rfl := ba_e htb
          obtain rfl := ba_e hnm
          clear htb hnm
          go_wp2
          go_ret
          exact ⟨ret_bool HFF.out.symm, HQ2.out⟩
        · have HFF := Lib.hid (show res = false from by rw [HF2.out, decide_eq_false hnm, Bool.and_false])
          obtain rfl := ba_e htb
          obtain ⟨g1, g2, g3⟩ := emp_facts hnm
          clear htb hnm
          go_wp2
          go_ret
          exact ⟨ret_bool HFF.out.symm, HQ2.out⟩
      · have HFF := Lib.hid (show res = false from by rw [HF2.out, decide_eq_false htb]; rfl)
        obtain ⟨g1, g2, g3⟩ := emp_facts htb
        clear htb
        go_wp2
        go_ret
        exact ⟨ret_bool HFF.out.symm, HQ2.out⟩
  have k1 : (t == 1) = false := by simpa using t1
  by_cases t2 : t = 2
  · subst t2
    have HF := Lib.hid (show res = (zv && (nameB nm && (decide (tb.data.toList = []) || nameB tb))) from by rw [HC.out, if_neg (by decide), if_pos rfl])
    clear HC t1 HL
    have HN := Lib.hid (fun W => risname_any nm W)
    have HM := Lib.hid (fun W => rmaybe_any tb W)
    have HMB := Lib.hid (show mayB tb = (decide (tb.data.toList = []) || nameB tb) from rfl)
    rw [← HMB.out] at HF
    generalize mayB tb = mb at *
    generalize nameB nm = nb at *
    cases zv
    · have HFF := Lib.hid (show res = false from by rw [HF.out]; rfl)
      go_wp2
      go_ret
      exact ⟨ret_bool HFF.out.symm, HQ.out⟩
    · go_wp2_with fail
      refine (HN.out _).mono ?_
      rintro e w2 ⟨rfl, q2⟩
      have HQ2 := Lib.hid (bl_ca HQ.out q2)
      have y7 := (HB.out.ca q2).cell 7
      simp at y7
      clear x0 x3 x4 x5 x6 x7 x8 q2 HZ
      cases nb
      · have HFF := Lib.hid (show res = false from by rw [HF.out]; rfl)
        go_wp2
        go_ret
        exact ⟨ret_bool HFF.out.symm, HQ2.out⟩
      · have HFF := Lib.hid (show res = mb from by rw [HF.out]; rfl)
        go_wp2_with fail
        refine (HM.out _).mono ?_
        rintro e w3 ⟨rfl, q3⟩
        have HQ3 := Lib.hid (bl_ca HQ2.out q3)
        clear q3 y7
        go_wp2
        go_ret
        exact ⟨ret_bool HFF.out.symm, HQ3.out⟩
  have k2 : (t == 2) = false := by simpa using t2
  have HF := Lib.hid (show res = (zv && (decide (tb.data.toList = []) && decide (nm.data.toList = []))) from by rw [HC.out, if_neg t1, if_neg t2])
  clear HC t1 t2 HL
  cases zv
  · have HFF := Lib.hid (show res = false from by rw [HF.out]; rfl)
    go_wp2
    go_ret
    exact ⟨ret_bool HFF.out.symm, HQ.out⟩
  · by_cases htb : tb.data.toList = []
    · by_cases hnm : nm.data.toList = []
      · have HFF := Lib.hid (show res = true from by rw [HF.out, decide_eq_true htb, decide_eq_true hnm]; rfl)
        obtain rfl := ba_e htb
        obtain rfl := ba_e hnm
        clear htb hnm
        go_wp2
        go_ret
        exact ⟨ret_bool HFF.out.symm, HQ.out⟩
      · have HFF := Lib.hid (show res = false from by rw [HF.out, decide_eq_false hnm, Bool.and_false, Bool.and_false])
        obtain rfl := ba_e htb
        obtain ⟨g1, g2, g3⟩ := emp_facts hnm
        clear htb hnm
        go_wp2
        go_ret
        exact ⟨ret_bool HFF.out.symm, HQ.out⟩
    · have HFF := Lib.hid (show res = false from by rw [HF.out, decide_eq_false htb]; rfl)
      obtain ⟨g1, g2, g3⟩ := emp_facts htb
      clear htb
      go_wp2
      go_ret
      exact ⟨ret_bool HFF.out.symm, HQ.out⟩
end Go.Proofs.YtoaggmldekejoaaDoor
