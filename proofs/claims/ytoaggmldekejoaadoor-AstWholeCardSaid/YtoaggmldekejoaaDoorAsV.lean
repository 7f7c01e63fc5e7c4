/- tree: a node over two parts; PrintTree. Conditions: the nodes read so; what the tables hold. -/
import Derived.Test.YtoaggmldekejoaaDoorAsU
namespace Go.Proofs.YtoaggmldekejoaaDoor
open Go.RowKit
theorem par_len (x : Tr) : (parT x).length ≤ (prT x).length + 2 := by
  unfold parT; split
  · omega
  · rw [List.length_cons, List.length_append]; simp only [List.length_cons, List.length_nil]; omega
theorem sg_at {k : Nat} (h1 : 1 ≤ k) (h2 : k ≤ 23) : asigns[k]? = some (sgL (k : Int)) := by
  unfold asigns sgL
  obtain ⟨j, rfl⟩ : ∃ j, k = j + 1 := ⟨k - 1, by omega⟩
  rw [List.getElem?_cons_succ, Int.toNat_natCast, Nat.add_sub_cancel, List.getD_eq_getElem?_getD]
  have : j < sgs.length := by have : sgs.length = 23 := rfl; omega
  rw [List.getElem?_eq_getElem this]
  rfl
set_option maxRecDepth 100000 in
set_option maxHeartbeats 8000000 in
theorem node_two {F : Nat → Prop} {xs : List Nd} {A : Option Addr} {n c bt bn bp : Nat} {p : Py} {a b : Tr} {o : Nat} (hP : PartW F xs A n c bt bn bp a o) (hP2 : PartW F xs A n c bt bn bp b (o + a.size)) (hl : LiesAt xs (.two p a b) o) (hok : (Tr.two p a b).ok cntB = true) (hz : (prT a).length ≤ 99000) (hz2 : (prT b).length ≤ 99000) : NodeW F xs A n c bt bn bp (.two p a b) o := by
  obtain ⟨hpt, hcb, _⟩ := ok_two hok
  obtain ⟨tg, htp, _⟩ := one_zero hcb (.inr hpt)
  subst htp
  intro w hc
  have hrt := lies_root hl
  have hap := a.size_pos
  have hbp := b.size_pos
  have htg := tag_two hpt
  change 12 ≤ tg ∧ tg ≤ 23 at htg
  unfold PartW at hP hP2
  obtain ⟨i, hi⟩ : ∃ i, i = o + (Tr.two (zP tg) a b).size - 1 := ⟨_, rfl⟩
  obtain ⟨i1, hi1⟩ : ∃ i1, i1 = o + a.size - 1 := ⟨_, rfl⟩
  obtain ⟨i2, hi2⟩ : ∃ i2, i2 = o + a.size + b.size - 1 := ⟨_, rfl⟩
  rw [← hi] at hrt ⊢
  rw [← hi1] at hP
  rw [← hi2] at hP2
  have hin : i < n := by
    have := (List.getElem?_eq_some_iff.1 hrt).1
    rw [Lay.rd_len hc.rd] at this
    exact this
  obtain ⟨p3, x, hAe, hx, s3⟩ := LN_at hc.rd hin
  obtain rfl : A = some p3 := hAe
  have hxe := at_eq hrt hx
  subst hxe
  have hL : ((Tr.two (zP tg) a b).node o).l = (i1 : Int) := by show ((o + a.size : Nat) : Int) - 1 = _; omega
  have hR : ((Tr.two (zP tg) a b).node o).r = (i2 : Int) := by show ((o + a.size + b.size : Nat) : Int) - 1 = _; omega
  have e0 : w.cell? (p3.add (i * 9)) = some (.int .i64 tg) := s3.c0
  have e1 : w.cell? ⟨(p3.add (i * 9)).block, (p3.add (i * 9)).off + 1, none⟩ = some (.int .i64 (i1 : Int)) := by rw [← hL]; exact s3.c1
  have e2 : w.cell? ⟨(p3.add (i * 9)).block, (p3.add (i * 9)).off + 2, none⟩ = some (.int .i64 (i2 : Int)) := by rw [← hR]; exact s3.c2
  have e3 : w.cell? ⟨(p3.add (i * 9)).block, (p3.add (i * 9)).off + 3, none⟩ = some (.int .i64 0) := s3.c3
  have e4 : w.cell? ⟨(p3.add (i * 9)).block, (p3.add (i * 9)).off + 4, none⟩ = some (.int .i64 0) := s3.c4
  have e5 : w.cell? ⟨(p3.add (i * 9)).block, (p3.add (i * 9)).off + 5, none⟩ = some (.int .u64 0) := s3.c5
  have e6 : w.cell? ⟨(p3.add (i * 9)).block, (p3.add (i * 9)).off + 6, none⟩ = some (.string eB) := s3.c6
  have e7 : w.cell? ⟨(p3.add (i * 9)).block, (p3.add (i * 9)).off + 7, none⟩ = some (.string eB) := s3.c7
  have e8 : w.cell? ⟨(p3.add (i * 9)).block, (p3.add (i * 9)).off + 8, none⟩ = some (.string eB) := s3.c8
  have c1 := hc.tr
  have hin2 : (i : Int) < (n : Int) := by omega
  have HC := Lib.hid hc
  have HQ := Lib.hid (bl_al (Below.refl w.heap.size w) (.cells #[.int .i64 tg, .int .i64 (i1 : Int), .int .i64 (i2 : Int), .int .i64 0, .int .i64 0, .int .u64 0, .string eB, .string eB, .string eB] 27))
  have HB := Lib.hid (Blk.new w 27 #[.int .i64 tg, .int .i64 (i1 : Int), .int .i64 (i2 : Int), .int .i64 0, .int .i64 0, .int .u64 0, .string eB, .string eB, .string eB])
  have HPR := Lib.hid (show bS (parT a ++ (32 :: (sgL tg ++ (32 :: parT b)))) = bS (prT (.two (zP tg) a b)) from by rw [pr_two])
  generalize prT (.two (zP tg) a b) = R at *
  obtain ⟨ZA, hZA⟩ : ∃ Z, Z = bS (parT a) := ⟨_, rfl⟩
  obtain ⟨ZB, hZB⟩ : ∃ Z, Z = bS (parT b) := ⟨_, rfl⟩
  obtain ⟨SG, hSG⟩ : ∃ Z, Z = bS (sgL tg) := ⟨_, rfl⟩
  have HPA := Lib.hid hP
  have HPB := Lib.hid hP2
  rw [← hZA] at HPA
  rw [← hZB] at HPB
  have sa : ZA.size ≤ 99002 := by rw [hZA, bs_size]; have := par_len a; omega
  have sb : ZB.size ≤ 99002 := by rw [hZB, bs_size]; have := par_len b; omega
  have ss : SG.size ≤ 11 := by rw [hSG, bs_size]; exact sg_len tg
  have b1 : (⟨#[32]⟩ : ByteArray).size ≤ 1 := by decide
  have s1 : (ZA ++ ⟨#[32]⟩ : ByteArray).size ≤ 99003 := by rw [ByteArray.size_append]; omega
  have s2 : ((ZA ++ ⟨#[32]⟩) ++ SG : ByteArray).size ≤ 99014 := by rw [ByteArray.size_append]; omega
  have s3' : (((ZA ++ ⟨#[32]⟩) ++ SG) ++ ⟨#[32]⟩ : ByteArray).size ≤ 99015 := by rw [ByteArray.size_append]; omega
  have HF := Lib.hid (show (((ZA ++ ⟨#[32]⟩) ++ SG) ++ ⟨#[32]⟩) ++ ZB = bS R from by
    rw [← HPR.out, hZA, hZB, hSG]
    exact bS_of (by rw [ByteArray.data_append, Array.toList_append, ByteArray.data_append, Array.toList_append, ByteArray.data_append, Array.toList_append, ByteArray.data_append, Array.toList_append, List.append_assoc, List.append_assoc, List.append_assoc]; rfl))
  have HSG := Lib.hid hSG
  clear hc hrt hx s3 hcb hok hl hP hP2 hz hz2 hZA hZB hpt hi hi1 hi2 hL hR hap hbp hSG HPR
  go_enter Tryd.func35, Tryd.ntmps35
  go_upto_region 2 with fail
  generalize w.alloc (.cells #[.int .i64 tg, .int .i64 (i1 : Int), .int .i64 (i2 : Int), .int .i64 0, .int .i64 0, .int .u64 0, .string eB, .string eB, .string eB] 27) = w1 at *
  clear e0 e1 e2 e3 e4 e5 e6 e7 e8 c1
  have HC1 := Lib.hid (HC.out.below HQ.out)
  have e0 := HB.out.cell 0
  simp at e0
  obtain ⟨tk, htk⟩ : ∃ tk : Nat, tg = (tk : Int) := ⟨tg.toNat, by omega⟩
  subst htk
  have hsg := HC1.out.tab.sg tk _ (sg_at (by omega) (by omega))
  rw [← HSG.out] at hsg
  have h24 : (tk : Int) < 24 := by omega
  have h0 : 0 ≤ (tk : Int) := by omega
  have k1 : ((tk : Int) == 1) = false := by simp; omega
  have k2 : ((tk : Int) == 2) = false := by simp; omega
  have k3 : ((tk : Int) == 3) = false := by simp; omega
  have k4 : ((tk : Int) == 4) = false := by simp; omega
  have k5 : ((tk : Int) == 5) = false := by simp; omega
  have k6 : ((tk : Int) == 6) = false := by simp; omega
  have k7 : ((tk : Int) == 7) = false := by simp; omega
  have k8 : ((tk : Int) == 8) = false := by simp; omega
  have k9 : ((tk : Int) == 9) = false := by simp; omega
  have k10 : ((tk : Int) == 10) = false := by simp; omega
  have k11 : ((tk : Int) == 11) = false := by simp; omega
  clear htg
  go_upto_region 22 with fail
  have c3 := HC1.out.pt
  have HCC := Lib.hid HC1.out
  refine wp_region_ps (S := fun _ _ w' => Below w1.heap.size w1 w') (by kernel_rfl) ?spswg1 ?ppswg1
  case spswg1 =>
    exact (Below.refl w1.heap.size w1).drew
  refine Ps.st (i := 0) (d := some 73) (u := (.func (.func 34) #[] #[.pointer (some ⟨bn, 0, none⟩), .pointer (some ⟨bt, 0, none⟩)])) rfl rfl ?ywg1_2 ?rwg1_2
  case ywg1_2 =>
    refine StepS.read [] (by kernel_rfl) nP (by rfl) (fun L9 m9 w9 hSh hAt hDn hS => ?_)
    have hT : Below _ _ w9 := hS
    have x0 : w9.cell? ⟨bp, 0, none⟩ = some (.func (.func 34) #[] #[.pointer (some ⟨bn, 0, none⟩), .pointer (some ⟨bt, 0, none⟩)]) := ce c3 hT
    clear hT hS
    go_simp
    try rfl
  try simp only [Act.put, sA, sZ, sS]
  refine Ps.st (i := 1) (d := some 74) (u := (.pointer (some ⟨w.heap.size, 1, none⟩))) rfl rfl (by exact StepS.pure nP rfl fun _ => rfl) ?_
  try simp only [Act.put, sA, sZ, sS]
  refine Ps.st (i := 2) (d := some 75) (u := (.int .i64 ((i1 : Int)))) rfl rfl ?ywg1_4 ?rwg1_4
  case ywg1_4 =>
    refine StepS.read [] (by kernel_rfl) nP (by rfl) (fun L9 m9 w9 hSh hAt hDn hS => ?_)
    have hT : Below _ _ w9 := hS
    have x0 : w9.cell? ⟨w.heap.size, 1, none⟩ = some (.int .i64 ((i1 : Int))) := (HB.out.ca hT).cell 1
    clear hT hS
    go_simp
    try rfl
  try simp only [Act.put, sA, sZ, sS]
  refine Ps.st (i := 3) (d := some 76) (u := (.string ZA)) rfl rfl ?ywg1_5 ?rwg1_5
  case ywg1_5 =>
    refine StepS.call ?fwg1_5 ?awg1_5 [] (by kernel_rfl) (by rfl) (fun w9 => ?hwg1_5) (fun L9 m9 w9 hSh hAt hDn hS => ?cwg1_5)
    case hwg1_5 => go_simp; refine ⟨?_, ?_⟩ <;> rfl
    case cwg1_5 =>
      have hT : Below _ _ w9 := hS
      refine (HPA.out _ (HCC.out.below hT)).mono ?_
      rintro e w8 ⟨rfl, q8⟩
      exact ⟨rfl, bl_ca hT q8⟩
  try simp only [Act.put, sA, sZ, sS]
  refine Ps.st (i := 4) (d := some 77) (u := (.string ((ZA ++ ⟨#[32]⟩)))) rfl rfl ?ywg1_6 ?rwg1_6
  case ywg1_6 =>
    refine StepS.pure nP (by rfl) (fun w9 => ?_)
    have hz9 := trivial
    (go_simp; omega)
  try simp only [Act.put, sA, sZ, sS]
  refine Ps.st (i := 5) (d := some 78) (u := (.string SG)) rfl rfl (by exact StepS.pure nP rfl fun _ => rfl) ?_
  try simp only [Act.put, sA, sZ, sS]
  refine Ps.st (i := 6) (d := some 79) (u := (.string (((ZA ++ ⟨#[32]⟩) ++ SG)))) rfl rfl ?ywg1_8 ?rwg1_8
  case ywg1_8 =>
    refine StepS.pure nP (by rfl) (fun w9 => ?_)
    have hz9 := trivial
    (go_simp; omega)
  try simp only [Act.put, sA, sZ, sS]
  refine Ps.st (i := 7) (d := some 80) (u := (.string ((((ZA ++ ⟨#[32]⟩) ++ SG) ++ ⟨#[32]⟩)))) rfl rfl ?ywg1_9 ?rwg1_9
  case ywg1_9 =>
    refine StepS.pure nP (by rfl) (fun w9 => ?_)
    have hz9 := trivial
    (go_simp; omega)
  try simp only [Act.put, sA, sZ, sS]
  refine Ps.st (i := 8) (d := some 81) (u := (.func (.func 34) #[] #[.pointer (some ⟨bn, 0, none⟩), .pointer (some ⟨bt, 0, none⟩)])) rfl rfl ?ywg1_10 ?rwg1_10
  case ywg1_10 =>
    refine StepS.read [] (by kernel_rfl) nP (by rfl) (fun L9 m9 w9 hSh hAt hDn hS => ?_)
    have hT : Below _ _ w9 := hS
    have x0 : w9.cell? ⟨bp, 0, none⟩ = some (.func (.func 34) #[] #[.pointer (some ⟨bn, 0, none⟩), .pointer (some ⟨bt, 0, none⟩)]) := ce c3 hT
    clear hT hS
    go_simp
    try rfl
  try simp only [Act.put, sA, sZ, sS]
  refine Ps.st (i := 9) (d := some 82) (u := (.pointer (some ⟨w.heap.size, 2, none⟩))) rfl rfl (by exact StepS.pure nP rfl fun _ => rfl) ?_
  try simp only [Act.put, sA, sZ, sS]
  refine Ps.st (i := 10) (d := some 83) (u := (.int .i64 ((i2 : Int)))) rfl rfl ?ywg1_12 ?rwg1_12
  case ywg1_12 =>
    refine StepS.read [] (by kernel_rfl) nP (by rfl) (fun L9 m9 w9 hSh hAt hDn hS => ?_)
    have hT : Below _ _ w9 := hS
    have x0 : w9.cell? ⟨w.heap.size, 2, none⟩ = some (.int .i64 ((i2 : Int))) := (HB.out.ca hT).cell 2
    clear hT hS
    go_simp
    try rfl
  try simp only [Act.put, sA, sZ, sS]
  refine Ps.st (i := 11) (d := some 84) (u := (.string ZB)) rfl rfl ?ywg1_13 ?rwg1_13
  case ywg1_13 =>
    refine StepS.call ?fwg1_13 ?awg1_13 [] (by kernel_rfl) (by rfl) (fun w9 => ?hwg1_13) (fun L9 m9 w9 hSh hAt hDn hS => ?cwg1_13)
    case hwg1_13 => go_simp; refine ⟨?_, ?_⟩ <;> rfl
    case cwg1_13 =>
      have hT : Below _ _ w9 := hS
      refine (HPB.out _ (HCC.out.below hT)).mono ?_
      rintro e w8 ⟨rfl, q8⟩
      exact ⟨rfl, bl_ca hT q8⟩
  try simp only [Act.put, sA, sZ, sS]
  refine Ps.st (i := 12) (d := some 85) (u := (.string (((((ZA ++ ⟨#[32]⟩) ++ SG) ++ ⟨#[32]⟩) ++ ZB)))) rfl rfl ?ywg1_14 ?rwg1_14
  case ywg1_14 =>
    refine StepS.pure nP (by rfl) (fun w9 => ?_)
    have hz9 := trivial
    (go_simp; omega)
  try simp only [Act.put, sA, sZ, sS]
  refine Ps.st (i := 13) (d := some 5) (u := (.string (((((ZA ++ ⟨#[32]⟩) ++ SG) ++ ⟨#[32]⟩) ++ ZB)))) rfl rfl (by exact StepS.pure nP rfl fun _ => rfl) ?_
  try simp only [Act.put, sA, sZ, sS]
  refine Ps.done (by kernel_rfl) (fun wg1 hS => ?_) _
  have HW := Lib.hid (show Below w1.heap.size w1 wg1 from hS)
  clear hS
  obtain ⟨w2, rfl⟩ : ∃ x, x = wg1 := ⟨_, rfl⟩
  go_wp2
  go_ret
  exact ⟨by rw [← HF.out]; rfl, bl_ca HQ.out HW.out⟩
/-- how the nodes of a tree are written -/
def prF (xs : List Nd) : ByteArray := match treeF cntB xs with | some t => bS (prT t) | none => ⟨#[]⟩
theorem store_there {P : Program} {w : World} {g i : Nat} {t : TypeId} {cs : Array Value} {v : Value} (h : Blk w g t cs) (hi : i < cs.size) (h1 : v.oneCell' = true) : (store ⟨g, i, none⟩ v).run P w = .ok () (w.setCell ⟨g, i, none⟩ v) := by
  rw [run_store P w _ v _ h1, h.cell, Array.getElem?_eq_getElem hi]
  simp [h.frozen]
/-! ### whole trees -/
theorem all_W {F : Nat → Prop} {xs : List Nd} {A : Option Addr} {n c bt bn bp : Nat} : ∀ (u : Tr) (o : Nat), LiesAt xs u o → u.ok cntB = true → rgT u → u.size ≤ 300 → NodeW F xs A n c bt bn bp u o ∧ PartW F xs A n c bt bn bp u o
  | .leaf p, o, hl, hok, hr, hs => by
    have hN : NodeW F xs A n c bt bn bp (.leaf p) o := node_leaf hl hok hr
    have := pr_len (.leaf p) hok hr
    exact ⟨hN, part_of hN hl hok (by omega)⟩
  | .one p a, o, hl, hok, hr, hs => by
    have hsz : (Tr.one p a).size = a.size + 1 := rfl
    have ih := all_W (F := F) (A := A) (n := n) (c := c) (bt := bt) (bn := bn) (bp := bp) a o (lies_one hl) (ok_one hok).2.2 hr (by omega)
    have ha := pr_len a (ok_one hok).2.2 hr
    have hN : NodeW F xs A n c bt bn bp (.one p a) o := node_one ih.1 ih.2 hl hok (by omega)
    have := pr_len (.one p a) hok hr
    exact ⟨hN, part_of hN hl hok (by omega)⟩
  | .two p a b, o, hl, hok, hr, hs => by
    have hsz : (Tr.two p a b).size = a.size + b.size + 1 := rfl
    have ih := all_W (F := F) (A := A) (n := n) (c := c) (bt := bt) (bn := bn) (bp := bp) a o (lies_two hl).1 (ok_two hok).2.2.1 hr.1 (by omega)
    have ih2 := all_W (F := F) (A := A) (n := n) (c := c) (bt := bt) (bn := bn) (bp := bp) b (o + a.size) (lies_two hl).2 (ok_two hok).2.2.2 hr.2 (by omega)
    have ha := pr_len a (ok_two hok).2.2.1 hr.1
    have hb := pr_len b (ok_two hok).2.2.2 hr.2
    have hN : NodeW F xs A n c bt bn bp (.two p a b) o := node_two ih.2 ih2.2 hl hok (by omega) (by omega)
    have := pr_len (.two p a b) hok hr
    exact ⟨hN, part_of hN hl hok (by omega)⟩
theorem rg_all : ∀ (u : Tr) (o : Nat), (∀ x ∈ u.flat o, RgP x.p) → rgT u
  | .leaf p, o, h => h ⟨p, -1, -1⟩ (by show _ ∈ [(⟨p, -1, -1⟩ : Nd)]; simp)
  | .one p a, o, h => rg_all a o (fun x hx => h x (List.mem_append_left _ hx))
  | .two p a b, o, h => ⟨rg_all a o (fun x hx => h x (List.mem_append_left _ hx)), rg_all b _ (fun x hx => h x (List.mem_append_right _ (List.mem_append_left _ hx)))⟩
set_option maxRecDepth 100000 in
theorem tree_any (F : Nat → Prop) (xs : List Nd) (t : Tr) (A : Option Addr) (n c : Nat) (w : World) (h : LN.rd w F A n xs) (hn : n ≤ 100000) (hT : Tab w) (ht : treeF cntB xs = some t) (hr : ∀ x ∈ xs, RgP x.p) :
    Calls Tryd.prog 27 #[.agg #[.slice A n c]] w fun e w' => e = .returned (.string (bS (prT t))) ∧ Below w.heap.size w w' := by
  have hx := (treeF_some.1 ht).1
  have hsz := (treeF_some.1 ht).2.2.1
  have htl := tree_len ht
  have hp := t.size_pos
  have hl : LiesAt xs t 0 := fun i _ => by rw [Nat.zero_add, hx]
  have hrg : rgT t := rg_all t 0 (by rw [← hx]; exact hr)
  have hln := Lay.rd_len h
  have HW := Lib.hid (fun bt bn bp => (all_W (F := F) (A := A) (n := n) (c := c) (bt := bt) (bn := bn) (bp := bp) t 0 hl (treeF_some.1 ht).2.1 hrg hsz).1)
  obtain ⟨n1, hn1⟩ : ∃ n1, n = n1 + 1 := ⟨n - 1, by omega⟩
  have HI := Lib.hid (show 0 + t.size - 1 = n1 from by omega)
  have hix : (n : Int) - 1 = (n1 : Int) := by omega
  have hix1 : (n1 : Int) ≤ 100000 := by omega
  have HRD := Lib.hid h
  have HT := Lib.hid hT
  unfold NodeW at HW
  generalize bS (prT t) = Z at *
  clear h hT ht hr hx hsz htl hp hl hrg hln hn1
  have HB1 := Lib.hid ((Blk.new w 30 #[.slice A n c]).alloc (.cells #[.nilFunc] 70))
  have HB3 := Lib.hid (show Blk ((w.alloc (.cells #[.slice A n c] 30)).alloc (.cells #[.nilFunc] 70)) (w.heap.size + 1) 70 #[.nilFunc] from by
    have := Blk.new (w.alloc (.cells #[.slice A n c] 30)) 70 #[.nilFunc]
    rwa [World.size_alloc] at this)
  have HQ1 := Lib.hid (bl_al (bl_al (Below.refl w.heap.size w) (.cells #[.slice A n c] 30)) (.cells #[.nilFunc] 70))
  go_enter Tryd.func27, Tryd.ntmps27
  go_upto_region 2 with fail
  generalize (w.alloc (.cells #[.slice A n c] 30)).alloc (.cells #[.nilFunc] 70) = w1 at *
  generalize hg3 : w.heap.size + 1 = g3 at *
  have l3 : w.heap.size < g3 := by omega
  have l4 := HB3.out.lt
  clear hg3
  have HC4 := Lib.hid (Blk.new w1 70 #[.func (.func 34) #[] #[.pointer (some ⟨g3, 0, none⟩), .pointer (some ⟨w.heap.size, 0, none⟩)]])
  have HQ5 := Lib.hid (bl_al (Below.refl w1.heap.size w1) (.cells #[.func (.func 34) #[] #[.pointer (some ⟨g3, 0, none⟩), .pointer (some ⟨w.heap.size, 0, none⟩)]] 70))
  have hst1 := store_there (P := Tryd.prog) (Blk.new w1 70 #[.nilFunc]) (i := 0) (v := .func (.func 34) #[] #[.pointer (some ⟨g3, 0, none⟩), .pointer (some ⟨w.heap.size, 0, none⟩)]) (by decide) rfl
  go_upto_region 3 with fail
  clear hst1
  generalize w1.alloc (.cells #[.func (.func 34) #[] #[.pointer (some ⟨g3, 0, none⟩), .pointer (some ⟨w.heap.size, 0, none⟩)]] 70) = w2 at *
  have HC3 := Lib.hid (HB3.out.ca HQ5.out)
  have HC1 := Lib.hid (HB1.out.ca HQ5.out)
  have hst2 := store_there (P := Tryd.prog) HC3.out (i := 0) (v := .func (.func 35) #[] #[.pointer (some ⟨w.heap.size, 0, none⟩), .pointer (some ⟨w1.heap.size, 0, none⟩), .pointer (some ⟨g3, 0, none⟩)]) (by decide) rfl
  go_upto_region 4 with fail
  have hgr : w2.grownBy (w2.setCell ⟨g3, 0, none⟩ (.func (.func 35) #[] #[.pointer (some ⟨w.heap.size, 0, none⟩), .pointer (some ⟨w1.heap.size, 0, none⟩), .pointer (some ⟨g3, 0, none⟩)])) (some g3) := only_setCell (p := ⟨g3, 0, none⟩) (World.grownBy.refl w2 _) (.inl rfl) _
  have HD3 := Lib.hid (show Blk (w2.setCell ⟨g3, 0, none⟩ (.func (.func 35) #[] #[.pointer (some ⟨w.heap.size, 0, none⟩), .pointer (some ⟨w1.heap.size, 0, none⟩), .pointer (some ⟨g3, 0, none⟩)])) g3 70 #[.func (.func 35) #[] #[.pointer (some ⟨w.heap.size, 0, none⟩), .pointer (some ⟨w1.heap.size, 0, none⟩), .pointer (some ⟨g3, 0, none⟩)]] from HC3.out.set_ 0 _)
  have HD1 := Lib.hid (HC1.out.apart hgr (by omega))
  have HD4 := Lib.hid (HC4.out.apart hgr (by omega))
  have HQ6 := Lib.hid (bl_set (bl_ca HQ1.out HQ5.out) (p := ⟨g3, 0, none⟩) (by show _ ≤ g3; omega) (.func (.func 35) #[] #[.pointer (some ⟨w.heap.size, 0, none⟩), .pointer (some ⟨w1.heap.size, 0, none⟩), .pointer (some ⟨g3, 0, none⟩)]))
  clear hst2 hgr
  generalize w2.setCell ⟨g3, 0, none⟩ (.func (.func 35) #[] #[.pointer (some ⟨w.heap.size, 0, none⟩), .pointer (some ⟨w1.heap.size, 0, none⟩), .pointer (some ⟨g3, 0, none⟩)]) = w3 at *
  have HCX := Lib.hid (show Cx F xs A n c w.heap.size g3 w1.heap.size w3 from ⟨HD1.out.cell 0, HD3.out.cell 0, HD4.out.cell 0, Lay.rd_below HRD.out HQ6.out, HT.out.below HQ6.out⟩)
  have c1 := HCX.out.tr
  have c3 := HCX.out.nd
  go_wp2_with fail
  have hw := HW.out w.heap.size g3 w1.heap.size w3 HCX.out
  rw [HI.out] at hw
  refine hw.mono ?_
  rintro e w4 ⟨rfl, q4⟩
  have HQ7 := Lib.hid (bl_ca HQ6.out q4)
  clear q4 hw c1 c3
  go_wp2
  go_ret
  exact ⟨rfl, HQ7.out⟩
set_option maxRecDepth 100000 in
theorem printtree_any (F : Nat → Prop) (xs : List Nd) (A : Option Addr) (n c : Nat) (w : World) (h : LN.rd w F A n xs) (hn : n ≤ 100000) (hT : Tab w) (hS : ∀ x ∈ xs, SmP x.p) (hr : ∀ x ∈ xs, RgP x.p) :
    Calls Tryd.prog 18 #[.agg #[.slice A n c]] w fun e w' => e = .returned (.tuple #[.string (prF xs), .int .i64 (chkE xs)]) ∧ Below w.heap.size w w' := by
  have HQ := Lib.hid (bl_al (Below.refl w.heap.size w) (.cells #[.slice A n c] 30))
  have HB := Lib.hid (Blk.new w 30 #[.slice A n c])
  have HRD := Lib.hid (Lay.rd_below h HQ.out)
  have HT := Lib.hid (hT.below HQ.out)
  have HC := Lib.hid (checktree_any F xs A n c _ HRD.out hn HT.out hS)
  have HPF := Lib.hid (show prF xs = match treeF cntB xs with | some t => bS (prT t) | none => ⟨#[]⟩ from rfl)
  have HCE := Lib.hid (show chkE xs = if okF xs then 0 else 180 from rfl)
  have HN := Lib.hid hn
  have HR := Lib.hid hr
  generalize prF xs = P at *
  obtain ⟨E, hE⟩ : ∃ E, E = chkE xs := ⟨_, rfl⟩
  rw [← hE] at HC HCE ⊢
  clear h hT hS hn hr hE
  go_enter Tryd.func18, Tryd.ntmps18
  go_wp2_with fail
  generalize w.alloc (.cells #[.slice A n c] 30) = w1 at *
  refine HC.out.mono ?_
  rintro e w2 ⟨rfl, q2⟩
  have HQ2 := Lib.hid (bl_ca HQ.out q2)
  have x0 := (HB.out.ca q2).cell 0
  simp at x0
  have HR2 := Lib.hid (Lay.rd_below HRD.out q2)
  have HT2 := Lib.hid (HT.out.below q2)
  clear q2
  cases ht : treeF cntB xs with
  | none =>
    have HE := Lib.hid (show E = 180 from by rw [HCE.out, okF_no ht]; rfl)
    have HP := Lib.hid (show P = ⟨#[]⟩ from by rw [HPF.out, ht])
    have hE := HE.out
    subst hE
    clear ht
    go_wp2
    go_ret2
    exact ⟨by rw [HP.out]; rfl, HQ2.out⟩
  | some t =>
    have HE := Lib.hid (show E = 0 from by rw [HCE.out, okF_of ht]; rfl)
    have HP := Lib.hid (show P = bS (prT t) from by rw [HPF.out, ht])
    have HTR := Lib.hid (tree_any F xs t A n c w2 HR2.out HN.out HT2.out ht HR.out)
    have hE := HE.out
    subst hE
    rw [← HP.out] at HTR
    clear ht
    go_wp2_with fail
    refine HTR.out.mono ?_
    rintro e w3 ⟨rfl, q3⟩
    have HQ3 := Lib.hid (bl_ca HQ2.out q3)
    clear q3 x0
    go_wp2
    go_ret2
    exact ⟨rfl, HQ3.out⟩
end Go.Proofs.YtoaggmldekejoaaDoor
