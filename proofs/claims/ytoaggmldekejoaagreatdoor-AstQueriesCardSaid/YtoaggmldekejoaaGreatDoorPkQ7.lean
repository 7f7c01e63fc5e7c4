/- Part: the tree whose root is at a place. Conditions: the nodes read so; what the tables hold. -/
import Derived.Test.YtoaggmldekejoaaGreatDoorPkQ6
namespace Go.Proofs.YtoaggmldekejoaaGreatDoor
open Go.RowKit
theorem flat_rng : ∀ (t : Tr) (o : Nat), ∀ x ∈ t.flat o, x.l ≤ ((o + t.size : Nat) : Int) ∧ x.r ≤ ((o + t.size : Nat) : Int)
 | .leaf p, o, x, h => by
  unfold Tr.flat at h; rw [List.mem_singleton] at h; subst h
  constructor <;> (show (-1 : Int) ≤ _; omega)
 | .one p a, o, x, h => by
  have hs : (Tr.one p a).size = a.size + 1 := rfl
  unfold Tr.flat at h
  rcases List.mem_append.1 h with h | h
  · have := flat_rng a o x h; omega
  · rw [List.mem_singleton] at h
    subst h
    constructor
    · show ((o + a.size : Nat) : Int) - 1 ≤ _; omega
    · show (-1 : Int) ≤ _; omega
 | .two p a b, o, x, h => by
  have hs : (Tr.two p a b).size = a.size + b.size + 1 := rfl
  unfold Tr.flat at h
  rcases List.mem_append.1 h with h | h
  · have := flat_rng a o x h; omega
  · rcases List.mem_append.1 h with h | h
    · have := flat_rng b _ x h; omega
    · rw [List.mem_singleton] at h
      subst h
      constructor
      · show ((o + a.size : Nat) : Int) - 1 ≤ _; omega
      · show ((o + a.size + b.size : Nat) : Int) - 1 ≤ _; omega
theorem tree_rng {xs : List Nd} {t : Tr} (h : treeF cntB xs = some t) : ∀ x ∈ xs, x.l ≤ 300 ∧ x.r ≤ 300 := by
 obtain ⟨rfl, _, h2, _⟩ := treeF_some.1 h
 intro x hx
 have := flat_rng t 0 x hx
 omega
theorem treeI : (Tryz.prog.info? 26).map (·.size) = some 1 := by kernel_rfl
end Go.Proofs.YtoaggmldekejoaaGreatDoor
/- made: the tree of a root with parts. Conditions: the trees read so; what the tables hold. -/
namespace Go.Proofs.YtoaggmldekejoaaGreatDoor
open Go.RowKit
abbrev LTr : Lay (List Nd) := Lay.slice LN
theorem LTr_at {w : World} {F : Nat → Prop} {A : Option Addr} {n i : Nat} {xs : List (List Nd)} (h : LTr.rd w F A n xs) (hi : i < n) : ∃ ad x B m c, A = some ad ∧ xs[i]? = some x ∧ w.cell? (ad.add i) = some (.slice B m c) ∧ LN.rd w F B m x ∧ m ≤ c ∧ c ≤ 9223372036854775807 := by
 obtain ⟨ad, x, cs, e, hx, _, _, ⟨B, m, c, rfl, h1, h2, hr⟩, hc⟩ := Lay.rd_at h hi
 refine ⟨ad, x, B, m, c, e, hx, ?_, hr, h1, h2⟩
 have := hc 0 _ rfl
 rwa [show i * LTr.size + 0 = i from by show i * 1 + 0 = i; omega] at this
/-- the nodes of parts, one behind the other; where their roots stand -/
def catN : List (List Nd) → List Nd
 | [] => []
 | [a] => a
 | a :: b :: _ => a ++ b.map (mv (a.length : Int))
def endL : List (List Nd) → Int
 | [] => -1
 | a :: _ => (a.length : Int) - 1
def endR : List (List Nd) → Int
 | a :: b :: _ => ((a.length + b.length : Nat) : Int) - 1
 | _ => -1
theorem made_cat (p : Py) : ∀ l : List (List Nd), madeN p l = catN l ++ [⟨p, endL l, endR l⟩]
 | [] => rfl
 | [_] => rfl
 | a :: b :: _ => by show a ++ (b.map _ ++ [_]) = (a ++ b.map _) ++ [_]; rw [List.append_assoc]; rfl
theorem mv_zero (xs : List Nd) : xs.map (mv 0) = xs := by
 conv => rhs; rw [← List.map_id xs]
 refine List.map_congr_left fun x _ => ?_
 unfold mv
 rw [Int.add_zero, Int.add_zero, ite_self, ite_self]
 rfl
theorem cat_step {l : List (List Nd)} {i : Nat} {x : List Nd} (hi : i < 2) (h : l[i]? = some x) : catN (l.take (i + 1)) = catN (l.take i) ++ x.map (mv ((catN (l.take i)).length : Int)) := by
 match l, i, hi with
 | a :: l, 0, _ =>
  rw [List.getElem?_cons_zero] at h; injection h with h; subst h
  show a = [] ++ a.map (mv ((0 : Nat) : Int))
  rw [List.nil_append]; exact (mv_zero a).symm
 | [a], 1, _ => simp at h
 | a :: b :: l, 1, _ =>
  have hb : b = x := by simpa using h
  subst hb
  rfl
theorem cat_mem : ∀ {l : List (List Nd)} {x : Nd}, x ∈ catN l → ∃ y ∈ l, ∃ z ∈ y, x.p = z.p
 | [], x, h => by cases h
 | [a], x, h => ⟨a, by simp, x, h, rfl⟩
 | a :: b :: l, x, h => by
  rcases List.mem_append.1 h with h | h
  · exact ⟨a, by simp, x, h, rfl⟩
  · obtain ⟨z, hz, rfl⟩ := List.mem_map.1 h
    exact ⟨b, by simp, z, hz, rfl⟩
theorem all_len {l : List (List Nd)} {i : Nat} (h : (l.take i).all okF = true) : (catN (l.take i)).length ≤ 600 := by
 have hz : ∀ x ∈ l.take i, x.length ≤ 300 := fun x hx => by
  obtain ⟨t, ht⟩ := okF_ex (List.all_eq_true.1 h x hx)
  rw [tree_len ht]; exact (treeF_some.1 ht).2.2.1
 generalize l.take i = k at *
 match k with
 | [] => exact Nat.zero_le _
 | [a] => have := hz a (by simp); show a.length ≤ _; omega
 | a :: b :: _ =>
  have := hz a (by simp)
  have := hz b (by simp)
  show (a ++ b.map _).length ≤ _
  rw [List.length_append, List.length_map]; omega
theorem all_step {l : List (List Nd)} {i : Nat} {x : List Nd} (h : (l.take i).all okF = true) (hx : l[i]? = some x) (ho : okF x = true) : (l.take (i + 1)).all okF = true := by
 rw [List.take_add_one, hx, List.all_append, h]; show (true && (okF x && true)) = true; rw [ho]; rfl
theorem all_no {l : List (List Nd)} {i : Nat} {x : List Nd} (hx : l[i]? = some x) (ho : okF x = false) : l.all okF = false := by
 rw [List.all_eq_false]; exact ⟨x, List.mem_of_getElem? hx, by rw [ho]; decide⟩
theorem end_step {l : List (List Nd)} {i : Nat} {x : List Nd} (hi : i < 2) (h : l[i]? = some x) :
 (i = 0 → endL (l.take 1) = ((catN (l.take 0)).length : Int) + x.length - 1 ∧ endR (l.take 1) = -1) ∧ (i = 1 → endL (l.take 2) = endL (l.take 1) ∧ endR (l.take 2) = ((catN (l.take 1)).length : Int) + x.length - 1) := by
 match l, i, hi with
 | a :: l, 0, _ =>
  rw [List.getElem?_cons_zero] at h; injection h with h; subst h
  refine ⟨fun _ => ⟨?_, rfl⟩, fun h => by cases h⟩
  show (a.length : Int) - 1 = ((0 : Nat) : Int) + a.length - 1
  omega
 | [a], 1, _ => simp at h
 | a :: b :: l, 1, _ =>
  have hb : b = x := by simpa using h
  subst hb
  refine ⟨fun h => (by cases h), fun _ => ⟨rfl, ?_⟩⟩
  show ((a.length + b.length : Nat) : Int) - 1 = (a.length : Int) + b.length - 1
  omega
def MdB (nt st : TypeId) (B g6 ni k2 : Nat) (ys zs : List Nd) (W : World) : Nat → (Nat → Value) → World → Prop
 | 0, _, w' => Below W.heap.size W w'
 | 1, m, w' => Below W.heap.size W w' ∧ ∃ A c, m 7 = .slice A ni c ∧ LN.own nt w' W.heap.size (fun _ => False) A ni c zs
 | 2, m, w' => ∃ A c, m 8 = .slice A k2 c ∧ LN.own nt w' B (fun _ => False) A k2 c (ys ++ zs) ∧ Below B W w'
 | _, _, w' => ∃ A c, Blk w' g6 st #[.slice A k2 c] ∧ LN.own nt w' B (fun _ => False) A k2 c (ys ++ zs) ∧ Chg (fun b => B ≤ b ∨ b = g6) W w'
/-- what made gives back -/
def MadeO (w0 : World) (E : Int) (R : List Nd) (e : Ending) (w' : World) : Prop :=
 ∃ A n c, e = .returned (.tuple #[.agg #[.slice A n c], .int .i64 E]) ∧ LN.rd w' (fun b => w0.heap.size ≤ b) A n R ∧ n ≤ c ∧ c ≤ 9223372036854775807 ∧ Below w0.heap.size w0 w'
theorem chg_bel {g : Nat} {w0 w w' : World} {B : Nat} (h : Below w0.heap.size w0 w) (k : Chg (fun b => B ≤ b ∨ b = g) w w') (hB : w0.heap.size ≤ B) (hg : w0.heap.size ≤ g) : Below w0.heap.size w0 w' :=
 Chg.bel h k (fun b _ hX => hX.elim (fun h => Nat.le_trans hB h) (fun h => by omega)) h.size
set_option maxRecDepth 100000 in
set_option maxHeartbeats 16000000 in
theorem made_any (F : Nat → Prop) (p : Py) (pl pr : Int) (ls : List (List Nd)) (A : Option Addr) (m c : Nat) (w : World) (h : LTr.rd w F A m ls) (hm : m ≤ 2) (hlen : ∀ x ∈ ls, x.length ≤ 100000) (hT : Tab w) (hp : SmP p) (hS : ∀ xs ∈ ls, ∀ x ∈ xs, SmP x.p) :
 Calls Tryz.prog 61 #[.agg (Nd.cells ⟨p, pl, pr⟩), .slice A m c] w fun e w' => MadeO w (madeE p ls) (madeR p ls) e w' := by
 have HLEN := Lib.hid (Lay.rd_len h)
 have HLN := Lib.hid hlen
 have HSM := Lib.hid (And.intro hp hS)
 have HE := Lib.hid (show madeE p ls = if madeOk p ls then 0 else 180 from rfl)
 have HR := Lib.hid (show madeR p ls = if madeOk p ls then madeN p ls else [] from rfl)
 generalize madeE p ls = E at *
 generalize madeR p ls = R at *
 have HK := Lib.hid (show madeOk p ls = (ls.all okF && okF (madeN p ls)) from rfl)
 generalize madeOk p ls = ok at *
 have HRD := Lib.hid h
 have HT := Lib.hid hT
 clear h hlen hp hS hT
 go_enter Tryz.func61, Tryz.ntmps61
 go_upto_region 4 with fail
 have HB2 := Lib.hid ((((Blk.new w 57 #[.int .i64 p.tag, .int .i64 (-1), .int .i64 (-1), .int .i64 p.k, .int .i64 p.n, .int .u64 p.u, .string p.s, .string p.tb, .string p.nm]).alloc (.cells #[.slice none 0 0] 26)).alloc (.cells #[.slice none 0 0] 26)).alloc (.cells #[.pointer (some ⟨w.heap.size, 1, none⟩), .pointer (some ⟨w.heap.size, 2, none⟩)] 141))
 have HB4 := Lib.hid (show Blk ((((w.alloc (.cells #[.int .i64 p.tag, .int .i64 (-1), .int .i64 (-1), .int .i64 p.k, .int .i64 p.n, .int .u64 p.u, .string p.s, .string p.tb, .string p.nm] 57)).alloc (.cells #[.slice none 0 0] 26)).alloc (.cells #[.slice none 0 0] 26)).alloc (.cells #[.pointer (some ⟨w.heap.size, 1, none⟩), .pointer (some ⟨w.heap.size, 2, none⟩)] 141)) (w.heap.size + 1) 26 #[.slice none 0 0] from by
  have := ((Blk.new (w.alloc (.cells #[.int .i64 p.tag, .int .i64 (-1), .int .i64 (-1), .int .i64 p.k, .int .i64 p.n, .int .u64 p.u, .string p.s, .string p.tb, .string p.nm] 57)) 26 #[.slice none 0 0]).alloc (.cells #[.slice none 0 0] 26)).alloc (.cells #[.pointer (some ⟨w.heap.size, 1, none⟩), .pointer (some ⟨w.heap.size, 2, none⟩)] 141)
  rwa [World.size_alloc] at this)
 have HB6 := Lib.hid (show Blk ((((w.alloc (.cells #[.int .i64 p.tag, .int .i64 (-1), .int .i64 (-1), .int .i64 p.k, .int .i64 p.n, .int .u64 p.u, .string p.s, .string p.tb, .string p.nm] 57)).alloc (.cells #[.slice none 0 0] 26)).alloc (.cells #[.slice none 0 0] 26)).alloc (.cells #[.pointer (some ⟨w.heap.size, 1, none⟩), .pointer (some ⟨w.heap.size, 2, none⟩)] 141)) (w.heap.size + 1 + 1) 26 #[.slice none 0 0] from by
  have := (Blk.new ((w.alloc (.cells #[.int .i64 p.tag, .int .i64 (-1), .int .i64 (-1), .int .i64 p.k, .int .i64 p.n, .int .u64 p.u, .string p.s, .string p.tb, .string p.nm] 57)).alloc (.cells #[.slice none 0 0] 26)) 26 #[.slice none 0 0]).alloc (.cells #[.pointer (some ⟨w.heap.size, 1, none⟩), .pointer (some ⟨w.heap.size, 2, none⟩)] 141)
  rwa [World.size_alloc, World.size_alloc] at this)
 have HB7 := Lib.hid (show Blk ((((w.alloc (.cells #[.int .i64 p.tag, .int .i64 (-1), .int .i64 (-1), .int .i64 p.k, .int .i64 p.n, .int .u64 p.u, .string p.s, .string p.tb, .string p.nm] 57)).alloc (.cells #[.slice none 0 0] 26)).alloc (.cells #[.slice none 0 0] 26)).alloc (.cells #[.pointer (some ⟨w.heap.size, 1, none⟩), .pointer (some ⟨w.heap.size, 2, none⟩)] 141)) (w.heap.size + 1 + 1 + 1) 141 #[.pointer (some ⟨w.heap.size, 1, none⟩), .pointer (some ⟨w.heap.size, 2, none⟩)] from by
  have := Blk.new (((w.alloc (.cells #[.int .i64 p.tag, .int .i64 (-1), .int .i64 (-1), .int .i64 p.k, .int .i64 p.n, .int .u64 p.u, .string p.s, .string p.tb, .string p.nm] 57)).alloc (.cells #[.slice none 0 0] 26)).alloc (.cells #[.slice none 0 0] 26)) 141 #[.pointer (some ⟨w.heap.size, 1, none⟩), .pointer (some ⟨w.heap.size, 2, none⟩)]
  rwa [World.size_alloc, World.size_alloc, World.size_alloc] at this)
 have HQ1 := Lib.hid (bl_al (bl_al (bl_al (bl_al (Below.refl w.heap.size w) (.cells #[.int .i64 p.tag, .int .i64 (-1), .int .i64 (-1), .int .i64 p.k, .int .i64 p.n, .int .u64 p.u, .string p.s, .string p.tb, .string p.nm] 57)) (.cells #[.slice none 0 0] 26)) (.cells #[.slice none 0 0] 26)) (.cells #[.pointer (some ⟨w.heap.size, 1, none⟩), .pointer (some ⟨w.heap.size, 2, none⟩)] 141))
 generalize (((w.alloc (.cells #[.int .i64 p.tag, .int .i64 (-1), .int .i64 (-1), .int .i64 p.k, .int .i64 p.n, .int .u64 p.u, .string p.s, .string p.tb, .string p.nm] 57)).alloc (.cells #[.slice none 0 0] 26)).alloc (.cells #[.slice none 0 0] 26)).alloc (.cells #[.pointer (some ⟨w.heap.size, 1, none⟩), .pointer (some ⟨w.heap.size, 2, none⟩)] 141) = w1 at *
 generalize hg7 : w.heap.size + 1 + 1 + 1 = g7 at *
 generalize hg6 : w.heap.size + 1 + 1 = g6 at *
 generalize hg4 : w.heap.size + 1 = g4 at *
 have l1 : w.heap.size < g4 := by omega
 have l2 : g4 < g6 := by omega
 have l3 : g6 < g7 := by omega
 have l4 : g7 < w1.heap.size := HB7.out.lt
 clear hg7 hg6 hg4
 go_wp2_with fail
 go_loopg [18] m (fun g a wr => ∃ (i : Nat) (Ao : Option Addr) (no co : Nat), i + g = m ∧ a = .int .i64 (i : Int) ∧ Hid ((ls.take i).all okF = true) ∧ Hid (Blk wr g6 26 #[.slice Ao no co]) ∧ Hid (LN.own 57 wr w1.heap.size (fun _ => False) Ao no co (catN (ls.take i))) ∧
  Hid (Blk wr w.heap.size 57 (Nd.cells ⟨p, endL (ls.take i), endR (ls.take i)⟩)) ∧ Hid (Blk wr g4 26 #[.slice none 0 0]) ∧ Hid (Blk wr g7 141 #[.pointer (some ⟨w.heap.size, 1, none⟩), .pointer (some ⟨w.heap.size, 2, none⟩)]) ∧ Hid (Below w.heap.size w wr) ∧ Hid (w1.heap.size ≤ wr.heap.size))
 case atStart => exact ⟨0, none, 0, 0, by omega, rfl, Lib.hid rfl, HB6, Lib.hid (Lay.own_nil _ _), HB2, HB4, HB7, HQ1, Lib.hid (Nat.le_refl _)⟩
 case round =>
  obtain ⟨i, Ao, no, co, hig, rfl, HAL, HC6, HOO, HC2, HC4, HC7, HQB, HZ⟩ := hrel
  by_cases hlt : i < m
  · have hi1 : (i : Int) < (m : Int) := by omega
    have hi2 : (i : Int) < 2 := by omega
    have hi0 : 0 ≤ (i : Int) := by omega
    obtain ⟨pa, x, Bx, mx, cx, hAe, hx, xc, hrx, hmc, hc9⟩ := LTr_at (Lay.rd_below HRD.out HQB.out) hlt
    obtain rfl : A = some pa := hAe
    have HX := Lib.hid hx
    have HRX := Lib.hid hrx
    have hmx : mx ≤ 100000 := by rw [← Lay.rd_len hrx]; exact HLN.out x (List.mem_of_getElem? hx)
    have HMX := Lib.hid (Lay.rd_len hrx)
    have HB9 := Lib.hid (Blk.new wr 26 #[.slice Bx mx cx])
    have HQA := Lib.hid (bl_al (Below.refl wr.heap.size wr) (.cells #[.slice Bx mx cx] 26))
    clear hx hrx
    go_wp2_with fail
    generalize wr.alloc (.cells #[.slice Bx mx cx] 26) = w2 at *
    refine (checktree_any F x Bx mx cx w2 (Lay.rd_below HRX.out HQA.out) hmx ((HT.out.below HQB.out).below HQA.out) (HSM.out.2 x (List.mem_of_getElem? HX.out))).mono ?_
    rintro e w3 ⟨rfl, q3⟩
    have HQ3 := Lib.hid (bl_ca HQA.out q3)
    have HD9 := Lib.hid (HB9.out.ca q3)
    clear q3 xc
    obtain ⟨ce, hce⟩ : ∃ ce, ce = chkE x := ⟨_, rfl⟩
    have HCE := Lib.hid (show ce = if okF x then 0 else 180 from hce)
    rw [← hce]
    clear hce HB9 HQA
    cases hox : okF x
    · have HNO := Lib.hid (all_no HX.out hox)
      have HOK := Lib.hid (show ok = false from by rw [HK.out, HNO.out]; rfl)
      have hc180 : ce = 180 := by rw [HCE.out, hox]; rfl
      subst hc180
      have HE2 := Lib.hid (show E = 180 from by rw [HE.out, HOK.out]; rfl)
      have HR2 := Lib.hid (show R = [] from by rw [HR.out, HOK.out]; rfl)
      have y0 := (HC4.out.ca HQ3.out).cell 0
      have y1 := (HC4.out.ca HQ3.out).frozen 0
      simp at y0
      clear hox
      go_wp2
      exact bodyPost_ret (res2 Tryz.results61 rfl rfl ((HC4.out.ca HQ3.out).set_ 0 (.slice none 0 0)) Tryz.underlying26 rfl treeI) rfl ⟨none, 0, 0, by rw [HE2.out]; rfl, by rw [HR2.out]; exact Lay.rd_nil _, Nat.le_refl _, by omega, bl_set (bl_ca HQB.out HQ3.out) (p := ⟨g4, 0, none⟩) (by show _ ≤ g4; omega) _⟩
    have hc0 : ce = 0 := by rw [HCE.out, hox]; rfl
    subst hc0
    have HOX := Lib.hid hox
    have HAL2 := Lib.hid (all_step HAL.out HX.out hox)
    have hz3 := HQ3.out.size
    have HD6 := Lib.hid (HC6.out.ca HQ3.out)
    have HD2 := Lib.hid (HC2.out.ca HQ3.out)
    have HD4 := Lib.hid (HC4.out.ca HQ3.out)
    have HD7 := Lib.hid (HC7.out.ca HQ3.out)
    have HOO3 := Lib.hid (Lay.own_below HOO.out HQ3.out)
    have HRX3 := Lib.hid (Lay.rd_below HRX.out HQ3.out)
    have HQB3 := Lib.hid (bl_ca HQB.out HQ3.out)
    have hzz : w1.heap.size ≤ w3.heap.size := by have := HZ.out; omega
    have hno : no ≤ 600 := by have := all_len HAL.out; have := Lay.own_len HOO.out; omega
    have hmx3 : mx ≤ 300 := by
     obtain ⟨t, ht⟩ := okF_ex hox
     have := tree_len ht
     have := (treeF_some.1 ht).2.2.1
     have := HMX.out
     omega
    have HRG := Lib.hid (show ∀ y ∈ x, y.l ≤ 100000 ∧ y.r ≤ 100000 from fun y hy => by
     obtain ⟨t, ht⟩ := okF_ex hox
     have := tree_rng ht y hy
     omega)
    clear hox HAL HC6 HC2 HC4 HC7 HOO HRX HQB HQ3 HCE HZ
    obtain ⟨ys, hys⟩ : ∃ ys, ys = catN (ls.take i) := ⟨_, rfl⟩
    rw [← hys] at HOO3
    have HYS := Lib.hid hys
    have HYL := Lib.hid (Lay.own_len HOO3.out)
    obtain ⟨k2, hk2⟩ : ∃ k2, k2 = no + mx := ⟨_, rfl⟩
    have hk3 : (k2 : Int) ≤ 900 := by omega
    have hk4 : 0 ≤ (k2 : Int) := by omega
    have HK2 := Lib.hid hk2
    clear hys hk2
    go_upto_region 9 with fail
    refine wp_region_ps (S := SeqN [7, 8, 10] (MdB 57 26 w1.heap.size g6 mx k2 ys (x.map (mv (no : Int))) w3)) (by kernel_rfl) ?spswg1 ?ppswg1
    case spswg1 =>
     exact SeqN.start (by rfl) (Below.refl w3.heap.size w3).drew
    refine Pz 0 (some 27) (.pointer (some ⟨g6, 0, none⟩)) rfl rfl (by exact StepS.pure (SeqN.pass (by decide)) rfl fun _ => rfl) ?_
    try simp only [Act.put, sA, sZ, sS]
    refine Pz 1 (some 28) (.slice Ao no co) rfl rfl ?ywg1_3 ?rwg1_3
    case ywg1_3 =>
     refine StepS.read [] (by kernel_rfl) (SeqN.pass (by decide)) (by rfl) (fun L9 m9 w9 hSh hAt hDn hS => ?_)
     have hT : Below w3.heap.size w3 w9 := SeqN.z01 hSh (post_no (post := [8]) hSh hDn (by kernel_rfl) 8 (by simp)) (by kernel_rfl) (fun _ _ h => h) (fun _ _ h => h.1) hS
     have x0 : w9.cell? ⟨g6, 0, none⟩ = some (.slice Ao no co) := (HD6.out.ca hT).cell 0
     clear hT hS
     go_simp
     try rfl
    try simp only [Act.put, sA, sZ, sS]
    refine Pz 2 (some 29) (.pointer (some ⟨wr.heap.size, 0, none⟩)) rfl rfl (by exact StepS.pure (SeqN.pass (by decide)) rfl fun _ => rfl) ?_
    try simp only [Act.put, sA, sZ, sS]
    refine Pz 3 (some 30) (.slice Bx mx cx) rfl rfl ?ywg1_5 ?rwg1_5
    case ywg1_5 =>
     refine StepS.read [] (by kernel_rfl) (SeqN.pass (by decide)) (by rfl) (fun L9 m9 w9 hSh hAt hDn hS => ?_)
     have hT : Below w3.heap.size w3 w9 := SeqN.zero (post_no (post := [7, 8, 10]) hSh hDn (by kernel_rfl)) hS
     have x0 : w9.cell? ⟨wr.heap.size, 0, none⟩ = some (.slice Bx mx cx) := (HD9.out.ca hT).cell 0
     clear hT hS
     go_simp
     try rfl
    try simp only [Act.put, sA, sZ, sS]
    refine Pz 4 (some 31) (.pointer (some ⟨g6, 0, none⟩)) rfl rfl (by exact StepS.pure (SeqN.pass (by decide)) rfl fun _ => rfl) ?_
    try simp only [Act.put, sA, sZ, sS]
    refine Pz 5 (some 32) (.slice Ao no co) rfl rfl ?ywg1_7 ?rwg1_7
    case ywg1_7 =>
     refine StepS.read [] (by kernel_rfl) (SeqN.pass (by decide)) (by rfl) (fun L9 m9 w9 hSh hAt hDn hS => ?_)
     have hT : Below w3.heap.size w3 w9 := SeqN.zero (post_no (post := [7, 8, 10]) hSh hDn (by kernel_rfl)) hS
     have x0 : w9.cell? ⟨g6, 0, none⟩ = some (.slice Ao no co) := (HD6.out.ca hT).cell 0
     clear hT hS
     go_simp
     try rfl
    try simp only [Act.put, sA, sZ, sS]
    refine Pz 6 (some 33) (.int .i64 ((no : Int))) rfl rfl (by exact StepS.pure (SeqN.pass (by decide)) rfl fun _ => by first | rfl | (go_simp; done) | (go_simp; rfl)) ?_
    try simp only [Act.put, sA, sZ, sS]
    refine Ps.one (k := 7) (d := some 34) rfl rfl (by kernel_rfl) (TurnS.call (V := fun v => ∃ A7 c7, v = .slice A7 mx c7) ?fwg1_9 ?awg1_9 [] (by kernel_rfl) (by rfl) (fun w9 => ?hwg1_9) (fun L9 m9 w9 hSh hAt hDn hS => ?cwg1_9)) (fun v7 hVv7 => ?rwg1_9)
    case hwg1_9 => go_simp; refine ⟨?_, ?_⟩ <;> rfl
    case cwg1_9 =>
     have hT : Below w3.heap.size w3 w9 := SeqN.at_ (m0 := m9) (m1 := m9) [] [8, 10] hSh (fun d hd => by cases hd) hDn (by kernel_rfl) hS
     refine (moved_any F x Bx mx cx (no : Int) w9 (Lay.rd_below HRX3.out hT) hmx (by omega) (by omega) HRG.out).mono ?_
     rintro e w8 ⟨A7, c7, rfl, ho8, q8⟩
     exact ⟨_, rfl, ⟨A7, c7, rfl⟩, SeqN.set_ (m0 := m9) (m1 := m9) [] [8, 10] hSh (fun d hd => by cases hd) hDn (by kernel_rfl) (by decide) (by decide) ⟨bl_ca hT q8, A7, c7, upd_same _ _ _, Lay.own_less ho8 hT.size⟩⟩
    try simp only [Act.put, sA, sZ, sS]
    obtain ⟨A7, c7, rfl⟩ := hVv7
    refine Ps.one (k := 8) (d := some 35) rfl rfl (by kernel_rfl) (TurnS.value (V := fun v => ∃ A8 c8, v = .slice A8 k2 c8) [7] (by kernel_rfl) (by rfl) (fun L9 m9 w9 hSh hAt hDn hS => ?cwg1_10)) (fun v8 hVv8 => ?rwg1_10)
    case cwg1_10 =>
     obtain ⟨hT, A9, c9, hv9, ho9⟩ := SeqN.at_ [7] [10] hSh hAt hDn (by kernel_rfl) hS
     obtain ⟨rfl, rfl⟩ : A7 = A9 ∧ c7 = c9 := by have h9 : Value.slice A7 mx c7 = .slice A9 mx c9 := (hAt 7 (by simp)).2.symm.trans hv9; simpa using h9
     have hoO := Lay.own_below HOO3.out hT
     have hk2 := HK2.out
     have hr9 := Lay.own_rd2 (F := fun b => w3.heap.size ≤ b) ho9 (fun b e => (Lay.own_base ho9 b e).1) (fun b h _ => h.elim)
     obtain ⟨A8, c8, w8, hrun, ho8, hg8⟩ := run_appLs (P := Tryz.prog) (w := w9) 24 24 (.agg #[.int .i64 0, .int .i64 0, .int .i64 0, .int .i64 0, .int .i64 0, .int .u64 0, .string ⟨#[]⟩, .string ⟨#[]⟩, .string ⟨#[]⟩]) 9 96 Tryz.underlying24 infoN rfl rfl (by decide) w1.heap.size (fun b => w3.heap.size ≤ b ∧ b < w9.heap.size) (fun b => w3.heap.size ≤ b) Ao no co ys A7 mx c7 (x.map (mv (no : Int))) (own_swap LN_free hoO) hr9 (fun b hb hl => ⟨⟨hb, hl⟩, fun e => by have := (Lay.own_base HOO3.out b e).2; omega⟩) (fun b hb => hb.2) (by omega) (by unfold maxLen; omega) (by have := hT.size; omega)
     subst hk2
     exact ⟨_, w8, exec_append _ _ _ rfl rfl rfl hrun, ⟨A8, c8, rfl⟩, SeqN.set_ [7] [10] hSh hAt hDn (by kernel_rfl) (by decide) (by decide) ⟨A8, c8, upd_same _ _ _, own_swap LN_free ho8, (hT.mono hzz).grown hg8 (by have := hT.size; omega) (fun k e => (Lay.own_base HOO3.out k e).1)⟩⟩
    try simp only [Act.put, sA, sZ, sS]
    obtain ⟨A8, c8, rfl⟩ := hVv8
    refine Pz 9 (some 36) (.pointer (some ⟨g6, 0, none⟩)) rfl rfl (by exact StepS.pure (SeqN.pass (by decide)) rfl fun _ => rfl) ?_
    try simp only [Act.put, sA, sZ, sS]
    refine Pz 10 none undef rfl rfl ?ywg1_12 ?rwg1_12
    case ywg1_12 =>
     refine StepS.store [7, 8] (by kernel_rfl) (by rfl) (fun L9 m9 w9 hSh hAt hDn hS => ?_)
     obtain ⟨A9, c9, hv9, ho9, hb9⟩ := SeqN.at_ [7, 8] [] hSh hAt hDn (by kernel_rfl) hS
     obtain ⟨rfl, rfl⟩ : A8 = A9 ∧ c8 = c9 := by have h9 : Value.slice A8 k2 c8 = .slice A9 k2 c9 := (hAt 8 (by simp)).2.symm.trans hv9; simpa using h9
     have hN9 : Blk w9 g6 26 #[.slice Ao no co] := (hb9.block g6 (by omega)).trans HD6.out
     have x1 : w9.cell? ⟨g6, 0, none⟩ = some (.slice Ao no co) := hN9.cell 0
     have fx : w9.frozen? ⟨g6, 0, none⟩ = false := hN9.frozen 0
     have hC9 : Chg (fun b => w1.heap.size ≤ b ∨ b = g6) w3 w9 := ⟨hb9.os, hb9.tape, hb9.output, hb9.size, fun b hb hx => hb9.block b (by omega)⟩
     have hC8 : Chg (fun b => w1.heap.size ≤ b ∨ b = g6) w3 (w9.setCell ⟨g6, 0, none⟩ (.slice A8 k2 c8)) := hC9.grown (only_setCell (p := ⟨g6, 0, none⟩) (World.grownBy.refl w9 _) (.inl rfl) _) (fun k e => by injection e with e; exact .inl (.inr e.symm))
     have ho8 := Lay.own_same (w' := w9.setCell ⟨g6, 0, none⟩ (.slice A8 k2 c8)) ho9 (fun k hk => Below.heap_setCell _ _ _ _ (by have := (Lay.own_base ho9 k hk).1; show k ≠ g6; omega)) (fun _ h => h.elim)
     refine ⟨w9.setCell ⟨g6, 0, none⟩ (.slice A8 k2 c8), ?_, SeqN.set_ [7, 8] [] hSh hAt hDn (by kernel_rfl) (by decide) (by decide) ⟨A8, c8, hN9.set_ 0 _, ho8, hC8⟩⟩
     clear hS ho9 ho8 hb9 hN9 hC9 hC8 hv9
     go_simp
    try simp only [Act.put]
    refine Ps.done (by kernel_rfl) (fun wg1 hS => ?_) _
    obtain ⟨A8, c8, hB6, ho8, hch⟩ := SeqN.fin (by rfl) hS
    clear hS
    have HE6 := Lib.hid hB6
    have HOO4 := Lib.hid ho8
    have HCH := Lib.hid hch
    clear hB6 ho8 hch
    obtain ⟨w4, rfl⟩ : ∃ x, x = wg1 := ⟨_, rfl⟩
    have HF2 := Lib.hid (Blk.chg HD2.out HCH.out (by rintro (h | h) <;> omega))
    have HF4 := Lib.hid (Blk.chg HD4.out HCH.out (by rintro (h | h) <;> omega))
    have HF7 := Lib.hid (Blk.chg HD7.out HCH.out (by rintro (h | h) <;> omega))
    have HQ4 := Lib.hid (chg_bel HQB3.out HCH.out (by omega) (by omega))
    have hz4 : w1.heap.size ≤ w4.heap.size := by have := HCH.out.size; omega
    have x7 : w4.cell? ⟨g7, i, none⟩ = some (.pointer (some ⟨w.heap.size, i + 1, none⟩)) := by
     have := HF7.out.cell i
     have h2 : i = 0 ∨ i = 1 := by omega
     rcases h2 with rfl | rfl <;> exact this
    obtain ⟨old, xr⟩ : ∃ old, w4.cell? ⟨w.heap.size, i + 1, none⟩ = some (.int .i64 old) := by
     have := HF2.out.cell (i + 1)
     have h2 : i = 0 ∨ i = 1 := by omega
     rcases h2 with rfl | rfl <;> exact ⟨_, this⟩
    have xf := HF2.out.frozen (i + 1)
    have x6 : w4.cell? ⟨g6, 0, none⟩ = some (.slice A8 k2 c8) := HE6.out.cell 0
    clear HD2 HD4 HD6 HD7 HD9 HOO3 HRX3 HQB3 HCH
    go_wp2_with fail
    go_region
    have HST := Lib.hid (end_step (show i < 2 by omega) HX.out)
    have h9 : Blk (w4.setCell ⟨w.heap.size, i + 1, none⟩ (.int .i64 ((k2 : Int) - 1))) w.heap.size 57 (Nd.cells ⟨p, endL (ls.take (i + 1)), endR (ls.take (i + 1))⟩) := by
     have hs := HF2.out.set_ (i + 1) (.int .i64 ((k2 : Int) - 1))
     have hk2 := HK2.out
     have hml := HMX.out
     have hyl := HYL.out
     rw [HYS.out] at hyl
     have h2 : i = 0 ∨ i = 1 := by omega
     rcases h2 with rfl | rfl
     · obtain ⟨e1, e2⟩ := HST.out.1 rfl
       rw [show endL (ls.take (0 + 1)) = (k2 : Int) - 1 from by rw [e1]; omega, show endR (ls.take (0 + 1)) = -1 from e2]
       have e3 : endR ([] : List (List Nd)) = -1 := rfl
       simpa [e3] using hs
     · obtain ⟨e1, e2⟩ := HST.out.2 rfl
       rw [show endL (ls.take (1 + 1)) = endL (ls.take 1) from e1, show endR (ls.take (1 + 1)) = (k2 : Int) - 1 from by rw [e2]; omega]
       simpa using hs
    have hgr : w4.grownBy (w4.setCell ⟨w.heap.size, i + 1, none⟩ (.int .i64 ((k2 : Int) - 1))) (some w.heap.size) := only_setCell (p := ⟨w.heap.size, i + 1, none⟩) (World.grownBy.refl w4 _) (.inl rfl) _
    have ho9 := Lay.own_same (w' := w4.setCell ⟨w.heap.size, i + 1, none⟩ (.int .i64 ((k2 : Int) - 1))) HOO4.out (fun k hk => Below.heap_setCell _ _ _ _ (by have := (Lay.own_base HOO4.out k hk).1; show k ≠ w.heap.size; omega)) (fun _ h => h.elim)
    have hcs : catN (ls.take (i + 1)) = ys ++ x.map (mv (no : Int)) := by rw [cat_step (show i < 2 by omega) HX.out, ← HYS.out, HYL.out]
    rw [← hcs] at ho9
    have qHF4 := HF4.out.apart hgr (by omega)
    have qHE6 := HE6.out.apart hgr (by omega)
    have qHF7 := HF7.out.apart hgr (by omega)
    have HG2 := Lib.hid (show Blk (w4.setCell ⟨w.heap.size, i + 1, none⟩ (.int .i64 ((k2 : Int) - 1))).drew w.heap.size 57 (Nd.cells ⟨p, endL (ls.take (i + 1)), endR (ls.take (i + 1))⟩) from h9)
    have HG4 := Lib.hid (show Blk (w4.setCell ⟨w.heap.size, i + 1, none⟩ (.int .i64 ((k2 : Int) - 1))).drew g4 26 #[.slice none 0 0] from qHF4)
    have HG6 := Lib.hid (show Blk (w4.setCell ⟨w.heap.size, i + 1, none⟩ (.int .i64 ((k2 : Int) - 1))).drew g6 26 #[.slice A8 k2 c8] from qHE6)
    have HG7 := Lib.hid (show Blk (w4.setCell ⟨w.heap.size, i + 1, none⟩ (.int .i64 ((k2 : Int) - 1))).drew g7 141 #[.pointer (some ⟨w.heap.size, 1, none⟩), .pointer (some ⟨w.heap.size, 2, none⟩)] from qHF7)
    have HGO := Lib.hid (Lay.own_below ho9 (Below.refl (w4.setCell ⟨w.heap.size, i + 1, none⟩ (.int .i64 ((k2 : Int) - 1))).heap.size _).drew)
    have HGQ := Lib.hid (bl_d1 (bl_set HQ4.out (p := ⟨w.heap.size, i + 1, none⟩) (Nat.le_refl _) (.int .i64 ((k2 : Int) - 1))))
    have HGZ := Lib.hid (show w1.heap.size ≤ (w4.setCell ⟨w.heap.size, i + 1, none⟩ (.int .i64 ((k2 : Int) - 1))).drew.heap.size from Nat.le_trans hz4 hgr.size)
    clear h9 hgr ho9 hcs x7 xr xf x6 qHF4 qHE6 qHF7
    generalize (w4.setCell ⟨w.heap.size, i + 1, none⟩ (.int .i64 ((k2 : Int) - 1))).drew = w5 at *
    go_wp2
    go_roundg (gk - 1)
    · exact ⟨i + 1, A8, k2, c8, by omega, by go_num, HAL2, HG6, HGO, HG2, HG4, HG7, HGQ, HGZ⟩
    · omega
  · obtain rfl : i = m := by omega
    have hi1 : (i : Int) ≤ (i : Int) := by omega
    have htk : ls.take i = ls := List.take_of_length_le (by rw [HLEN.out]; exact Nat.le_refl _)
    have hno : no ≤ 600 := by have := all_len HAL.out; have := Lay.own_len HOO.out; omega
    rw [htk] at HAL HOO HC2
    clear htk
    have HMC := Lib.hid (made_cat p ls)
    obtain ⟨eL, hL⟩ : ∃ e, e = endL ls := ⟨_, rfl⟩
    obtain ⟨eR, hR⟩ : ∃ e, e = endR ls := ⟨_, rfl⟩
    rw [← hL, ← hR] at HMC HC2
    clear hL hR
    have r0 := HC2.out.cell 0
    have r1 := HC2.out.cell 1
    have r2 := HC2.out.cell 2
    have r3 := HC2.out.cell 3
    have r4 := HC2.out.cell 4
    have r5 := HC2.out.cell 5
    have r6 := HC2.out.cell 6
    have r7 := HC2.out.cell 7
    have r8 := HC2.out.cell 8
    have x6 : wr.cell? ⟨g6, 0, none⟩ = some (.slice Ao no co) := HC6.out.cell 0
    simp at r0 r1 r2 r3 r4 r5 r6 r7 r8
    have HBY := Lib.hid (Blk.new wr 57 (Nd.cells ⟨p, eL, eR⟩))
    have HQY := Lib.hid (bl_al (Below.refl wr.heap.size wr) (.cells (Nd.cells ⟨p, eL, eR⟩) 57))
    have HOY := Lib.hid (Lay.own_below HOO.out HQY.out)
    have hzy := HQY.out.size
    have hz := HZ.out
    have HDY := Lib.hid (HC6.out.ca HQY.out)
    go_wp2_with (at_builtin; refine wpList_appG (L := LN) (e := 57) rfl (.tmp 47) (.tmp 49) 24 rfl (.agg #[.int .i64 0, .int .i64 0, .int .i64 0, .int .i64 0, .int .i64 0, .int .u64 0, .string ⟨#[]⟩, .string ⟨#[]⟩, .string ⟨#[]⟩]) 9 96 Tryz.underlying24 infoN rfl rfl (by decide) w1.heap.size (fun _ => False) Ao no co (catN ls) wr.heap.size 1 57 (Nd.cells ⟨p, eL, eR⟩) ⟨p, eL, eR⟩ rfl rfl rfl HOY.out HBY.out rfl (fun b h => h.elim) (by omega) (by unfold maxLen; omega) (Nat.le_trans hz hzy) ?_; intro A9 c9 w9 o9 g9 k9; have HO9 := Lib.hid o9; have HG9 := Lib.hid g9; have HN6 := Lib.hid (show Blk w9 g6 26 #[.slice Ao no co] from (g9.block g6 HDY.out.lt (fun e => by have := (Lay.own_base HOY.out g6 e.symm).1; omega)).trans HDY.out); have n6 : w9.cell? ⟨g6, 0, none⟩ = some (.slice Ao no co) := HN6.out.cell 0; have n7 := HN6.out.frozen 0; clear o9 g9 k9)
    have HZP := Lib.hid (World.grownBy.refl w9 (some g6))
    have hgr9 : w9.grownBy (w9.setCell ⟨g6, 0, none⟩ (.slice A9 (no + 1) c9)) (some g6) := only_setCell (p := ⟨g6, 0, none⟩) (World.grownBy.refl w9 _) (.inl rfl) _
    have hsz9 : wr.heap.size ≤ w9.heap.size := Nat.le_trans hzy HG9.out.size
    have q6 : Blk (w9.setCell ⟨g6, 0, none⟩ (.slice A9 (no + 1) c9)) g6 26 #[.slice A9 (no + 1) c9] := HN6.out.set_ 0 _
    have q4 : Blk (w9.setCell ⟨g6, 0, none⟩ (.slice A9 (no + 1) c9)) g4 26 #[.slice none 0 0] := Blk.apart (show Blk w9 g4 26 #[.slice none 0 0] from (HG9.out.block g4 (HC4.out.ca HQY.out).lt (fun e => by have := (Lay.own_base HOY.out g4 e.symm).1; omega)).trans (HC4.out.ca HQY.out)) hgr9 (by omega)
    have q9 := Lay.own_same (w' := w9.setCell ⟨g6, 0, none⟩ (.slice A9 (no + 1) c9)) HO9.out (fun k hk => Below.heap_setCell _ _ _ _ (by have := (Lay.own_base HO9.out k hk).1; show k ≠ g6; omega)) (fun _ h => h.elim)
    have qb : Below w.heap.size w (w9.setCell ⟨g6, 0, none⟩ (.slice A9 (no + 1) c9)) := bl_set ((bl_ca HQB.out HQY.out).grown HG9.out (Nat.le_trans HQB.out.size hzy) (fun k e => by have := (Lay.own_base HOY.out k e).1; omega)) (p := ⟨g6, 0, none⟩) (by show _ ≤ g6; omega) _
    rw [← HMC.out] at q9
    have hl9 := Lay.own_len q9
    generalize w9.setCell ⟨g6, 0, none⟩ (.slice A9 (no + 1) c9) = wa at *
    have HA6 := Lib.hid q6
    have HA4 := Lib.hid q4
    have HAO := Lib.hid q9
    have HAB := Lib.hid qb
    have hcap := Lay.own_caps q9
    have HCK := Lib.hid (checktree_any (fun b => w1.heap.size ≤ b) (madeN p ls) A9 (no + 1) c9 wa (Lay.own_rd2 q9 (fun b e => (Lay.own_base q9 b e).1) (fun b h _ => h.elim)) (by omega) (HT.out.below qb) (fun y hy => by
     rw [HMC.out] at hy
     rcases List.mem_append.1 hy with hy | hy
     · obtain ⟨l, hl, z, hz, e⟩ := cat_mem hy
       rw [e]; exact HSM.out.2 l hl z hz
     · rw [List.mem_singleton] at hy
       subst hy
       exact HSM.out.1))
    have HOKE := Lib.hid (show ok = okF (madeN p ls) from by rw [HK.out, HAL.out]; rfl)
    obtain ⟨ce, hce⟩ : ∃ ce, ce = chkE (madeN p ls) := ⟨_, rfl⟩
    rw [← hce] at HCK
    have HCE := Lib.hid (show ce = if ok then 0 else 180 from by rw [hce, HOKE.out]; rfl)
    have HHL := Lib.hid hl9
    clear hce q6 q4 q9 qb hgr9 hl9 n6 n7 r0 r1 r2 r3 r4 r5 r6 r7 r8 x6
    refine HCK.out.mono ?_
    rintro e w10 ⟨rfl, q10⟩
    have hz10 := q10.size
    have HD6 := Lib.hid (HA6.out.ca q10)
    have HD4 := Lib.hid (HA4.out.ca q10)
    have HDO := Lib.hid (Lay.own_below HAO.out q10)
    have HDB := Lib.hid (bl_ca HAB.out q10)
    have x6 : w10.cell? ⟨g6, 0, none⟩ = some (.slice A9 (no + 1) c9) := HD6.out.cell 0
    have x4 : w10.cell? ⟨g4, 0, none⟩ = some (.slice none 0 0) := HD4.out.cell 0
    have f4 := HD4.out.frozen 0
    clear q10 HCK
    cases ok
    · have hc : ce = 180 := HCE.out
      subst hc
      have HE2 := Lib.hid (show E = 180 from by rw [HE.out]; rfl)
      have HR2 := Lib.hid (show R = [] from by rw [HR.out]; rfl)
      go_wp2
      exact bodyPost_ret (res2 Tryz.results61 rfl rfl (HD4.out.set_ 0 (.slice none 0 0)) Tryz.underlying26 rfl treeI) rfl ⟨none, 0, 0, by rw [HE2.out]; rfl, by rw [HR2.out]; exact Lay.rd_nil _, Nat.le_refl _, by omega, bl_set HDB.out (p := ⟨g4, 0, none⟩) (by show _ ≤ g4; omega) _⟩
    · have hc : ce = 0 := HCE.out
      subst hc
      have HE2 := Lib.hid (show E = 0 from by rw [HE.out]; rfl)
      have HR2 := Lib.hid (show R = madeN p ls from by rw [HR.out]; rfl)
      go_wp2
      exact bodyPost_ret (res2 Tryz.results61 rfl rfl (HD4.out.set_ 0 (.slice A9 (no + 1) c9)) Tryz.underlying26 rfl treeI) rfl ⟨A9, no + 1, c9, by rw [HE2.out]; rfl, by
       rw [HR2.out]
       have h8 := Lay.own_rd2 (F := fun b => w1.heap.size ≤ b) HDO.out (fun b e => (Lay.own_base HDO.out b e).1) (fun b h _ => h.elim)
       exact Lay.rd_weak (fun b hb _ => Nat.le_trans HQ1.out.size hb) (Lay.rd_keep (fun b hb hl => Below.heap_setCell _ _ _ _ (by have h7 : w1.heap.size ≤ b := hb; show b ≠ g4; omega)) h8), hcap.1, hcap.2, bl_set HDB.out (p := ⟨g4, 0, none⟩) (by show _ ≤ g4; omega) _⟩
end Go.Proofs.YtoaggmldekejoaaGreatDoor
/- Leaf, One, Two. Conditions: the trees read so; what the tables hold. -/
namespace Go.Proofs.YtoaggmldekejoaaGreatDoor
open Go.RowKit
theorem smz (t : Int) : SmP (zP t) := ⟨by show (0 : Nat) ≤ _; omega, by show (0 : Nat) ≤ _; omega, by show (0 : Nat) ≤ _; omega⟩
theorem rd_all {α : Type} {L : Lay α} {w : World} {F : Nat → Prop} {A : Option Addr} {n : Nat} {xs : List α} (h : L.rd w F A n xs) : L.rd w AllB A n xs := Lay.rd_weak (fun _ _ _ => trivial) h
theorem MadeO.fin {w0 w1 w2 : World} {E : Int} {R : List Nd} {A : Option Addr} {n c : Nat} (hr : LN.rd w1 (fun b => w0.heap.size ≤ b) A n R) (h1 : n ≤ c) (h2 : c ≤ 9223372036854775807) (b : Below w0.heap.size w0 w2) (k : ∀ b, w0.heap.size ≤ b → b < w1.heap.size → w2.heap[b]? = w1.heap[b]?) : MadeO w0 E R (.returned (.tuple #[.agg #[.slice A n c], .int .i64 E])) w2 :=
 ⟨A, n, c, rfl, Lay.rd_keep k hr, h1, h2, b⟩
set_option maxRecDepth 100000 in
set_option maxHeartbeats 4000000 in
theorem leaf_any (p : Py) (pl pr : Int) (w : World) (hT : Tab w) (hp : SmP p) :
 Calls Tryz.prog 23 #[.agg (Nd.cells ⟨p, pl, pr⟩)] w fun e w' => MadeO w (madeE p []) (madeR p []) e w' := by
 have HQ1 := Lib.hid (bl_al (bl_al (Below.refl w.heap.size w) (.cells (Nd.cells ⟨p, pl, pr⟩) 57)) (.cells #[.slice none 0 0] 26))
 have HB3 := Lib.hid (show Blk ((w.alloc (.cells (Nd.cells ⟨p, pl, pr⟩) 57)).alloc (.cells #[.slice none 0 0] 26)) (w.heap.size + 1) 26 #[.slice none 0 0] from by
  have := Blk.new (w.alloc (.cells (Nd.cells ⟨p, pl, pr⟩) 57)) 26 #[.slice none 0 0]
  rwa [World.size_alloc] at this)
 have HC := Lib.hid (made_any AllB p pl pr [] none 0 0 _ (Lay.rd_nil none) (by omega) (fun x h => by cases h) (hT.below HQ1.out) hp (fun x h => by cases h))
 generalize madeE p [] = E at *
 generalize madeR p [] = R at *
 clear hT hp
 go_enter Tryz.func23, Tryz.ntmps23
 go_wp2_with fail
 refine HC.out.mono ?_
 rintro e w2 ⟨A, n, c, rfl, hr, h1, h2, q2⟩
 have HR := Lib.hid hr
 have HB4 := Lib.hid (HB3.out.ca q2)
 have HQ2 := Lib.hid (bl_ca HQ1.out q2)
 have hl3 := HB3.out.lt
 have HL3 := Lib.hid hl3
 have x3 : w2.cell? ⟨w.heap.size + 1, 0, none⟩ = some (.slice none 0 0) := HB4.out.cell 0
 have f3 := HB4.out.frozen 0
 clear hr q2 HC HB3 hl3
 go_wp2
 exact bodyPost_ret (res2 Tryz.results23 rfl rfl (HB4.out.set_ 0 (.slice A n c)) Tryz.underlying26 rfl treeI) rfl (MadeO.fin (Lay.rd_weak (fun b hb _ => Nat.le_trans HQ1.out.size hb) (Lay.rd_keep (w' := w2.setCell ⟨w.heap.size + 1, 0, none⟩ (.slice A n c)) (fun b hb _ => Below.heap_setCell _ _ _ _ (by have := HL3.out; show b ≠ w.heap.size + 1; omega)) HR.out)) h1 h2 (bl_set HQ2.out (p := ⟨w.heap.size + 1, 0, none⟩) (by show _ ≤ w.heap.size + 1; omega) _) (fun b _ _ => rfl))
set_option maxRecDepth 100000 in
set_option maxHeartbeats 4000000 in
theorem two_any (F G : Nat → Prop) (t : Int) (xs ys : List Nd) (A1 : Option Addr) (n1 c1 : Nat) (A2 : Option Addr) (n2 c2 : Nat) (w : World) (h : LN.rd w F A1 n1 xs) (hn : n1 ≤ 100000) (hc : n1 ≤ c1) (hc2 : c1 ≤ 9223372036854775807) (k : LN.rd w G A2 n2 ys) (kn : n2 ≤ 100000) (kc : n2 ≤ c2) (kc2 : c2 ≤ 9223372036854775807) (hT : Tab w) (hS : ∀ x ∈ xs, SmP x.p) (kS : ∀ x ∈ ys, SmP x.p) :
 Calls Tryz.prog 24 #[.int .i64 t, .agg #[.slice A1 n1 c1], .agg #[.slice A2 n2 c2]] w fun e w' => MadeO w (madeE (zP t) [xs, ys]) (madeR (zP t) [xs, ys]) e w' := by
 have HQ1 := Lib.hid (bl_al (bl_al (bl_al (bl_al (Below.refl w.heap.size w) (.cells #[.slice A1 n1 c1] 26)) (.cells #[.slice A2 n2 c2] 26)) (.cells #[.slice none 0 0] 26)) (.cells #[.slice A1 n1 c1, .slice A2 n2 c2] 26))
 have HB3 := Lib.hid (show Blk ((((w.alloc (.cells #[.slice A1 n1 c1] 26)).alloc (.cells #[.slice A2 n2 c2] 26)).alloc (.cells #[.slice none 0 0] 26)).alloc (.cells #[.slice A1 n1 c1, .slice A2 n2 c2] 26)) (w.heap.size + 1 + 1) 26 #[.slice none 0 0] from by
  have := (Blk.new ((w.alloc (.cells #[.slice A1 n1 c1] 26)).alloc (.cells #[.slice A2 n2 c2] 26)) 26 #[.slice none 0 0]).alloc (.cells #[.slice A1 n1 c1, .slice A2 n2 c2] 26)
  rwa [World.size_alloc, World.size_alloc] at this)
 have HBS := (show Blk ((((w.alloc (.cells #[.slice A1 n1 c1] 26)).alloc (.cells #[.slice A2 n2 c2] 26)).alloc (.cells #[.slice none 0 0] 26)).alloc (.cells #[.slice A1 n1 c1, .slice A2 n2 c2] 26)) (w.heap.size + 1 + 1 + 1) 26 #[.slice A1 n1 c1, .slice A2 n2 c2] from by
  have := Blk.new (((w.alloc (.cells #[.slice A1 n1 c1] 26)).alloc (.cells #[.slice A2 n2 c2] 26)).alloc (.cells #[.slice none 0 0] 26)) 26 #[.slice A1 n1 c1, .slice A2 n2 c2]
  rwa [World.size_alloc, World.size_alloc, World.size_alloc] at this)
 have HC := Lib.hid (made_any AllB (zP t) 0 0 [xs, ys] (some ⟨w.heap.size + 1 + 1 + 1, 0, none⟩) 2 2 _ (Lay.rd_blk (L := LTr) (F := AllB) HBS rfl ⟨[.slice A1 n1 c1], [.slice A2 n2 c2], rfl, ⟨A1, n1, c1, rfl, hc, hc2, rd_all (Lay.rd_below h HQ1.out)⟩, ⟨[.slice A2 n2 c2], [], rfl, ⟨A2, n2, c2, rfl, kc, kc2, rd_all (Lay.rd_below k HQ1.out)⟩, rfl⟩⟩ trivial) (by omega) (fun x hx => by
  rcases List.mem_cons.1 hx with rfl | hx
  · rw [Lay.rd_len h]; exact hn
  · rw [List.mem_singleton] at hx; subst hx; rw [Lay.rd_len k]; exact kn) (hT.below HQ1.out) (smz t) (fun x hx => by
  rcases List.mem_cons.1 hx with rfl | hx
  · exact hS
  · rw [List.mem_singleton] at hx; subst hx; exact kS))
 generalize madeE (zP t) [xs, ys] = E at *
 generalize madeR (zP t) [xs, ys] = R at *
 clear hT h hS k kS HBS
 go_enter Tryz.func24, Tryz.ntmps24
 go_wp2_with fail
 refine HC.out.mono ?_
 rintro e w2 ⟨A, n, c, rfl, hr, h1, h2, q2⟩
 have HR := Lib.hid hr
 have HB4 := Lib.hid (HB3.out.ca q2)
 have HQ2 := Lib.hid (bl_ca HQ1.out q2)
 have hl3 := HB3.out.lt
 have HL3 := Lib.hid hl3
 have x3 : w2.cell? ⟨w.heap.size + 1 + 1, 0, none⟩ = some (.slice none 0 0) := HB4.out.cell 0
 have f3 := HB4.out.frozen 0
 clear hr q2 HC HB3 hl3
 go_wp2
 exact bodyPost_ret (res2 Tryz.results24 rfl rfl (HB4.out.set_ 0 (.slice A n c)) Tryz.underlying26 rfl treeI) rfl (MadeO.fin (Lay.rd_weak (fun b hb _ => Nat.le_trans HQ1.out.size hb) (Lay.rd_keep (w' := w2.setCell ⟨w.heap.size + 1 + 1, 0, none⟩ (.slice A n c)) (fun b hb _ => Below.heap_setCell _ _ _ _ (by have := HL3.out; show b ≠ w.heap.size + 1 + 1; omega)) HR.out)) h1 h2 (bl_set HQ2.out (p := ⟨w.heap.size + 1 + 1, 0, none⟩) (by show _ ≤ w.heap.size + 1 + 1; omega) _) (fun b _ _ => rfl))
end Go.Proofs.YtoaggmldekejoaaGreatDoor
