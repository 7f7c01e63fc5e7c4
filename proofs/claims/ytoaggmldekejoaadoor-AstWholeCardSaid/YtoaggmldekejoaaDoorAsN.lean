/- Part: the tree whose root is at a place. Conditions: the nodes read so; what the tables hold. -/
import Derived.Test.YtoaggmldekejoaaDoorAsL
namespace Go.Proofs.YtoaggmldekejoaaDoor
open Go.RowKit
theorem flat_rng : ∀ (t : Tr) (o : Nat), ∀ x ∈ t.flat o, x.l ≤ ((o + t.size : Nat) : Int) ∧ x.r ≤ ((o + t.size : Nat) : Int)
  | .leaf p, o, x, h => by
    unfold Tr.flat at h; rw [List.mem_singleton] at h; subst h
    constructor <;> (show (-1 : Int) ≤ _; omega)
  | .one p a, o, x, h => by
    have hs : (Tr.one p a).size = a.size + 1 := rfl
    unfold Tr.flat at h
    rcases List.mem_append.1 h with h | h
    · have := flat_rng a o x h; omega
    · rw [List.mem_singleton] at h
      subst h
      constructor
      · show ((o + a.size : Nat) : Int) - 1 ≤ _; omega
      · show (-1 : Int) ≤ _; omega
  | .two p a b, o, x, h => by
    have hs : (Tr.two p a b).size = a.size + b.size + 1 := rfl
    unfold Tr.flat at h
    rcases List.mem_append.1 h with h | h
    · have := flat_rng a o x h; omega
    · rcases List.mem_append.1 h with h | h
      · have := flat_rng b _ x h; omega
      · rw [List.mem_singleton] at h
        subst h
        constructor
        · show ((o + a.size : Nat) : Int) - 1 ≤ _; omega
        · show ((o + a.size + b.size : Nat) : Int) - 1 ≤ _; omega
theorem tree_rng {xs : List Nd} {t : Tr} (h : treeF cntB xs = some t) : ∀ x ∈ xs, x.l ≤ 300 ∧ x.r ≤ 300 := by
  obtain ⟨rfl, _, h2, _⟩ := treeF_some.1 h
  intro x hx
  have := flat_rng t 0 x hx
  omega
def partR (xs : List Nd) (i : Int) : List Nd := if partE xs i = 0 then partN xs i.toNat else []
theorem treeI : (Tryd.prog.info? 30).map (·.size) = some 1 := by kernel_rfl
set_option maxRecDepth 100000 in
set_option maxHeartbeats 8000000 in
theorem part_any (F : Nat → Prop) (xs : List Nd) (A : Option Addr) (n c : Nat) (i : Int) (w : World) (h : LN.rd w F A n xs) (hn : n ≤ 100000) (hc : n ≤ c) (hc2 : c ≤ 9223372036854775807) (hT : Tab w) (hS : ∀ x ∈ xs, SmP x.p) :
    Calls Tryd.prog 16 #[.agg #[.slice A n c], .int .i64 i] w fun e w' => ∃ A' n' c', e = .returned (.tuple #[.agg #[.slice A' n' c'], .int .i64 (partE xs i)]) ∧ LN.rd w' (fun b => w.heap.size ≤ b) A' n' (partR xs i) ∧ n' ≤ c' ∧ c' ≤ 9223372036854775807 ∧ Below w.heap.size w w' := by
  have HLEN := Lib.hid (Lay.rd_len h)
  have HPE := Lib.hid (show partE xs i = if okF xs then (if 0 ≤ i ∧ i < (xs.length : Int) then 0 else 2) else 180 from rfl)
  have HPR := Lib.hid (show partR xs i = if partE xs i = 0 then partN xs i.toNat else [] from rfl)
  generalize partE xs i = E at *
  generalize partR xs i = R at *
  have HQ1 := Lib.hid (bl_al (bl_al (Below.refl w.heap.size w) (.cells #[.slice A n c] 30)) (.cells #[.slice none 0 0] 30))
  have HB2 := Lib.hid ((Blk.new w 30 #[.slice A n c]).alloc (.cells #[.slice none 0 0] 30))
  have HB4 := Lib.hid (show Blk ((w.alloc (.cells #[.slice A n c] 30)).alloc (.cells #[.slice none 0 0] 30)) (w.heap.size + 1) 30 #[.slice none 0 0] from by
    have := Blk.new (w.alloc (.cells #[.slice A n c] 30)) 30 #[.slice none 0 0]
    rwa [World.size_alloc] at this)
  have HRD := Lib.hid (Lay.rd_below h HQ1.out)
  have HC := Lib.hid (grown_any F xs A n c _ HRD.out hn (hT.below HQ1.out) hS)
  clear h hT hS
  go_enter Tryd.func16, Tryd.ntmps16
  go_upto_region 1 with fail
  generalize (w.alloc (.cells #[.slice A n c] 30)).alloc (.cells #[.slice none 0 0] 30) = w1 at *
  have x0 := HB2.out.cell 0
  simp at x0
  go_wp2_with fail
  refine HC.out.mono ?_
  rintro e w2 ⟨A2, c2, n2, ok, bs, rfl, hok, hrd, hbs, q2⟩
  have HQ2 := Lib.hid q2
  have HBR := Lib.hid hrd
  have HBS := Lib.hid hbs
  have HF2 := Lib.hid (HB4.out.ca q2)
  have y0 := HF2.out.cell 0
  have y1 := HF2.out.frozen 0
  have x1 := (HB2.out.ca q2).cell 0
  simp at y0 x1
  have HOK := Lib.hid hok
  clear q2 hrd hbs hok x0 HC
  cases ok
  · have HE := Lib.hid (show E = 180 from by rw [HPE.out, ← HOK.out]; rfl)
    have HR := Lib.hid (show R = [] from by rw [HPR.out, HE.out]; rfl)
    go_wp2
    exact bodyPost_ret (res2 Tryd.results16 rfl rfl (HF2.out.set_ 0 (.slice none 0 0)) Tryd.underlying30 rfl treeI) rfl ⟨none, 0, 0, by rw [HE.out]; rfl, by rw [HR.out]; exact Lay.rd_nil _, Nat.le_refl _, by omega, bl_set (bl_ca HQ1.out HQ2.out) (p := ⟨w.heap.size + 1, 0, none⟩) (by show _ ≤ w.heap.size + 1; omega) _⟩
  obtain ⟨t, ht⟩ := okF_ex HOK.out.symm
  obtain ⟨hb, hn2⟩ := HBS.out t ht
  have hxn : n2 = n := by rw [hn2, ← tree_len ht, HLEN.out]
  subst hxn
  have HE2 := Lib.hid (show E = if 0 ≤ i ∧ i < (n2 : Int) then 0 else 2 from by rw [HPE.out, ← HOK.out, HLEN.out]; rfl)
  by_cases h0 : i < 0
  · have HE := Lib.hid (show E = 2 from by rw [HE2.out, if_neg (by omega)])
    have HR := Lib.hid (show R = [] from by rw [HPR.out, HE.out]; rfl)
    go_wp2
    exact bodyPost_ret (res2 Tryd.results16 rfl rfl (HF2.out.set_ 0 (.slice none 0 0)) Tryd.underlying30 rfl treeI) rfl ⟨none, 0, 0, by rw [HE.out]; rfl, by rw [HR.out]; exact Lay.rd_nil _, Nat.le_refl _, by omega, bl_set (bl_ca HQ1.out HQ2.out) (p := ⟨w.heap.size + 1, 0, none⟩) (by show _ ≤ w.heap.size + 1; omega) _⟩
  by_cases h1 : (n2 : Int) ≤ i
  · have HE := Lib.hid (show E = 2 from by rw [HE2.out, if_neg (by omega)])
    have HR := Lib.hid (show R = [] from by rw [HPR.out, HE.out]; rfl)
    have h2 : 0 ≤ i := by omega
    clear h0
    go_wp2
    exact bodyPost_ret (res2 Tryd.results16 rfl rfl (HF2.out.set_ 0 (.slice none 0 0)) Tryd.underlying30 rfl treeI) rfl ⟨none, 0, 0, by rw [HE.out]; rfl, by rw [HR.out]; exact Lay.rd_nil _, Nat.le_refl _, by omega, bl_set (bl_ca HQ1.out HQ2.out) (p := ⟨w.heap.size + 1, 0, none⟩) (by show _ ≤ w.heap.size + 1; omega) _⟩
  obtain ⟨k, rfl⟩ : ∃ k : Nat, i = (k : Int) := ⟨i.toNat, by omega⟩
  have hkt : k < t.size := by omega
  have HE := Lib.hid (show E = 0 from by rw [HE2.out, if_pos (by omega)])
  have HR := Lib.hid (show R = partN xs k from by rw [HPR.out, HE.out, if_pos rfl, Int.toNat_natCast])
  obtain ⟨p, x, hAe, hx, _, s0, _⟩ := LB2_at HBR.out (show k < n2 by omega)
  obtain rfl : A2 = some p := hAe
  have hxv : x = (k + 1 - (t.sub k).size, (t.sub k).depth) := by
    have := t.bel_at 0 k hkt
    rw [hb] at hx
    rw [this, Nat.zero_add] at hx
    injection hx with hx
    exact hx.symm
  have hsub := t.sub_size k hkt
  have hsp := (t.sub k).size_pos
  obtain ⟨o, ho⟩ : ∃ o, o = k + 1 - (t.sub k).size := ⟨_, rfl⟩
  have hx1 : x.1 = o := by rw [hxv, ho]
  rw [hx1] at s0
  have hpt := part_at ht hkt
  rw [← ho] at hpt
  have HSL := Lib.hid (Lay.rd_cut (Lay.rd_take (Lay.rd_below HRD.out HQ2.out) (show k + 1 ≤ n2 by omega)) (show o ≤ k + 1 by omega) (show k + 1 ≤ c by omega))
  have hsl : (xs.take (k + 1)).drop o = (xs.drop o).take (t.sub k).size := by
    rw [List.drop_take, show k + 1 - o = (t.sub k).size from by omega]
  rw [hsl] at HSL
  have HPT := Lib.hid hpt
  have HMV := Lib.hid (fun A' c' w' (hr : LN.rd w' F A' (k + 1 - o) ((xs.drop o).take (t.sub k).size)) => moved_any F _ A' (k + 1 - o) c' (-(o : Int)) w' hr (by omega) (by omega) (by omega) (fun x hx => by have := tree_rng ht x (List.mem_of_mem_drop (List.mem_of_mem_take hx)); omega))
  have ho1 : 0 ≤ (o : Int) := by omega
  have ho2 : (o : Int) ≤ (k : Int) + 1 := by omega
  have ho3 : (k : Int) + 1 ≤ (c : Int) := by omega
  have ho4 : (k : Int) < (n2 : Int) := by omega
  have ho5 : 0 ≤ (k : Int) := by omega
  have ho6 : (n2 : Int) ≤ 100000 := by omega
  have hco : ¬ c = o := by omega
  rw [if_neg hco] at HSL
  clear h0 h1 hb hn2 hx hxv hx1 hpt hsl hsub hsp ho
  go_wp2_with fail
  refine (HMV.out _ _ _ HSL.out).mono ?_
  rintro e w3 ⟨A3, c3, rfl, ho3', q3⟩
  have HF3 := Lib.hid (HF2.out.ca q3)
  have HO3 := Lib.hid ho3'
  have HQ3 := Lib.hid q3
  have hcap := Lay.own_caps ho3'
  have z0 := HF3.out.cell 0
  have z1 := HF3.out.frozen 0
  simp at z0
  clear ho3' q3 s0 x1 y0 y1
  rw [HPT.out] at HO3
  go_wp2
  have hzz : w.heap.size ≤ w2.heap.size := (bl_ca HQ1.out HQ2.out).size
  exact bodyPost_ret (res2 Tryd.results16 rfl rfl (HF3.out.set_ 0 (.slice A3 (k + 1 - o) c3)) Tryd.underlying30 rfl treeI) rfl ⟨A3, k + 1 - o, c3, by rw [HE.out]; rfl, by
    rw [HR.out]
    have hq := Lay.own_rd2 (F := fun b => w2.heap.size ≤ b) HO3.out (fun b e => (Lay.own_base HO3.out b e).1) (fun b h _ => h.elim)
    exact Lay.rd_weak (fun b hb _ => Nat.le_trans hzz hb) (Lay.rd_keep (fun b hb hl => Below.heap_setCell _ _ _ _ (by have := HF2.out.lt; show b ≠ w.heap.size + 1; omega)) hq), hcap.1, hcap.2, bl_set (bl_ca (bl_ca HQ1.out HQ2.out) HQ3.out) (p := ⟨w.heap.size + 1, 0, none⟩) (by show _ ≤ w.heap.size + 1; omega) _⟩
end Go.Proofs.YtoaggmldekejoaaDoor
