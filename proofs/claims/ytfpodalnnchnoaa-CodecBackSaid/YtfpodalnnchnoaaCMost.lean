/- The walk of the law CodecMost. Conditions: the slice reads as these values. -/
import Derived.Test.YtfpodalnnchnoaaCFew
import Derived.Test.YtfpodalnnchnoaaCApL
import Derived.Test.YtfpodalnnchnoaaCFwd
import Derived.Test.YtfpodalnnchnoaaCWakes
import Derived.Test.YtfpodalnnchnoaaCList
import Derived.Test.YtfpodalnnchnoaaCRList
import Derived.Test.YtfpodalnnchnoaaCSameL
namespace Go.Proofs.Ytfpodalnnchnoaa
open Go.RowKit
theorem lr_rd {w : World} {B : Nat} {G : Nat → Prop} {A : Option Addr} {n c : Nat} {rows : List (List VV)} (h : LR.own 27 w B G A n c rows) : LR.rd w (fun _ => True) A n rows :=
  Lay.own_rd h (fun _ _ _ => trivial) (fun _ _ _ => trivial)
theorem listB_no {rows : List (List VV)} (h : listE rows ≠ 0) : listB rows = [] := by unfold listB; rw [if_neg h]
theorem retL_eq {w : World} {bs bs' : List UInt8} {t : Nat} {e e' : Int} {x : Ending} {w' : World} (h1 : bs = bs') (h2 : e = e') (h : retL w bs t e x w') : retL w bs' t e' x w' := by subst h1 h2; exact h
theorem list_y {F : Nat → Prop} {A : Option Addr} {m c : Nat} {rows : List (List VV)} {w : World} (hv : LR.rd w F A m rows) (hu : rowsU rows) (h : listE rows = 0) :
    Calls Try.prog 18 #[.slice A m c] w (retL w (listB rows) (listAt rows) 0) := (list_any F A m c rows w hv hu).mono fun _ _ x => retL_eq rfl h x
theorem list_n {F : Nat → Prop} {A : Option Addr} {m c : Nat} {rows : List (List VV)} {w : World} (hv : LR.rd w F A m rows) (hu : rowsU rows) (h : listE rows ≠ 0) :
    Calls Try.prog 18 #[.slice A m c] w (retL w [] (listAt rows) (listE rows)) := (list_any F A m c rows w hv hu).mono fun _ _ x => retL_eq (listB_no h) rfl x
theorem rlist_y {F : Nat → Prop} {A : Option Addr} {m c : Nat} {rows : List (List VV)} {w : World} (hv : LR.rd w F A m rows) (hu : rowsU rows) (h : listE rows = 0) :
    Calls Try.prog 19 #[.slice A m c] w (retL w (listB rows) (listAt rows) 0) := (rlist_any F A m c rows w hv hu).mono fun _ _ x => retL_eq rfl h x
theorem rlist_n {F : Nat → Prop} {A : Option Addr} {m c : Nat} {rows : List (List VV)} {w : World} (hv : LR.rd w F A m rows) (hu : rowsU rows) (h : listE rows ≠ 0) :
    Calls Try.prog 19 #[.slice A m c] w (retL w [] (listAt rows) (listE rows)) := (rlist_any F A m c rows w hv hu).mono fun _ _ x => retL_eq (listB_no h) rfl x
theorem same_self {F G : Nat → Prop} {A B : Option Addr} {m c d : Nat} {xs : List (List VV)} {w : World} (hx : LR.rd w F A m xs) (hy : LR.rd w G B m xs) (hm : m ≤ 9223372036854775807) :
    Calls Try.prog 21 #[.slice A m c, .slice B m d] w fun e w' => e = .returned (.bool true) ∧ Below w.heap.size w w' := by
  have := same_any F G A B m c m d xs xs w hx hy hm
  rwa [show decide (xs = xs) = true from by simp] at this
theorem most_n {t : Int} (_h : -3 < t ∧ t < 3) : ∃ m : Nat, 399 ≤ m ∧ m ≤ 401 ∧ 400 + t % 3 - 1 = (m : Int) := ⟨(400 + t % 3 - 1).toNat, by omega, by omega, by omega⟩
theorem replicate_rng {k : Nat} {r : List VV} (h : ∀ v ∈ r, v.rng) : ∀ x ∈ List.replicate k r, ∀ v ∈ x, v.rng := fun x hx => by rw [List.eq_of_mem_replicate hx]; exact h
theorem shortR_rng {vs : List VV} (h : ∀ v ∈ vs, v.rng) : ∀ v ∈ shortR vs, v.rng := fun v hv => by
  unfold shortR at hv
  obtain ⟨x, hx, rfl⟩ := List.mem_map.1 hv
  exact short_rng (h x (List.mem_of_mem_take hx))
theorem rows_u {rows : List (List VV)} (h : ∀ r ∈ rows, ∀ v ∈ r, v.rng) : rowsU rows := fun r hr v hv => (h r hr v hv).2
theorem rowB_len2 (r : List VV) : (rowB r).length ≤ 673 := rowB_len r
theorem flat_len : ∀ rows : List (List VV), (rows.flatMap rowB).length ≤ 673 * rows.length
  | [] => by simp
  | r :: l => by
    have h1 := rowB_len r
    have h2 := flat_len l
    rw [List.flatMap_cons, List.length_append, List.length_cons]
    omega
theorem listB_len (rows : List (List VV)) : (listB rows).length ≤ 2 + 673 * rows.length := by
  unfold listB
  split
  · have := flat_len rows
    rw [List.length_append, beB_len]
    omega
  · simp
theorem takeList_back {l : List (List VV)} (tail : List UInt8) (hl : listE l = 0) (hg : ∀ r ∈ l, ∀ v ∈ r, v.rng) (A : Option Addr) (n c : Nat) (w : World) (h : RdB w A n (listB l ++ tail)) (hn : n ≤ 140737488351232) :
    Calls Try.prog 22 #[.slice A n c] w fun e w' => ∃ A' k c', e = .returned (.tuple #[.slice A' k c', .int .i64 ((listB l).length : Int), .int .i64 0]) ∧ LR.own 27 w' w.heap.size (Since w w') A' k c' l ∧ Below w.heap.size w w' := by
  have := takeList_any A n c _ w h hn
  obtain ⟨e1, e2, e3⟩ := tl_fwd tail hl hg
  rwa [e1, e2, e3] at this
theorem tmod3 (x : Int) : -3 < x.tmod 3 ∧ x.tmod 3 < 3 := by
  have h1 := Int.tmod_lt_of_pos x (show (0 : Int) < 3 by decide)
  have h2 := Int.lt_tmod_of_pos x (show (0 : Int) < 3 by decide)
  exact ⟨by omega, h1⟩
set_option maxRecDepth 100000 in
set_option maxHeartbeats 8000000 in
theorem codecMost_walk (A : Option Addr) (n c : Nat) (vs : List VV) (more : Int) (w : World) (hv : RdV w A n vs) (hn : n ≤ 9223372036854775807) (hr : ∀ v ∈ vs, v.rng) (_hm : (Lit.int .i64 more).wf = true) :
    Calls Try.prog 5 #[.slice A n c, .int .i64 more] w fun e w' => e = .returned (.bool true) ∧ Below w.heap.size w w' := by
  have qq := Below.refl w.heap.size w
  obtain ⟨t, HT⟩ : ∃ t, more.tmod 3 = t := ⟨_, rfl⟩
  have h3 : -3 < t ∧ t < 3 := by rw [← HT]; exact tmod3 more
  have h31 := h3.1
  have h32 := h3.2
  obtain ⟨m, hm1, hm2, HM⟩ := most_n h3
  clear h3
  go_enter Try.func5, Try.ntmps5
  go_wp2_with fail
  refine (wakes6_any w).mono ?_
  rintro e w1 ⟨rfl, q1⟩
  replace qq := bl_ca qq q1
  clear q1
  have HSH := Lib.hid (fun w h => short_any A n c vs w h hn)
  have HRG := Lib.hid (shortR_rng hr)
  generalize shortR vs = sr at *
  clear hr
  go_wp2_with fail
  clear HT h31 h32 HM
  generalize Value.int .i64 t = y1
  generalize Value.int .i64 (t + 3) = y2
  generalize Value.int .i64 ((t + 3) % 3) = y3
  generalize Value.int .i64 (400 + t % 3) = y4
  go_loopg [5, 23] m (fun g o s wr => ∃ (i c' : Nat) (A' : Option Addr), i + g ≤ m ∧ m ≤ i + g ∧ s = .int .i64 i ∧ o = .slice A' i c' ∧ LR.own 27 wr w.heap.size (Since w wr) A' i c' (List.replicate i sr) ∧ Below w.heap.size w wr)
  case atStart => exact ⟨0, 0, none, by omega, by omega, rfl, rfl, Lay.own_nil w1 w.heap.size, qq⟩
  case round =>
    clear qq
    obtain ⟨i, c', A', hi1, hi2, rfl, rfl, ho, bb⟩ := hrel
    by_cases hi : i < m
    · have HF := Lib.hid (show List.replicate (i + 1) sr = List.replicate i sr ++ [sr] from List.replicate_succ')
      have hsr := bb.size
      have hrv := hv.below bb
      go_wp2_with fail
      refine (HSH.out _ hrv).mono ?_
      rintro e w2 ⟨A2, k2, c2, rfl, hown, q2⟩
      have hrep := row_rep (ownV_lay hown) ho hsr
      have ho2 := Lay.own_weak (G' := Since w w2) (fun b hb _ => ⟨hb.1, Nat.lt_of_lt_of_le hb.2 q2.size⟩) (Lay.own_below ho q2)
      have ho3 := Lay.own_alloc ho2 (.cells #[.slice A2 k2 c2] 27)
      have hb2 := Blk.new w2 27 #[.slice A2 k2 c2]
      have hrep3 := LR.keep (fun b hb hlt => Below.heap_alloc w2 (.cells #[.slice A2 k2 c2] 27) b hlt) hrep
      have b3 := bl_al (bl_ca bb q2) (.cells #[.slice A2 k2 c2] 27)
      have hsz := b3.size
      have hGG : ∀ b, Since w w2 b → b < (w2.alloc (.cells #[.slice A2 k2 c2] 27)).heap.size := fun b hb => by have := hb.2; simp only [World.size_alloc]; omega
      clear hown hrep ho2 hrv
      go_wp2_with (at_builtin; refine wpList_appL (L := LR) rfl (.tmp 25) (.tmp 28) 35 rfl _ 1 24 Try.underlying35 LR_own_info rfl rfl (by omega) w.heap.size (Since w w2) A' i c' (List.replicate i sr) w2.heap.size 1 27 _ sr rfl rfl ho3 hb2 hrep3 hGG (by omega) (by simp only [maxLen]; omega) hsz ?_; intro A4 c4 w4 ho4 b4)
      have ho5 := Lay.own_weak (G' := Since w w4) (fun b hb hlt => ⟨hb.1, hlt⟩) ho4
      go_roundg (gk - 1)
      · exact ⟨i + 1, c4, A4, by omega, by omega, by go_num, rfl, by rw [HF.out]; exact ho5, b3.trans b4⟩
      · omega
    · obtain rfl : i = m := by omega
      have hrd := lr_rd ho
      obtain ⟨R, hR⟩ : ∃ R, R = List.replicate i sr := ⟨_, rfl⟩
      have hRG : ∀ r ∈ R, ∀ v ∈ r, v.rng := by rw [hR]; exact replicate_rng HRG.out
      have hlen : R.length = i := by rw [hR]; simp
      rw [← hR] at hrd
      have HU := Lib.hid (rows_u hRG)
      have hbl := listB_len R
      clear ho hR HSH HRG hv hn hm1 hi1 hi2 hi
      by_cases he : listE R = 0
      · have HA := Lib.hid (fun W (h : LR.rd W (fun _ => True) A' i R) => list_y (c := c') h HU.out he)
        have HB := Lib.hid (fun W (h : LR.rd W (fun _ => True) A' i R) => rlist_y (c := c') h HU.out he)
        have HT := Lib.hid (fun W A c (h : RdB W A (listB R).length (listB R)) => takeList_back [] he hRG A _ c W (by rw [List.append_nil]; exact h) (by omega))
        clear he hRG HU hlen hbl
        generalize listB R = bs at *
        generalize listAt R = T at *
        have HRD := Lib.hid hrd
        clear hrd
        go_wp2_with fail
        refine (HA.out _ HRD.out).mono ?_
        rintro e w2 ⟨A2, c2, rfl, o2, q2⟩
        have hrd2 := Lib.hid (Lay.rd_below HRD.out q2)
        have b2 := bl_ca bb q2
        clear q2
        go_wp2_with fail
        refine (HB.out _ hrd2.out).mono ?_
        rintro e w3 ⟨A3, c3, rfl, o3, q3⟩
        have hrd3 := Lib.hid (Lay.rd_below hrd2.out q3)
        have b3 := bl_ca b2 q3
        have o23 := o2.below q3
        clear q3 o2 hrd2
        go_wp2_with fail
        refine (equal_self _ _ _ _ _ _ _ _ o23.rd o3.rd).mono ?_
        rintro e w4 ⟨rfl, rfl⟩
        clear o3
        go_wp2_with fail
        refine (HT.out _ _ _ o23.rd).mono ?_
        rintro e w4 ⟨A4, k4, c4, rfl, o4, q4⟩
        have hk4 := Lay.own_len o4
        have hrd4 := Lay.rd_below hrd3.out q4
        have b4 := bl_ca b3 q4
        clear q4 o23 hrd3
        obtain rfl : k4 = i := by rw [← hk4]; exact hrd4.1
        have HS := Lib.hid (same_self (c := c4) (d := c') (lr_rd o4) hrd4 (by omega))
        clear o4 hrd4 hk4 HRD
        go_wp2_with fail
        refine HS.out.mono ?_
        rintro e w5 ⟨rfl, q5⟩
        go_wp2
        go_ret
        exact ⟨rfl, bl_ca b4 q5⟩
      · have HA := Lib.hid (fun W (h : LR.rd W (fun _ => True) A' i R) => list_n (c := c') h HU.out he)
        have HB := Lib.hid (fun W (h : LR.rd W (fun _ => True) A' i R) => rlist_n (c := c') h HU.out he)
        have he1 : (listE R != 0) = true := by simpa using he
        clear he hRG HU hlen hbl
        generalize listE R = E at *
        generalize listAt R = T at *
        have HRD := Lib.hid hrd
        clear hrd
        go_wp2_with fail
        refine (HA.out _ HRD.out).mono ?_
        rintro e w2 ⟨A2, c2, rfl, o2, q2⟩
        have hrd2 := Lib.hid (Lay.rd_below HRD.out q2)
        have b2 := bl_ca bb q2
        clear q2
        go_wp2_with fail
        refine (HB.out _ hrd2.out).mono ?_
        rintro e w3 ⟨A3, c3, rfl, o3, q3⟩
        have b3 := bl_ca b2 q3
        have o23 := o2.below q3
        clear q3 o2 hrd2
        go_wp2_with fail
        refine (equal_self _ _ _ _ _ _ _ _ o23.rd o3.rd).mono ?_
        rintro e w4 ⟨rfl, rfl⟩
        clear o3 o23
        go_wp2
        go_ret
        exact ⟨rfl, b3⟩
end Go.Proofs.Ytfpodalnnchnoaa
