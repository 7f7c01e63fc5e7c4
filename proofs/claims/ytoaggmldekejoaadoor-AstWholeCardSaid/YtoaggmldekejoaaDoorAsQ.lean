/- Leaf, One, Two. Conditions: the trees read so; what the tables hold. -/
import Derived.Test.YtoaggmldekejoaaDoorAsO
namespace Go.Proofs.YtoaggmldekejoaaDoor
open Go.RowKit
theorem smz (t : Int) : SmP (zP t) := ⟨by show (0 : Nat) ≤ _; omega, by show (0 : Nat) ≤ _; omega, by show (0 : Nat) ≤ _; omega⟩
theorem rd_all {α : Type} {L : Lay α} {w : World} {F : Nat → Prop} {A : Option Addr} {n : Nat} {xs : List α} (h : L.rd w F A n xs) : L.rd w AllB A n xs := Lay.rd_weak (fun _ _ _ => trivial) h
theorem MadeO.fin {w0 w1 w2 : World} {E : Int} {R : List Nd} {A : Option Addr} {n c : Nat} (hr : LN.rd w1 (fun b => w0.heap.size ≤ b) A n R) (h1 : n ≤ c) (h2 : c ≤ 9223372036854775807) (b : Below w0.heap.size w0 w2) (k : ∀ b, w0.heap.size ≤ b → b < w1.heap.size → w2.heap[b]? = w1.heap[b]?) : MadeO w0 E R (.returned (.tuple #[.agg #[.slice A n c], .int .i64 E])) w2 :=
  ⟨A, n, c, rfl, Lay.rd_keep k hr, h1, h2, b⟩
set_option maxRecDepth 100000 in
set_option maxHeartbeats 4000000 in
theorem leaf_any (p : Py) (pl pr : Int) (w : World) (hT : Tab w) (hp : SmP p) :
    Calls Tryd.prog 9 #[.agg (Nd.cells ⟨p, pl, pr⟩)] w fun e w' => MadeO w (madeE p []) (madeR p []) e w' := by
  have HQ1 := Lib.hid (bl_al (bl_al (Below.refl w.heap.size w) (.cells (Nd.cells ⟨p, pl, pr⟩) 27)) (.cells #[.slice none 0 0] 30))
  have HB3 := Lib.hid (show Blk ((w.alloc (.cells (Nd.cells ⟨p, pl, pr⟩) 27)).alloc (.cells #[.slice none 0 0] 30)) (w.heap.size + 1) 30 #[.slice none 0 0] from by
    have := Blk.new (w.alloc (.cells (Nd.cells ⟨p, pl, pr⟩) 27)) 30 #[.slice none 0 0]
    rwa [World.size_alloc] at this)
  have HC := Lib.hid (made_any AllB p pl pr [] none 0 0 _ (Lay.rd_nil none) (by omega) (fun x h => by cases h) (hT.below HQ1.out) hp (fun x h => by cases h))
  generalize madeE p [] = E at *
  generalize madeR p [] = R at *
  clear hT hp
  go_enter Tryd.func9, Tryd.ntmps9
  go_wp2_with fail
  refine HC.out.mono ?_
  rintro e w2 ⟨A, n, c, rfl, hr, h1, h2, q2⟩
  have HR := Lib.hid hr
  have HB4 := Lib.hid (HB3.out.ca q2)
  have HQ2 := Lib.hid (bl_ca HQ1.out q2)
  have hl3 := HB3.out.lt
  have HL3 := Lib.hid hl3
  have x3 : w2.cell? ⟨w.heap.size + 1, 0, none⟩ = some (.slice none 0 0) := HB4.out.cell 0
  have f3 := HB4.out.frozen 0
  clear hr q2 HC HB3 hl3
  go_wp2
  exact bodyPost_ret (res2 Tryd.results9 rfl rfl (HB4.out.set_ 0 (.slice A n c)) Tryd.underlying30 rfl treeI) rfl (MadeO.fin (Lay.rd_weak (fun b hb _ => Nat.le_trans HQ1.out.size hb) (Lay.rd_keep (w' := w2.setCell ⟨w.heap.size + 1, 0, none⟩ (.slice A n c)) (fun b hb _ => Below.heap_setCell _ _ _ _ (by have := HL3.out; show b ≠ w.heap.size + 1; omega)) HR.out)) h1 h2 (bl_set HQ2.out (p := ⟨w.heap.size + 1, 0, none⟩) (by show _ ≤ w.heap.size + 1; omega) _) (fun b _ _ => rfl))
set_option maxRecDepth 100000 in
set_option maxHeartbeats 4000000 in
theorem one_any (F : Nat → Prop) (t : Int) (xs : List Nd) (A1 : Option Addr) (n1 c1 : Nat) (w : World) (h : LN.rd w F A1 n1 xs) (hn : n1 ≤ 100000) (hc : n1 ≤ c1) (hc2 : c1 ≤ 9223372036854775807) (hT : Tab w) (hS : ∀ x ∈ xs, SmP x.p) :
    Calls Tryd.prog 12 #[.int .i64 t, .agg #[.slice A1 n1 c1]] w fun e w' => MadeO w (madeE (zP t) [xs]) (madeR (zP t) [xs]) e w' := by
  have HQ1 := Lib.hid (bl_al (bl_al (bl_al (Below.refl w.heap.size w) (.cells #[.slice A1 n1 c1] 30)) (.cells #[.slice none 0 0] 30)) (.cells #[.slice A1 n1 c1] 30))
  have HB3 := Lib.hid (show Blk (((w.alloc (.cells #[.slice A1 n1 c1] 30)).alloc (.cells #[.slice none 0 0] 30)).alloc (.cells #[.slice A1 n1 c1] 30)) (w.heap.size + 1) 30 #[.slice none 0 0] from by
    have := (Blk.new (w.alloc (.cells #[.slice A1 n1 c1] 30)) 30 #[.slice none 0 0]).alloc (.cells #[.slice A1 n1 c1] 30)
    rwa [World.size_alloc] at this)
  have HBS := (show Blk (((w.alloc (.cells #[.slice A1 n1 c1] 30)).alloc (.cells #[.slice none 0 0] 30)).alloc (.cells #[.slice A1 n1 c1] 30)) (w.heap.size + 1 + 1) 30 #[.slice A1 n1 c1] from by
    have := Blk.new ((w.alloc (.cells #[.slice A1 n1 c1] 30)).alloc (.cells #[.slice none 0 0] 30)) 30 #[.slice A1 n1 c1]
    rwa [World.size_alloc, World.size_alloc] at this)
  have HC := Lib.hid (made_any AllB (zP t) 0 0 [xs] (some ⟨w.heap.size + 1 + 1, 0, none⟩) 1 1 _ (Lay.rd_blk (L := LTr) (F := AllB) HBS rfl ⟨[.slice A1 n1 c1], [], rfl, ⟨A1, n1, c1, rfl, hc, hc2, rd_all (Lay.rd_below h HQ1.out)⟩, rfl⟩ trivial) (by omega) (fun x hx => by rw [List.mem_singleton] at hx; subst hx; rw [Lay.rd_len h]; exact hn) (hT.below HQ1.out) (smz t) (fun x hx => by rw [List.mem_singleton] at hx; subst hx; exact hS))
  generalize madeE (zP t) [xs] = E at *
  generalize madeR (zP t) [xs] = R at *
  clear hT h hS HBS
  go_enter Tryd.func12, Tryd.ntmps12
  go_wp2_with fail
  refine HC.out.mono ?_
  rintro e w2 ⟨A, n, c, rfl, hr, h1, h2, q2⟩
  have HR := Lib.hid hr
  have HB4 := Lib.hid (HB3.out.ca q2)
  have HQ2 := Lib.hid (bl_ca HQ1.out q2)
  have hl3 := HB3.out.lt
  have HL3 := Lib.hid hl3
  have x3 : w2.cell? ⟨w.heap.size + 1, 0, none⟩ = some (.slice none 0 0) := HB4.out.cell 0
  have f3 := HB4.out.frozen 0
  clear hr q2 HC HB3 hl3
  go_wp2
  exact bodyPost_ret (res2 Tryd.results12 rfl rfl (HB4.out.set_ 0 (.slice A n c)) Tryd.underlying30 rfl treeI) rfl (MadeO.fin (Lay.rd_weak (fun b hb _ => Nat.le_trans HQ1.out.size hb) (Lay.rd_keep (w' := w2.setCell ⟨w.heap.size + 1, 0, none⟩ (.slice A n c)) (fun b hb _ => Below.heap_setCell _ _ _ _ (by have := HL3.out; show b ≠ w.heap.size + 1; omega)) HR.out)) h1 h2 (bl_set HQ2.out (p := ⟨w.heap.size + 1, 0, none⟩) (by show _ ≤ w.heap.size + 1; omega) _) (fun b _ _ => rfl))
set_option maxRecDepth 100000 in
set_option maxHeartbeats 4000000 in
theorem two_any (F G : Nat → Prop) (t : Int) (xs ys : List Nd) (A1 : Option Addr) (n1 c1 : Nat) (A2 : Option Addr) (n2 c2 : Nat) (w : World) (h : LN.rd w F A1 n1 xs) (hn : n1 ≤ 100000) (hc : n1 ≤ c1) (hc2 : c1 ≤ 9223372036854775807) (k : LN.rd w G A2 n2 ys) (kn : n2 ≤ 100000) (kc : n2 ≤ c2) (kc2 : c2 ≤ 9223372036854775807) (hT : Tab w) (hS : ∀ x ∈ xs, SmP x.p) (kS : ∀ x ∈ ys, SmP x.p) :
    Calls Tryd.prog 13 #[.int .i64 t, .agg #[.slice A1 n1 c1], .agg #[.slice A2 n2 c2]] w fun e w' => MadeO w (madeE (zP t) [xs, ys]) (madeR (zP t) [xs, ys]) e w' := by
  have HQ1 := Lib.hid (bl_al (bl_al (bl_al (bl_al (Below.refl w.heap.size w) (.cells #[.slice A1 n1 c1] 30)) (.cells #[.slice A2 n2 c2] 30)) (.cells #[.slice none 0 0] 30)) (.cells #[.slice A1 n1 c1, .slice A2 n2 c2] 30))
  have HB3 := Lib.hid (show Blk ((((w.alloc (.cells #[.slice A1 n1 c1] 30)).alloc (.cells #[.slice A2 n2 c2] 30)).alloc (.cells #[.slice none 0 0] 30)).alloc (.cells #[.slice A1 n1 c1, .slice A2 n2 c2] 30)) (w.heap.size + 1 + 1) 30 #[.slice none 0 0] from by
    have := (Blk.new ((w.alloc (.cells #[.slice A1 n1 c1] 30)).alloc (.cells #[.slice A2 n2 c2] 30)) 30 #[.slice none 0 0]).alloc (.cells #[.slice A1 n1 c1, .slice A2 n2 c2] 30)
    rwa [World.size_alloc, World.size_alloc] at this)
  have HBS := (show Blk ((((w.alloc (.cells #[.slice A1 n1 c1] 30)).alloc (.cells #[.slice A2 n2 c2] 30)).alloc (.cells #[.slice none 0 0] 30)).alloc (.cells #[.slice A1 n1 c1, .slice A2 n2 c2] 30)) (w.heap.size + 1 + 1 + 1) 30 #[.slice A1 n1 c1, .slice A2 n2 c2] from by
    have := Blk.new (((w.alloc (.cells #[.slice A1 n1 c1] 30)).alloc (.cells #[.slice A2 n2 c2] 30)).alloc (.cells #[.slice none 0 0] 30)) 30 #[.slice A1 n1 c1, .slice A2 n2 c2]
    rwa [World.size_alloc, World.size_alloc, World.size_alloc] at this)
  have HC := Lib.hid (made_any AllB (zP t) 0 0 [xs, ys] (some ⟨w.heap.size + 1 + 1 + 1, 0, none⟩) 2 2 _ (Lay.rd_blk (L := LTr) (F := AllB) HBS rfl ⟨[.slice A1 n1 c1], [.slice A2 n2 c2], rfl, ⟨A1, n1, c1, rfl, hc, hc2, rd_all (Lay.rd_below h HQ1.out)⟩, ⟨[.slice A2 n2 c2], [], rfl, ⟨A2, n2, c2, rfl, kc, kc2, rd_all (Lay.rd_below k HQ1.out)⟩, rfl⟩⟩ trivial) (by omega) (fun x hx => by
      rcases List.mem_cons.1 hx with rfl | hx
      · rw [Lay.rd_len h]; exact hn
      · rw [List.mem_singleton] at hx; subst hx; rw [Lay.rd_len k]; exact kn) (hT.below HQ1.out) (smz t) (fun x hx => by
      rcases List.mem_cons.1 hx with rfl | hx
      · exact hS
      · rw [List.mem_singleton] at hx; subst hx; exact kS))
  generalize madeE (zP t) [xs, ys] = E at *
  generalize madeR (zP t) [xs, ys] = R at *
  clear hT h hS k kS HBS
  go_enter Tryd.func13, Tryd.ntmps13
  go_wp2_with fail
  refine HC.out.mono ?_
  rintro e w2 ⟨A, n, c, rfl, hr, h1, h2, q2⟩
  have HR := Lib.hid hr
  have HB4 := Lib.hid (HB3.out.ca q2)
  have HQ2 := Lib.hid (bl_ca HQ1.out q2)
  have hl3 := HB3.out.lt
  have HL3 := Lib.hid hl3
  have x3 : w2.cell? ⟨w.heap.size + 1 + 1, 0, none⟩ = some (.slice none 0 0) := HB4.out.cell 0
  have f3 := HB4.out.frozen 0
  clear hr q2 HC HB3 hl3
  go_wp2
  exact bodyPost_ret (res2 Tryd.results13 rfl rfl (HB4.out.set_ 0 (.slice A n c)) Tryd.underlying30 rfl treeI) rfl (MadeO.fin (Lay.rd_weak (fun b hb _ => Nat.le_trans HQ1.out.size hb) (Lay.rd_keep (w' := w2.setCell ⟨w.heap.size + 1 + 1, 0, none⟩ (.slice A n c)) (fun b hb _ => Below.heap_setCell _ _ _ _ (by have := HL3.out; show b ≠ w.heap.size + 1 + 1; omega)) HR.out)) h1 h2 (bl_set HQ2.out (p := ⟨w.heap.size + 1 + 1, 0, none⟩) (by show _ ≤ w.heap.size + 1 + 1; omega) _) (fun b _ _ => rfl))
end Go.Proofs.YtoaggmldekejoaaDoor
