/- bowspritlaw24.NetFills. Conditions: none. -/
import Derived.Test.YtnbcffnhgijmcaaPkS9
import Derived.ChangeShapes
namespace Go.Proofs.Ytnbcffnhgijmcaa
open Go.RowKit
theorem rd_store {w w' : World} {g B : Nat} {A : Option Addr} {m : Nat} {ps : List PC} (h : LP.rd w (fun b => B ≤ b) A m ps) (hg : w.grownBy w' (some g)) (hb : g < B) : LP.rd w' (fun b => B ≤ b) A m ps := Lay.rd_keep (fun b hF hl => hg.block b hl (fun e => by injection e with e; omega)) h
theorem send_same {sent : Int} {ps : List PC} (f t : Int) (bs : List UInt8) (h : chkB sent ps = true) : sendE sent ps f t bs = rsendE sent ps f t bs ∧ sendR sent ps f t bs = rsendR sent ps f t bs := by
  have h1 : sendE sent ps f t bs = rsendE sent ps f t bs := by unfold sendE rsendE; rw [h, if_pos rfl]
  refine ⟨h1, ?_⟩
  unfold sendR
  rw [h1]
  unfold rsendR rsendE withR
  cases pairB f t
  · rfl
  · by_cases hl : 60000 < bs.length
    · simp [hl]
    · simp only [hl, if_true, if_false]
theorem twin_same {sent : Int} {ps : List PC} (x : Int) (h : chkB sent ps = true) : twinE sent ps x = rtwinE sent ps x ∧ twinR sent ps x = rtwinR sent ps x := by
  have h1 : twinE sent ps x = rtwinE sent ps x := by unfold twinE rtwinE; rw [h, if_pos rfl]
  refine ⟨h1, ?_⟩
  unfold twinR
  rw [h1]
  unfold rtwinR rtwinE withR
  cases hasB ps x
  · rfl
  · simp only [if_true]
def fillP (n : Nat) : List PC := (List.range n).map fun (k : Nat) => ⟨(k : Int) + 1, 0, 1, [], false⟩
def fillE (n : Nat) : List El := (List.range n).map fun (k : Nat) => ⟨⟨(k : Int) + 1, 0, 1, [], false⟩, none, 0, 0⟩
theorem Ro.cap_ {w : World} {B : Nat} {A : Option Addr} {n c : Nat} {es : List El} (h : Ro w B A n c es) : n ≤ c ∧ c ≤ maxLen := by
  rcases h.2 with ⟨e, h0⟩ | ⟨g, cap, cur, e, _, _, h1, h2, _⟩
  · injection e with _ _ e2; subst e2; subst h0; exact ⟨Nat.le_refl _, by decide⟩
  · injection e with _ _ e2; subst e2; exact ⟨h1, h2⟩
theorem fillE_succ (n : Nat) : fillE (n + 1) = fillE n ++ [⟨⟨(n : Int) + 1, 0, 1, [], false⟩, none, 0, 0⟩] := by unfold fillE; rw [List.range_succ, List.map_append]; rfl
theorem fillE_p (n : Nat) : (fillE n).map El.p = fillP n := by unfold fillE fillP; rw [List.map_map]; rfl
theorem fillP_take {n k : Nat} (h : k ≤ n) : (fillP n).take k = fillP k := by unfold fillP; rw [← List.map_take, List.take_range, Nat.min_eq_left h]
theorem fillP_len (n : Nat) : (fillP n).length = n := by simp [fillP]
theorem goB_seg (s : Int) : ∀ (n a : Nat), ((a + n : Nat) : Int) ≤ s → goB s (a : Int) ((List.range n).map fun k => (⟨((a + k : Nat) : Int) + 1, 0, 1, [], false⟩ : PC)) = true
  | 0, _, _ => rfl
  | n + 1, a, h => by
    rw [List.range_succ_eq_map, List.map_cons, List.map_map]
    unfold goB
    have h2 := goB_seg s n (a + 1) (by omega)
    have e1 : (((a + 0 : Nat) : Int) + 1) = ((a + 1 : Nat) : Int) := by omega
    have e2 : ((fun k => (⟨((a + k : Nat) : Int) + 1, 0, 1, [], false⟩ : PC)) ∘ Nat.succ) = fun k => (⟨((a + 1 + k : Nat) : Int) + 1, 0, 1, [], false⟩ : PC) := by
      funext k
      show (⟨((a + (k + 1) : Nat) : Int) + 1, 0, 1, [], false⟩ : PC) = _
      rw [show a + (k + 1) = a + 1 + k from by omega]
    rw [e2]
    simp only [e1, h2, Bool.and_true]
    unfold parB
    dsimp only
    rw [decide_eq_true (show (a : Int) < ((a + 1 : Nat) : Int) by omega), decide_eq_true (show ((a + 1 : Nat) : Int) ≤ s by omega)]
    first | rfl | (simp [pairB])
theorem fill_chk {k : Nat} (h : k ≤ 20000) : chkB 20000 (fillP k) = true := by
  have h1 := goB_seg 20000 k 0 (by omega)
  have h2 : ((List.range k).map fun j => (⟨((0 + j : Nat) : Int) + 1, 0, 1, [], false⟩ : PC)) = fillP k := by
    unfold fillP
    refine List.map_congr_left fun j _ => ?_
    rw [Nat.zero_add]
  rw [h2] at h1
  unfold chkB
  rw [fillP_len, decide_eq_true (by omega), decide_eq_true (by omega)]
  exact h1
theorem fill_bytes {k : Nat} : ∀ p ∈ fillP k, p.bs.length ≤ 100000 := by
  intro p hp
  obtain ⟨j, _, rfl⟩ := List.mem_map.1 hp
  exact Nat.zero_le _
theorem fill_ok {w : World} {F : Nat → Prop} {k : Nat} : ∀ e ∈ fillE k, e.ok w F := by
  intro e he
  obtain ⟨j, _, rfl⟩ := List.mem_map.1 he
  exact ⟨Lay.rd_nil none, Nat.le_refl _, Nat.zero_le _⟩
/-- what is taken away -/
theorem less_of (x : Int) (hx : I64 x) : ∃ r : Int, ∃ d : Nat, Int.tmod x 3 = r ∧ -3 < r ∧ r < 3 ∧ Int.tmod (r + 3) 3 = (d : Int) ∧ d < 3 := by
  have h1 := Int.tmod_lt_of_pos x (show (0 : Int) < 3 from by omega)
  have h2 := Int.lt_tmod_of_pos x (show (0 : Int) < 3 from by omega)
  have h3 : Int.tmod (Int.tmod x 3 + 3) 3 = (Int.tmod x 3 + 3) % 3 := Int.tmod_eq_emod_of_nonneg (by omega)
  refine ⟨_, ((Int.tmod x 3 + 3) % 3).toNat, rfl, by omega, by omega, ?_, by omega⟩
  rw [h3]; omega
theorem send_both (A : Option Addr) (k c : Nat) (hk : k ≤ 20000) : ∃ (s : Int) (l : List PC) (E : Int), l.length ≤ 20001 ∧ (∀ W, LP.rd W AllB A k (fillP k) → Calls Try.prog 11 #[.agg #[.int .u64 20000, .slice A k c], .int .i64 2, .int .i64 3, .slice none 0 0] W fun e w' => ∃ A2 m2 c2, e = .returned (.tuple #[.agg #[.int .u64 s, .slice A2 m2 c2], .int .u64 s, .int .i64 E]) ∧ OutN w' W.heap.size A2 m2 c2 l ∧ Below W.heap.size W w') ∧ (∀ W, LP.rd W AllB A k (fillP k) → Calls Try.prog 12 #[.agg #[.int .u64 20000, .slice A k c], .int .i64 2, .int .i64 3, .slice none 0 0] W fun e w' => ∃ A2 m2 c2, e = .returned (.tuple #[.agg #[.int .u64 s, .slice A2 m2 c2], .int .u64 s, .int .i64 E]) ∧ OutN w' W.heap.size A2 m2 c2 l ∧ Below W.heap.size W w') := by
  have hc := fill_chk hk
  refine ⟨(rsendR 20000 (fillP k) 2 3 []).1, (rsendR 20000 (fillP k) 2 3 []).2, rsendE 20000 (fillP k) 2 3 [], ?_, fun W h => ?_, fun W h => ?_⟩
  · have hp : pairB 2 3 = true := by decide
    unfold rsendR withR
    rw [hp]
    simp only [if_true]
    split
    · simp
    · split <;> simp [fillP_len]
      omega
  · have h1 := send_any 20000 A k c (fillP k) 2 3 none 0 0 [] W h (by omega) (by omega) ⟨rfl, fun h => absurd h (by omega)⟩
    rw [(send_same 2 3 [] hc).1, (send_same 2 3 [] hc).2] at h1
    exact h1
  · exact rsend_any 20000 A k c (fillP k) 2 3 none 0 0 [] W h hk fill_bytes ⟨rfl, fun h => absurd h (by omega)⟩ (by omega) (by omega)
theorem twin_both (A : Option Addr) (k c : Nat) (hk : k ≤ 20000) : ∃ (s : Int) (l : List PC) (E : Int), l.length ≤ 20001 ∧ (∀ W, LP.rd W AllB A k (fillP k) → Calls Try.prog 13 #[.agg #[.int .u64 20000, .slice A k c], .int .u64 1] W fun e w' => ∃ A2 m2 c2, e = .returned (.tuple #[.agg #[.int .u64 s, .slice A2 m2 c2], .int .u64 s, .int .i64 E]) ∧ OutN w' W.heap.size A2 m2 c2 l ∧ Below W.heap.size W w') ∧ (∀ W, LP.rd W AllB A k (fillP k) → Calls Try.prog 14 #[.agg #[.int .u64 20000, .slice A k c], .int .u64 1] W fun e w' => ∃ A2 m2 c2, e = .returned (.tuple #[.agg #[.int .u64 s, .slice A2 m2 c2], .int .u64 s, .int .i64 E]) ∧ OutN w' W.heap.size A2 m2 c2 l ∧ Below W.heap.size W w') := by
  have hc := fill_chk hk
  refine ⟨(rtwinR 20000 (fillP k) 1).1, (rtwinR 20000 (fillP k) 1).2, rtwinE 20000 (fillP k) 1, ?_, fun W h => ?_, fun W h => ?_⟩
  · unfold rtwinR withR
    split
    · split <;> simp [fillP_len]
      omega
    · simp
  · have h1 := twin_any 20000 A k c (fillP k) 1 W h (by omega) (by omega)
    rw [(twin_same 1 hc).1, (twin_same 1 hc).2] at h1
    exact h1
  · exact rtwin_any 20000 A k c (fillP k) 1 W h hk fill_bytes (by omega) (by omega)
set_option maxRecDepth 100000 in
set_option maxHeartbeats 16000000 in
theorem fills_any (x : Int) (tw : Bool) (w : World) (hx : (Lit.int .i64 x).wf = true) : Calls Try.prog 3 #[.int .i64 x, .bool tw] w fun e w' => e = .returned (.bool true) ∧ Below w.heap.size w w' := by
  obtain ⟨r, d, hr, hr1, hr2, hd, hd3⟩ := less_of x (wf_i64 hx)
  obtain ⟨k, hk⟩ : ∃ k : Nat, k = 20000 - d := ⟨_, rfl⟩
  have hkd : (20000 : Int) - (d : Int) = (k : Int) := by omega
  have hk2 : k ≤ 20000 := by omega
  have HW := Lib.hid (wakes_any w)
  go_enter Try.func3, Try.ntmps3
  go_wp2_with fail
  refine HW.out.mono ?_
  clear HW
  rintro e w1 ⟨rfl, hb1⟩
  have bN := Blk.new w1 26 #[.int .u64 0, .slice none 0 0]
  have b2 := bl_al hb1 (.cells #[.int .u64 0, .slice none 0 0] 26)
  have hg1 : w.heap.size ≤ w1.heap.size := hb1.size
  have hsz : w1.heap.size + 1 ≤ (w1.alloc (.cells #[.int .u64 0, .slice none 0 0] 26)).heap.size := by simp
  clear hb1
  have HR := Lib.hid (And.intro hr hd)
  have HR2 := Lib.hid (And.intro hr1 (And.intro hr2 hkd))
  clear hr hd hr1 hr2 hkd hk
  go_wp2_with fail
  generalize w1.alloc (.cells #[.int .u64 0, .slice none 0 0] 26) = w2 at *
  generalize w1.heap.size = g at *
  go_loopg [15] 20000 (fun gz a wr => ∃ i A c, i + gz = 20000 ∧ a = .int .i64 i ∧ Ro wr (g + 1) A i c (fillE i) ∧ Blk wr g 26 #[.int .u64 0, .slice A i c] ∧ g + 1 ≤ wr.heap.size ∧ Below w.heap.size w wr)
  case atStart => exact ⟨0, none, 0, by omega, rfl, Ro.nil _ _, bN, hsz, b2⟩
  case round =>
    clear bN b2 hsz
    obtain ⟨i, A, c, hig, rfl, hRo, bN, hsz, bb⟩ := hrel
    have HN := Lib.hid bN
    have HRo := Lib.hid hRo
    have HBB := Lib.hid bb
    have z1 : wr.cell? ⟨g, 1, none⟩ = some (.slice A i c) := bN.cell 1
    clear bN bb hRo
    by_cases hlt : i < 20000
    · have hi1 : (i : Int) < 20000 := by omega
      have hi0 : (0 : Int) ≤ (i : Int) := by omega
      have T1 := bl_al (Below.refl wr.heap.size wr) (.cells #[.int .u64 ((i : Int) + 1), .int .i64 0, .int .i64 1, .slice none 0 0, .bool false] 29)
      go_wp2_with (at_builtin; refine wpList_appE rfl (.tmp 19) (.tmp 24) rfl (g + 1) A i c (fillE i) _ 1 1 [⟨⟨(i : Int) + 1, 0, 1, [], false⟩, none, 0, 0⟩] rfl rfl (HRo.out.below T1) (reads_blk (vs := #[.int .u64 ((i : Int) + 1), .int .i64 0, .int .i64 1, .slice none 0 0, .bool false]) (Blk.mk' rfl) rfl rfl) (by omega) (Nat.le_trans hsz T1.size) ?_; intro A8 c8 w8 o8 b8 k8; have hN8 := (HN.out.ca T1).below b8 (by omega); have y1 : w8.cell? ⟨g, 1, none⟩ = some (.slice A i c) := hN8.cell 1; have fy : w8.frozen? ⟨g, 1, none⟩ = false := hN8.frozen 1)
      have hg9 : w8.grownBy (w8.setCell ⟨g, 1, none⟩ (.slice A8 (i + 1) c8)) (some g) := only_setCell (World.grownBy.refl _ _) (.inl rfl) _
      have hN9 : Blk (w8.setCell ⟨g, 1, none⟩ (.slice A8 (i + 1) c8)) g 26 #[.int .u64 0, .slice A8 (i + 1) c8] := by simpa using hN8.set_ 1 (.slice A8 (i + 1) c8)
      have hR9 : Ro (w8.setCell ⟨g, 1, none⟩ (.slice A8 (i + 1) c8)) (g + 1) A8 (i + 1) c8 (fillE (i + 1)) := by rw [fillE_succ]; exact o8.kept hg9 (fun e => by have := (own_base' o8 g e).1; omega)
      have hB9 := bl_gr ((bl_ca HBB.out T1).trans (b8.mono (by omega))) hg9 hg1
      have hs9 := Nat.le_trans (Nat.le_trans hsz T1.size) (Nat.le_trans b8.size hg9.size)
      go_roundg (gk - 1)
      · exact ⟨i + 1, A8, c8, by omega, by go_num, hR9, hN9, hs9, hB9⟩
      · omega
    · obtain rfl : i = 20000 := by omega
      have hc : 20000 ≤ c ∧ c ≤ maxLen := HRo.out.cap_
      have hi1 : (20000 : Int) ≤ ((20000 : Nat) : Int) := by omega
      have hr := HR.out.1
      have hd := HR.out.2
      have hr1 := HR2.out.1
      have hr2 := HR2.out.2.1
      have hkd := HR2.out.2.2
      have hkc : (k : Int) ≤ (c : Int) := by omega
      have hN0 := HN.out
      have z0 : wr.cell? ⟨g, 0, none⟩ = some (.int .u64 0) := hN0.cell 0
      have f0 : wr.frozen? ⟨g, 0, none⟩ = false := hN0.frozen 0
      have hN1 : Blk (wr.setCell ⟨g, 0, none⟩ (.int .u64 20000)) g 26 #[.int .u64 20000, .slice A 20000 c] := by simpa using hN0.set_ 0 (.int .u64 20000)
      have v1 : (wr.setCell ⟨g, 0, none⟩ (.int .u64 20000)).cell? ⟨g, 1, none⟩ = some (.slice A 20000 c) := hN1.cell 1
      have fv : (wr.setCell ⟨g, 0, none⟩ (.int .u64 20000)).frozen? ⟨g, 1, none⟩ = false := hN1.frozen 1
      go_wp2_with fail
      have hNx : Blk ((wr.setCell ⟨g, 0, none⟩ (.int .u64 20000)).setCell ⟨g, 1, none⟩ (.slice A k c)) g 26 #[.int .u64 20000, .slice A k c] := by simpa using hN1.set_ 1 (.slice A k c)
      have gx : wr.grownBy ((wr.setCell ⟨g, 0, none⟩ (.int .u64 20000)).setCell ⟨g, 1, none⟩ (.slice A k c)) (some g) := only_setCell (p := ⟨g, 1, none⟩) (only_setCell (p := ⟨g, 0, none⟩) (World.grownBy.refl _ _) (.inl rfl) _) (.inl rfl) _
      have hBx := bl_gr HBB.out gx hg1
      have hRF : LP.rd ((wr.setCell ⟨g, 0, none⟩ (.int .u64 20000)).setCell ⟨g, 1, none⟩ (.slice A k c)) (fun b => b < ((wr.setCell ⟨g, 0, none⟩ (.int .u64 20000)).setCell ⟨g, 1, none⟩ (.slice A k c)).heap.size) A k (fillP k) := by
        have h1 := Ro.rd (F := AllB) (HRo.out.kept gx (fun e => by have := (own_base' HRo.out g e).1; omega)) fill_ok (fun _ _ => trivial)
        rw [fillE_p] at h1
        have h2 := Lay.rd_take h1 hk2
        rw [fillP_take hk2] at h2
        exact Lay.rd_weak (fun b _ h => h) h2
      obtain ⟨s, l, E, hl, hS, hT⟩ := send_both A k c hk2
      obtain ⟨s2, l2, E2, hl2, hS2, hT2⟩ := twin_both A k c hk2
      have HS := Lib.hid hS
      have HT := Lib.hid hT
      have HS2 := Lib.hid hS2
      have HT2 := Lib.hid hT2
      have hgx := hNx.lt
      have d0 : (E == E) = true := by simp
      have d1 : (s == s) = true := by simp
      have d2 : (E2 == E2) = true := by simp
      have d3 : (s2 == s2) = true := by simp
      clear hS hT hS2 hT2 gx hN1 v1 fv z0 f0 hN0 hkc hkd hr hd hr1 hr2 HR HR2 HRo HN HBB hc hi1 z1 hsz
      generalize (wr.setCell ⟨g, 0, none⟩ (.int .u64 20000)).setCell ⟨g, 1, none⟩ (.slice A k c) = wx at *
      refine (HS.out _ (rd_all hRF)).mono ?_
      rintro e w3 ⟨A3, m3, c3, rfl, hO3, q3⟩
      have hm3 : m3 ≤ 20001 := by have := hO3.len; omega
      have hB3 := bl_ca hBx q3
      have hN3 := hNx.ca q3
      have hg3 := hN3.lt
      go_wp2_with (refine wpList_store_blk rfl 26 (.tmp 7) (.tmp 41) rfl w3.heap.size 26 _ _ rfl rfl (Blk.new _ _ _) rfl netI (by simp [Value.oneCell']) ?_; intro w4 hZ4 g4; have hN4 := (hN3.ca (bl_al (Below.refl _ _) _)).apart g4 (by omega); have x0 : w4.cell? ⟨g, 0, none⟩ = some (.int .u64 20000) := hN4.cell 0; have x1 : w4.cell? ⟨g, 1, none⟩ = some (.slice A k c) := hN4.cell 1)
      have T4 := bl_gr (bl_al (Below.refl w3.heap.size w3) _) g4 (Nat.le_refl _)
      have hB4 := bl_ca hB3 T4
      have hR4 : LP.rd w4 (fun b => b < wx.heap.size) A k (fillP k) := Lay.rd_below hRF (bl_ca q3 T4)
      have hxg : wx.heap.size ≤ w3.heap.size := q3.size
      have hO4 : LP.rd w4 AllB A3 m3 l := rd_all (F := AllB) (Lay.rd_below (hO3.rd (fun _ _ => trivial)) T4)
      have h74 : w3.heap.size < w4.heap.size := hZ4.lt
      have hg73 : g < w3.heap.size := hg3
      have hw73 : w.heap.size ≤ w3.heap.size := hB3.size
      generalize w3.heap.size = g7 at *
      refine (HT.out _ (rd_all hR4)).mono ?_
      rintro e w5 ⟨A5, m5, c5, rfl, hO5, q5⟩
      have hm5 : m5 ≤ 20001 := by have := hO5.len; omega
      have hB5 := bl_ca hB4 q5
      have hZ5 := hZ4.ca q5
      have hN5 := hN4.ca q5
      have hg5 := hN5.lt
      have h75 := hZ5.lt
      have hR5 : LP.rd w5 (fun b => b < wx.heap.size) A k (fillP k) := Lay.rd_below hR4 q5
      have hO45 : LP.rd w5 AllB A3 m3 l := Lay.rd_below hO4 q5
      cases tw
      · go_wp2_with (refine wpList_store_blk rfl 26 (.tmp 10) (.tmp 47) rfl w5.heap.size 26 _ _ rfl rfl (Blk.new _ _ _) rfl netI (by simp [Value.oneCell']) ?_; intro w6 hZ6 g6; have hZ76 := (hZ5.ca (bl_al (Below.refl _ _) _)).apart g6 (by omega); have y0 : w6.cell? ⟨g7, 0, none⟩ = some (.int .u64 s) := hZ76.cell 0; have y1 : w6.cell? ⟨g7, 1, none⟩ = some (.slice A3 m3 c3) := hZ76.cell 1; have x0 : w6.cell? ⟨w5.heap.size, 0, none⟩ = some (.int .u64 s) := hZ6.cell 0; have x1 : w6.cell? ⟨w5.heap.size, 1, none⟩ = some (.slice A5 m5 c5) := hZ6.cell 1)
        have T6 := bl_gr (bl_al (Below.refl w5.heap.size w5) _) g6 (Nat.le_refl _)
        have hOm : LP.rd w6 AllB A3 m3 l := Lay.rd_below hO45 T6
        have hOw : LP.rd w6 AllB A5 m5 l := Lay.rd_below (hO5.rd (fun _ _ => trivial)) T6
        have hB6 := bl_ca hB5 T6
        refine (rsame_any s A3 m3 c3 l s A5 m5 c5 l _ hOm hOw (by omega)).mono ?_
        rintro e w7 ⟨rfl, q7⟩
        have hB7 := bl_ca hB6 q7
        go_wp2
        go_ret
        exact ⟨ret_bool (by simp), hB7⟩
      · go_wp2_with (refine wpList_store_blk rfl 26 (.tmp 10) (.tmp 47) rfl w5.heap.size 26 _ _ rfl rfl (Blk.new _ _ _) rfl netI (by simp [Value.oneCell']) ?_; intro w6 hZ6 g6; have hZ76 := (hZ5.ca (bl_al (Below.refl _ _) _)).apart g6 (by omega); have hN6 := (hN5.ca (bl_al (Below.refl _ _) _)).apart g6 (by omega); have x0 : w6.cell? ⟨g, 0, none⟩ = some (.int .u64 20000) := hN6.cell 0; have x1 : w6.cell? ⟨g, 1, none⟩ = some (.slice A k c) := hN6.cell 1)
        have T6 := bl_gr (bl_al (Below.refl w5.heap.size w5) _) g6 (Nat.le_refl _)
        have hB6 := bl_ca hB5 T6
        have hR6 : LP.rd w6 (fun b => b < wx.heap.size) A k (fillP k) := Lay.rd_below hR5 T6
        have h106 : w5.heap.size < w6.heap.size := hZ6.lt
        have h76 := hZ76.lt
        have hw10 : w.heap.size ≤ w5.heap.size := hB5.size
        clear hO5 hO3 hO4 hO45 hm3 hm5
        generalize w5.heap.size = g10 at *
        refine (HS2.out _ (rd_all hR6)).mono ?_
        rintro e w7 ⟨A7, m7, c7, rfl, hO7, q7⟩
        have hm7 : m7 ≤ 20001 := by have := hO7.len; omega
        have hB7 := bl_ca hB6 q7
        have hZ77 := hZ76.ca q7
        have hZ107 := hZ6.ca q7
        have hN7 := hN6.ca q7
        have hR7 : LP.rd w7 (fun b => b < wx.heap.size) A k (fillP k) := Lay.rd_below hR6 q7
        go_wp2_with (refine wpList_store_blk rfl 26 (.tmp 7) (.tmp 54) rfl g7 26 _ _ rfl rfl hZ77 rfl netI (by simp [Value.oneCell']) ?_; intro w8 hZ8 g8; have hN8 := hN7.apart g8 (by omega); have hZ108 := hZ107.apart g8 (by omega); have x0 : w8.cell? ⟨g, 0, none⟩ = some (.int .u64 20000) := hN8.cell 0; have x1 : w8.cell? ⟨g, 1, none⟩ = some (.slice A k c) := hN8.cell 1)
        have hO8 : LP.rd w8 (fun b => w6.heap.size ≤ b) A7 m7 l2 := rd_store (hO7.rd (fun _ h => h)) g8 (by omega)
        have hB8 := bl_gr hB7 g8 hw73
        have hR8 : LP.rd w8 (fun b => b < wx.heap.size) A k (fillP k) := Lay.rd_keep (fun b hF hl => g8.block b hl (fun e => by injection e with e; omega)) hR7
        have h68 : w6.heap.size ≤ w8.heap.size := Nat.le_trans q7.size g8.size
        refine (HT2.out _ (rd_all hR8)).mono ?_
        rintro e w9 ⟨A9, m9, c9, rfl, hO9, q9⟩
        have hB9 := bl_ca hB8 q9
        have hZ79 := hZ8.ca q9
        have hZ109 := hZ108.ca q9
        have hO89 := Lay.rd_below hO8 q9
        go_wp2_with (refine wpList_store_blk rfl 26 (.tmp 10) (.tmp 60) rfl g10 26 _ _ rfl rfl hZ109 rfl netI (by simp [Value.oneCell']) ?_; intro w10 hZA gA; have hZ7A := hZ79.apart gA (by omega); have y0 : w10.cell? ⟨g7, 0, none⟩ = some (.int .u64 s2) := hZ7A.cell 0; have y1 : w10.cell? ⟨g7, 1, none⟩ = some (.slice A7 m7 c7) := hZ7A.cell 1; have x0 : w10.cell? ⟨g10, 0, none⟩ = some (.int .u64 s2) := hZA.cell 0; have x1 : w10.cell? ⟨g10, 1, none⟩ = some (.slice A9 m9 c9) := hZA.cell 1)
        have hOm : LP.rd w10 (fun b => w6.heap.size ≤ b) A7 m7 l2 := rd_store hO89 gA (by omega)
        have hOw : LP.rd w10 (fun b => w8.heap.size ≤ b) A9 m9 l2 := rd_store (hO9.rd (fun _ h => h)) gA (by omega)
        have hB10 := bl_gr hB9 gA hw10
        refine (rsame_any s2 A7 m7 c7 l2 s2 A9 m9 c9 l2 _ (rd_all hOm) (rd_all hOw) (by omega)).mono ?_
        rintro e w11 ⟨rfl, q11⟩
        have hB11 := bl_ca hB10 q11
        go_wp2
        go_ret
        exact ⟨ret_bool (by simp), hB11⟩
end Go.Proofs.Ytnbcffnhgijmcaa
/- bowspritlaw24.short. Conditions: the slice reads as these parcels. -/
namespace Go.Proofs.Ytnbcffnhgijmcaa
open Go.RowKit
def cutP (p : PC) : PC := ⟨p.num, p.frm, p.to, p.bs.take 60001, p.sp⟩
def shortP (ps : List PC) : List PC := (ps.take 20001).map cutP
theorem shortP_len (ps : List PC) : (shortP ps).length = min 20001 ps.length := by simp [shortP]
theorem shortP_bytes (ps : List PC) : ∀ p ∈ shortP ps, p.bs.length ≤ 60001 := by
  intro p hp
  obtain ⟨q, _, rfl⟩ := List.mem_map.1 hp
  simp only [cutP, List.length_take]
  omega
theorem shortP_next {ps : List PC} {i : Nat} {q : PC} (h : ps[i]? = some q) (hi : i ≤ 20000) : shortP (ps.take (i + 1)) = shortP (ps.take i) ++ [cutP q] := by
  unfold shortP
  rw [List.take_take, List.take_take, Nat.min_eq_right (by omega), Nat.min_eq_right (by omega), List.take_add_one, h, List.map_append]
  rfl
theorem shortP_stop {ps : List PC} {i : Nat} (hi : 20001 ≤ i) : shortP (ps.take i) = shortP ps := by
  unfold shortP
  rw [List.take_take, Nat.min_eq_left hi]
theorem El.ok_all {w : World} {F : Nat → Prop} {e : El} (h : e.ok w F) : e.ok w AllB := ⟨Lay.rd_weak (fun _ _ _ => trivial) h.1, h.2⟩
set_option maxRecDepth 100000 in
set_option maxHeartbeats 8000000 in
theorem short_any (sent : Int) (A : Option Addr) (m c : Nat) (ps : List PC) (w : World) (h : LP.rd w AllB A m ps) (hm : m ≤ 9223372036854775807) :
    Calls Try.prog 16 #[.agg #[.int .u64 sent, .slice A m c]] w fun e w' => ∃ A2 m2 c2, e = .returned (.agg #[.int .u64 sent, .slice A2 m2 c2]) ∧ OutN w' w.heap.size A2 m2 c2 (shortP ps) ∧ Below w.heap.size w w' := by
  replace h := Lay.rd_weak (G := Old w) (fun b _ hb => hb) h
  have HL := Lib.hid h.1
  have bb := Below.refl w.heap.size w
  have bN := Blk.new w 26 #[.int .u64 sent, .slice A m c]
  replace bb := bl_al bb (.cells #[.int .u64 sent, .slice A m c] 26)
  replace bN := bN.ca (bl_al (Below.refl _ _) (.cells #[.int .u64 0, .slice none 0 0] 26))
  have bR : Blk ((w.alloc (.cells #[.int .u64 sent, .slice A m c] 26)).alloc (.cells #[.int .u64 0, .slice none 0 0] 26)) (w.heap.size + 1) 26 #[.int .u64 0, .slice none 0 0] := Blk.mk' (by simp only [World.size_alloc])
  replace bb := bl_al bb (.cells #[.int .u64 0, .slice none 0 0] 26)
  have hsz : w.heap.size + 2 ≤ ((w.alloc (.cells #[.int .u64 sent, .slice A m c] 26)).alloc (.cells #[.int .u64 0, .slice none 0 0] 26)).heap.size := by simp only [World.size_alloc]; omega
  have n1 : ((w.alloc (.cells #[.int .u64 sent, .slice A m c] 26)).alloc (.cells #[.int .u64 0, .slice none 0 0] 26)).cell? ⟨w.heap.size, 1, none⟩ = some (.slice A m c) := bN.cell 1
  go_enter Try.func16, Try.ntmps16
  go_wp2_with fail
  clear n1
  generalize ((w.alloc (.cells #[.int .u64 sent, .slice A m c] 26)).alloc (.cells #[.int .u64 0, .slice none 0 0] 26)) = w1 at *
  go_loopg [3, 9] m (fun g a b wr => ∃ i j A2 c2 es, i + g = m ∧ (i ≤ 20001 → j = i) ∧ j ≤ 20001 ∧ a = .slice A2 j c2 ∧ b = .int .i64 i ∧ Ro wr (w.heap.size + 2) A2 j c2 es ∧ (∀ e ∈ es, e.ok wr (Old w)) ∧ es.map El.p = shortP (ps.take i) ∧ Blk wr w.heap.size 26 #[.int .u64 sent, .slice A m c] ∧ Blk wr (w.heap.size + 1) 26 #[.int .u64 0, .slice none 0 0] ∧ w.heap.size + 2 ≤ wr.heap.size ∧ Below w.heap.size w wr)
  case atStart => exact ⟨0, 0, none, 0, [], by omega, fun _ => rfl, by omega, rfl, rfl, Ro.nil _ _, by simp, by simp [shortP], bN, bR, hsz, bb⟩
  case round =>
    clear bN bR bb hsz
    obtain ⟨i, j, A2, c2, es, hig, hij, hj2, rfl, rfl, hRo, hok, hes, bN, bR, hsz, bb⟩ := hrel
    have HRo := Lib.hid hRo
    have HOK := Lib.hid hok
    have HES := Lib.hid hes
    have HN := Lib.hid bN
    have HR := Lib.hid bR
    have HBB := Lib.hid bb
    have HIJ := Lib.hid hij
    clear hRo hok hes bN bR hij
    by_cases hlt : i < m
    · have hi1 : (i : Int) < (m : Int) := by omega
      obtain ⟨p, q, B, n', c', rfl, hx, s1⟩ := LP_at (Lay.rd_below h bb) hlt
      have e0 := s1.c0
      have e1 := s1.c1
      have e2 := s1.c2
      have e3 := s1.c3
      have e4 := s1.c4
      have HX := Lib.hid hx
      by_cases h2 : i ≤ 20000
      · have hi2 : (i : Int) ≤ 20000 := by omega
        have hji : j = i := HIJ.out (by omega)
        obtain ⟨k', hk'⟩ : ∃ k' : Nat, k' = min n' 60001 := ⟨_, rfl⟩
        have hmin : min (n' : Int) 60001 = (k' : Int) := by omega
        have hkn : k' ≤ n' := by omega
        have hnc := s1.nc
        have hkc : (k' : Int) ≤ (c' : Int) := by omega
        have hcm := s1.cm
        have HBY := Lib.hid (show LB.rd wr (Old w) B k' (q.bs.take 60001) by
          have h3 := Lay.rd_take s1.bs hkn
          have h4 : q.bs.take k' = q.bs.take 60001 := by
            have h5 := s1.len
            first | (rw [List.take_eq_take_iff]; omega) | (rw [List.take_eq_take]; omega)
          rwa [h4] at h3)
        clear hx s1 bb hk' hji
        go_wp2_with (first
          | (refine wpList_store_blk rfl 29 (.tmp 5) (.tmp 13) rfl wr.heap.size 29 _ _ rfl rfl (Blk.new _ _ _) rfl parcelI (by simp [Value.oneCell']) ?_; intro wz hZ gz; have x3 : wz.cell? ⟨wr.heap.size, 3, none⟩ = some (.slice B n' c') := hZ.cell 3; have f3 : wz.frozen? ⟨wr.heap.size, 3, none⟩ = false := hZ.frozen 3; have hX5 : Blk (wz.setCell ⟨wr.heap.size, 3, none⟩ (.slice B k' c')) wr.heap.size 29 #[.int .u64 q.num, .int .i64 q.frm, .int .i64 q.to, .slice B k' c', .bool q.sp] := (by simpa using hZ.set_ 3 (.slice B k' c')); have y0 : (wz.setCell ⟨wr.heap.size, 3, none⟩ (.slice B k' c')).cell? ⟨wr.heap.size, 0, none⟩ = some (.int .u64 q.num) := hX5.cell 0; have y1 : (wz.setCell ⟨wr.heap.size, 3, none⟩ (.slice B k' c')).cell? ⟨wr.heap.size, 1, none⟩ = some (.int .i64 q.frm) := hX5.cell 1; have y2 : (wz.setCell ⟨wr.heap.size, 3, none⟩ (.slice B k' c')).cell? ⟨wr.heap.size, 2, none⟩ = some (.int .i64 q.to) := hX5.cell 2; have y3 : (wz.setCell ⟨wr.heap.size, 3, none⟩ (.slice B k' c')).cell? ⟨wr.heap.size, 3, none⟩ = some ((.slice B k' c')) := hX5.cell 3; have y4 : (wz.setCell ⟨wr.heap.size, 3, none⟩ (.slice B k' c')).cell? ⟨wr.heap.size, 4, none⟩ = some (.bool q.sp) := hX5.cell 4; have hb6 : Blk ((wz.setCell ⟨wr.heap.size, 3, none⟩ (.slice B k' c')).alloc (.cells #[.int .u64 q.num, .int .i64 q.frm, .int .i64 q.to, .slice B k' c', .bool q.sp] 29)) wz.heap.size 29 #[.int .u64 q.num, .int .i64 q.frm, .int .i64 q.to, .slice B k' c', .bool q.sp] := Blk.mk' (by simp); have T5 := bl_al (bl_set (bl_gr (bl_al (Below.refl wr.heap.size wr) _) gz (Nat.le_refl _)) (p := ⟨wr.heap.size, 3, none⟩) (Nat.le_refl _) (.slice B k' c')) (.cells #[.int .u64 q.num, .int .i64 q.frm, .int .i64 q.to, .slice B k' c', .bool q.sp] 29))
          | (at_builtin; refine wpList_appE rfl (.tmp 24) (.tmp 26) rfl (w.heap.size + 2) A2 j c2 es _ 1 1 [⟨cutP q, B, k', c'⟩] rfl rfl (HRo.out.below T5) (reads_blk hb6 rfl rfl) (by omega) (Nat.le_trans hsz T5.size) ?_; intro A8 c8 w8 o8 b8 k8))
        have hT8 : ∀ b, b < w.heap.size → w8.heap[b]? = wr.heap[b]? := fun b hb => (b8.block b (by omega)).trans (T5.block b (by omega))
        have hk5 : ∀ e ∈ es ++ [⟨cutP q, B, k', c'⟩], e.ok w8 (Old w) := by
          intro e he
          rcases List.mem_append.1 he with he | he
          · exact El.ok_old (HOK.out e he) hT8
          · rw [List.mem_singleton.1 he]
            exact El.ok_old (e := ⟨cutP q, B, k', c'⟩) (show El.ok wr (Old w) ⟨cutP q, B, k', c'⟩ from ⟨HBY.out, by show k' ≤ c'; omega, hcm⟩) hT8
        go_roundg (gk - 1)
        · exact ⟨i + 1, j + 1, A8, c8, es ++ [⟨cutP q, B, k', c'⟩], by omega, fun _ => by have := HIJ.out (by omega); omega, by have := HIJ.out (by omega); omega, rfl, by go_num, o8, hk5, by rw [List.map_append, HES.out, shortP_next HX.out h2]; rfl, (HN.out.ca T5).below b8 (by omega), (HR.out.ca T5).below b8 (by omega), Nat.le_trans (Nat.le_trans hsz T5.size) b8.size, (bl_ca HBB.out T5).trans (b8.mono (by omega))⟩
        · omega
      · have hi2 : (20000 : Int) < (i : Int) := by omega
        clear hx s1 bb
        go_wp2_with (refine wpList_store_blk rfl 29 (.tmp 5) (.tmp 13) rfl wr.heap.size 29 _ _ rfl rfl (Blk.new _ _ _) rfl parcelI (by simp [Value.oneCell']) ?_; intro wz hZ gz; have T5 := Lib.hid (bl_gr (bl_al (Below.refl wr.heap.size wr) _) gz (Nat.le_refl _)))
        go_roundg (gk - 1)
        · exact ⟨i + 1, j, A2, c2, es, by omega, fun h => by have := HIJ.out (by omega); omega, hj2, rfl, by go_num, HRo.out.below T5.out, fun e he => El.ok_below (HOK.out e he) T5.out, by rw [HES.out, shortP_stop (by omega), shortP_stop (by omega)], HN.out.ca T5.out, HR.out.ca T5.out, Nat.le_trans hsz T5.out.size, bl_ca HBB.out T5.out⟩
        · omega
    · obtain rfl : i = m := by omega
      have hi1 : (i : Int) ≤ (i : Int) := by omega
      have z1 : wr.cell? ⟨w.heap.size, 1, none⟩ = some (.slice A i c) := HN.out.cell 1
      have f1 : wr.frozen? ⟨w.heap.size, 1, none⟩ = false := HN.out.frozen 1
      have gn : wr.grownBy (wr.setCell ⟨w.heap.size, 1, none⟩ (.slice A2 j c2)) (some w.heap.size) := only_setCell (World.grownBy.refl _ _) (.inl rfl) _
      have hN2 : Blk (wr.setCell ⟨w.heap.size, 1, none⟩ (.slice A2 j c2)) w.heap.size 26 #[.int .u64 sent, .slice A2 j c2] := by simpa using HN.out.set_ 1 (.slice A2 j c2)
      have y0 : (wr.setCell ⟨w.heap.size, 1, none⟩ (.slice A2 j c2)).cell? ⟨w.heap.size, 0, none⟩ = some (.int .u64 sent) := hN2.cell 0
      have y1 : (wr.setCell ⟨w.heap.size, 1, none⟩ (.slice A2 j c2)).cell? ⟨w.heap.size, 1, none⟩ = some (.slice A2 j c2) := hN2.cell 1
      have hR2 := Lib.hid (HR.out.apart gn (by omega))
      have hB2 := Lib.hid (bl_gr HBB.out gn (Nat.le_refl _))
      have hE : es.map El.p = shortP ps := by rw [HES.out, List.take_of_length_le (by rw [HL.out]; exact Nat.le_refl _)]
      have hrd : LP.rd (wr.setCell ⟨w.heap.size, 1, none⟩ (.slice A2 j c2)) AllB A2 j (shortP ps) := by
        rw [← hE]
        exact Ro.rd (HRo.out.kept gn (fun e => by have := (own_base' HRo.out w.heap.size e).1; omega)) (fun e he => El.ok_all (El.ok_old (HOK.out e he) (fun b hb => gn.block b (by omega) (fun e => by injection e with e; omega)))) (fun _ _ => trivial)
      have HC := Lib.hid (rcopy_any sent A2 j c2 (shortP ps) _ hrd (by omega) (fun p hp => by have := shortP_bytes ps p hp; omega))
      clear bb hrd hE
      go_wp2_with fail
      refine HC.out.mono ?_
      clear HC
      rintro e w2 ⟨A5, c5, rfl, hO5, q5⟩
      have hR5 := Lib.hid (hR2.out.ca q5)
      have HO5 := Lib.hid hO5
      have HB5 := Lib.hid (bl_ca hB2.out q5)
      have hz5 : w.heap.size + 2 ≤ (wr.setCell ⟨w.heap.size, 1, none⟩ (.slice A2 j c2)).heap.size := Nat.le_trans hsz gn.size
      clear q5 hO5 gn hN2 y0 y1 z1 f1
      generalize (wr.setCell ⟨w.heap.size, 1, none⟩ (.slice A2 j c2)).heap.size = zz at *
      go_wp2_with (refine wpList_store_blk rfl 26 (.tmp 2) (.tmp 32) rfl (w.heap.size + 1) 26 _ _ rfl rfl hR5.out rfl netI (by simp [Value.oneCell']) ?_; intro wz hZ gz)
      exact bodyPost_ret (res1 Try.results16 rfl hZ Try.underlying26 rfl netI) rfl ⟨A5, j, c5, rfl, (HO5.out.kept gz (by omega)).less (by omega), bl_gr HB5.out gz (by omega)⟩
end Go.Proofs.Ytnbcffnhgijmcaa
/- slices.IndexFunc over parcels. Conditions: the slice reads as these parcels; what is handed over answers for each and turns no memory that was there. -/
namespace Go.Proofs.Ytnbcffnhgijmcaa
open Go.RowKit
/-- what is handed over: a test of a parcel -/
def TestC (D : FuncId) (cap : Array Value) (f : PC → Bool) (G : World → Prop) : Prop :=
  ∀ (q : PC) (B : Option Addr) (n c : Nat) (W : World), G W → Calls Try.prog D (#[.agg #[.int .u64 q.num, .int .i64 q.frm, .int .i64 q.to, .slice B n c, .bool q.sp]] ++ cap) W fun e w' => e = .returned (.bool (f q)) ∧ Below W.heap.size W w'
def idxF (f : PC → Bool) (ps : List PC) : Int := if ps.any f then (ps.findIdx f : Int) else -1
theorem idxF_at {f : PC → Bool} {ps : List PC} {i : Nat} {p : PC} (hp : ps[i]? = some p) (hx : f p = true) (hlo : ∀ (k : Nat) (q : PC), k < i → ps[k]? = some q → f q = false) : idxF f ps = i := by
  obtain ⟨hl, he⟩ := List.getElem?_eq_some_iff.1 hp
  have h1 : ps.any f = true := List.any_eq_true.2 ⟨p, List.mem_of_getElem? hp, hx⟩
  have h2 : ps.findIdx f = i := (List.findIdx_eq hl).2 ⟨by rw [he]; exact hx, fun j hj => hlo j ps[j] hj (List.getElem?_eq_getElem (by omega))⟩
  unfold idxF
  rw [h1, h2]; rfl
theorem idxF_no {f : PC → Bool} {ps : List PC} (hlo : ∀ (k : Nat) (q : PC), k < ps.length → ps[k]? = some q → f q = false) : idxF f ps = -1 := by
  have h1 : ps.any f = false := List.any_eq_false.2 fun p hp => by
    obtain ⟨k, hk⟩ := List.mem_iff_getElem?.1 hp
    rw [hlo k p (List.getElem?_eq_some_iff.1 hk).1 hk]
    simp
  unfold idxF
  rw [h1]; rfl
set_option maxRecDepth 100000 in
set_option maxHeartbeats 4000000 in
theorem indexf_any (F : Nat → Prop) (A : Option Addr) (m c : Nat) (ps : List PC) (D : FuncId) (cap : Array Value) (f : PC → Bool) (w : World) (h : LP.rd w F A m ps) (hm : m ≤ 9223372036854775807)
    (hent : ∀ (args : Array Value) (w : World), (callFunc D args).run Try.prog w = .ok (.enter D args) w) (hD : TestC D cap f (fun W => Below w.heap.size w W)) :
    Calls Try.prog 30 #[.slice A m c, .func (.func D) #[] cap] w fun e w' => e = .returned (.int .i64 (idxF f ps)) ∧ Below w.heap.size w w' := by
  have HL := Lib.hid h.1
  have HEN := hent
  have HD := Lib.hid hD
  clear hent hD
  go_enter Try.func30, Try.ntmps30
  go_wp2_with fail
  go_loopg [8] m (fun g a wr => ∃ i : Nat, i + g = m ∧ a = .int .i64 i ∧ (∀ (k : Nat) (q : PC), k < i → ps[k]? = some q → f q = false) ∧ Below w.heap.size w wr)
  case atStart => exact ⟨0, by omega, rfl, fun k q hk => by omega, Below.refl _ _⟩
  case round =>
    obtain ⟨i, hig, rfl, hlo, bb⟩ := hrel
    have HLO := Lib.hid hlo
    have HBB := Lib.hid bb
    clear hlo
    by_cases hlt : i < m
    · have hi1 : (i : Int) < (m : Int) := by omega
      obtain ⟨p, q, B, n', c', rfl, hx, s1⟩ := LP_at (Lay.rd_below h bb) hlt
      have e0 := s1.c0
      have e1 := s1.c1
      have e2 := s1.c2
      have e3 := s1.c3
      have e4 := s1.c4
      have HX := Lib.hid hx
      have HC := Lib.hid (HD.out q B n' c' wr bb)
      clear hx s1 bb
      cases hq : f q
      · rw [hq] at HC
        have HF := Lib.hid (show ∀ (k : Nat) (r : PC), k < i + 1 → ps[k]? = some r → f r = false from fun k r hk hr => by
          rcases Nat.lt_or_ge k i with h1 | h1
          · exact HLO.out k r h1 hr
          · obtain rfl : k = i := by omega
            have h2 := HX.out
            rw [hr] at h2
            injection h2 with h2
            subst h2
            exact hq)
        clear hq
        go_wp2_with fail
        refine HC.out.mono ?_
        rintro e w2 ⟨rfl, q2⟩
        have b2 := bl_ca HBB.out q2
        clear q2 e0 e1 e2 e3 e4
        go_wp2
        go_roundg (gk - 1)
        · exact ⟨i + 1, by omega, by go_num, HF.out, b2⟩
        · omega
      · rw [hq] at HC
        have HF := Lib.hid (idxF_at HX.out hq HLO.out)
        clear hq
        go_wp2_with fail
        refine HC.out.mono ?_
        rintro e w2 ⟨rfl, q2⟩
        have b2 := bl_ca HBB.out q2
        clear q2 e0 e1 e2 e3 e4
        go_wp2
        go_ret
        exact ⟨ret_int (by rw [HF.out]), b2⟩
    · obtain rfl : i = m := by omega
      have hi1 : (i : Int) ≤ (i : Int) := by omega
      have HF := Lib.hid (idxF_no (fun k q hk => HLO.out k q (by rw [← HL.out]; exact hk)))
      clear bb
      go_wp2
      go_ret
      exact ⟨ret_int (by rw [HF.out]), HBB.out⟩
end Go.Proofs.Ytnbcffnhgijmcaa
/- Cells of a row stored side by side; clear of several parcels' places. Conditions: none. -/
namespace Go.Proofs.Ytnbcffnhgijmcaa
open Go.RowKit
theorem row_setCells {B g s n c : Nat} {e : TypeId} : ∀ (vs : List Value) (o : Nat) {w : World} {L : List Value}, w.ownsRow B e s (.slice (some ⟨g, 0, none⟩) n c) n L → o + vs.length ≤ L.length →
    (w.setCells g o vs).ownsRow B e s (.slice (some ⟨g, 0, none⟩) n c) n (L.take o ++ vs ++ L.drop (o + vs.length)) ∧ w.grownBy (w.setCells g o vs) (some g)
  | [], o, w, L, h, _ => by simp only [World.setCells, List.append_nil, List.length_nil, Nat.add_zero, List.take_append_drop]; exact ⟨h, World.grownBy.refl _ _⟩
  | v :: vs, o, w, L, h, hl => by
    simp only [List.length_cons] at hl
    have h1 := World.ownsRow.stored h o v
    have h2 := row_setCells vs (o + 1) h1.1 (by rw [List.length_set]; omega)
    have hL : (L.set o v).take (o + 1) ++ vs ++ (L.set o v).drop (o + 1 + vs.length) = L.take o ++ (v :: vs) ++ L.drop (o + (v :: vs).length) := by
      rw [List.take_add_one, List.take_set, List.set_eq_of_length_le (l := L.take o) (by rw [List.length_take]; omega), List.getElem?_set_self (by omega), List.drop_set_of_lt (by omega), List.length_cons, show o + (vs.length + 1) = o + 1 + vs.length from by omega]
      simp
    rw [hL] at h2
    exact ⟨h2.1, grown_setCells _ _ _ (World.grownBy.refl _ _)⟩
/-- one element of the row is another one -/
theorem Ro.setE {w : World} {B g n c i : Nat} {rs : List El} (h : Ro w B (some ⟨g, 0, none⟩) n c rs) (hi : i < n) (e : El) : Ro (w.setCells g (i * 5) e.cells) B (some ⟨g, 0, none⟩) n c (rs.set i e) ∧ w.grownBy (w.setCells g (i * 5) e.cells) (some g) := by
  have hl := h.len
  have h1 := row_setCells e.cells (i * 5) h (by rw [ecells_len, show e.cells.length = 5 from rfl, hl]; omega)
  refine ⟨?_, h1.2⟩
  have hs : rs.set i e = rs.take i ++ e :: rs.drop (i + 1) := by rw [List.set_eq_take_append_cons_drop, if_pos (by omega)]
  unfold Ro
  rw [hs, ecells_append]
  have h3 : ecells (e :: rs.drop (i + 1)) = e.cells ++ ecells (rs.drop (i + 1)) := rfl
  rw [h3, ecells_take, ecells_drop, ← List.append_assoc, show (i + 1) * 5 = i * 5 + e.cells.length from by rw [show e.cells.length = 5 from rfl]; omega]
  exact h1.1
def zerosP (k : Nat) : List Value := (Builtin.zeroCells (Value.agg #[.int .u64 0, .int .i64 0, .int .i64 0, .slice none 0 0, .bool false]).cells k).toList
theorem zerosP_len (k : Nat) : (zerosP k).length = k * 5 := by
  unfold zerosP Builtin.zeroCells
  rw [Array.length_toList, Array.size_map, Array.size_range]
  rfl
theorem zerosP_one (k : Nat) : ∀ v ∈ zerosP k, v.oneCell' = true := by
  intro v hv
  unfold zerosP Builtin.zeroCells at hv
  simp only [Array.mem_toList_iff, Array.mem_map] at hv
  obtain ⟨i, _, rfl⟩ := hv
  have h5 : i % 5 < 5 := Nat.mod_lt _ (by omega)
  show ((Value.agg #[.int .u64 0, .int .i64 0, .int .i64 0, .slice none 0 0, .bool false]).cells[i % 5]!).oneCell' = true
  generalize i % 5 = r at h5
  match r, h5 with
  | 0, _ => rfl
  | 1, _ => rfl
  | 2, _ => rfl
  | 3, _ => rfl
  | 4, _ => rfl
theorem clear_many {w : World} {g o k c : Nat} (hk : 0 < k) (hth : w.there g o (k * 5)) (ty : TypeId) : (Builtin.clear_ #[24] ty #[.slice (some ⟨g, o, none⟩) k c]).run Try.prog w = .ok (.tuple #[]) (w.setCells g o (zerosP k)) := by
  obtain ⟨k, rfl⟩ : ∃ j, k = j + 1 := ⟨k - 1, by omega⟩
  have hst := run_storeCells_cells (P := Try.prog) g o (zerosP (k + 1)) 0 w (fun j hj => by simpa using (hth j (by rw [zerosP_len] at hj; omega)).1) (fun j hj => by simpa using (hth j (by rw [zerosP_len] at hj; omega)).2) (zerosP_one _)
  simp only [Nat.add_zero] at hst
  have hz : (Builtin.zeroCells (Value.agg #[.int .u64 0, .int .i64 0, .int .i64 0, .slice none 0 0, .bool false]).cells (k + 1)).toList = zerosP (k + 1) := rfl
  simp [Builtin.clear_, run_underlying Try.underlying24, hz, hst]
end Go.Proofs.Ytnbcffnhgijmcaa
/- slices.DeleteFunc of parcels, in a row of the call's own. Conditions: the row is the call's own; what is handed over answers for each. -/
namespace Go.Proofs.Ytnbcffnhgijmcaa
open Go.RowKit
theorem filt_next {α : Type} {l : List α} {j : Nat} {x : α} (h : l[j]? = some x) (k : α → Bool) : (l.take (j + 1)).filter k = (l.take j).filter k ++ (if k x then [x] else []) := by
  rw [List.take_add_one, h, List.filter_append]
  cases hk : k x <;> simp [hk]
theorem drop_next {α : Type} {l r : List α} {j : Nat} (h : r.drop j = l.drop j) : r.drop (j + 1) = l.drop (j + 1) := by
  rw [← List.drop_drop, ← List.drop_drop, h]
theorem at_drop {α : Type} {l r : List α} {j : Nat} (h : r.drop j = l.drop j) : r[j]? = l[j]? := by
  have h1 : (r.drop j)[0]? = (l.drop j)[0]? := by rw [h]
  simpa [List.getElem?_drop] using h1
theorem take_set {α : Type} {r : List α} {i : Nat} {x : α} (h : i < r.length) : (r.set i x).take (i + 1) = r.take i ++ [x] := by
  rw [List.take_add_one, List.take_set, List.set_eq_of_length_le (by rw [List.length_take]; omega), List.getElem?_set_self h]
  rfl
def keepE (f : PC → Bool) (e : El) : Bool := !f e.p
set_option maxRecDepth 100000 in
set_option maxHeartbeats 8000000 in
theorem delf_any (g m c B : Nat) (es : List El) (D : FuncId) (cap : Array Value) (f : PC → Bool) (w : World) (hD : DO w B (some ⟨g, 0, none⟩) m c es) (hm : m ≤ 20000)
    (hent : ∀ (args : Array Value) (w : World), (callFunc D args).run Try.prog w = .ok (.enter D args) w) (hT : TestC D cap f (fun W => Kept w W g w.heap.size)) :
    Calls Try.prog 71 #[.slice (some ⟨g, 0, none⟩) m c, .func (.func D) #[] cap] w fun e w' => ∃ m2, e = .returned (.slice (some ⟨g, 0, none⟩) m2 c) ∧ DO w' B (some ⟨g, 0, none⟩) m2 c (es.filter (keepE f)) ∧ Kept w w' g w.heap.size := by
  have hmc := hD.row.cap_.1
  have hmc2 := hD.row.cap_.2
  have HLEN := Lib.hid hD.len
  have HIX := Lib.hid (indexf_any AllB (some ⟨g, 0, none⟩) m c (es.map El.p) D cap f w (hD.rd (fun _ _ => trivial)) (by omega) hent (fun q B n c W hb => hT q B n c W (Kept.of_below hb (Nat.le_refl _))))
  have HEN := hent
  have HT := Lib.hid hT
  have HD := Lib.hid hD
  clear hent hT hD
  cases hany : (es.map El.p).any f
  · rw [show idxF f (es.map El.p) = -1 from by unfold idxF; rw [hany]; rfl] at HIX
    have HF := Lib.hid (show es.filter (keepE f) = es from List.filter_eq_self.2 fun e he => by
      have h1 := List.any_eq_false.1 hany e.p (List.mem_map_of_mem he)
      simp [keepE, h1])
    clear hany
    go_enter Try.func71, Try.ntmps71
    go_wp2_with fail
    refine HIX.out.mono ?_
    rintro e w1 ⟨rfl, b1⟩
    go_wp2
    go_ret
    exact ⟨m, rfl, by rw [HF.out]; exact HD.out.below b1, Kept.of_below b1 (Nat.le_refl _)⟩
  · obtain ⟨i0, hi0⟩ : ∃ i0, i0 = (es.map El.p).findIdx f := ⟨_, rfl⟩
    rw [show idxF f (es.map El.p) = (i0 : Int) from by unfold idxF; rw [hany, hi0]; rfl] at HIX
    have hlt0 : i0 < m := by
      obtain ⟨p, hp, hx⟩ := List.any_eq_true.1 hany
      have := List.findIdx_lt_length_of_exists ⟨p, hp, hx⟩
      rw [List.length_map, HLEN.out] at this
      omega
    have HS := Lib.hid (show es.take i0 = (es.take (i0 + 1)).filter (keepE f) from by
      have hl : i0 < es.length := by rw [HLEN.out]; exact hlt0
      have he : es[i0]? = some es[i0] := List.getElem?_eq_getElem hl
      rw [filt_next he]
      have h1 : f es[i0].p = true := by
        have h2 : (es.map El.p).findIdx f < (es.map El.p).length := by rw [← hi0, List.length_map]; exact hl
        have := List.findIdx_getElem (xs := es.map El.p) (p := f) (w := h2)
        simp only [← hi0, List.getElem_map] at this
        exact this
      rw [show keepE f es[i0] = false from by simp [keepE, h1]]
      simp only [Bool.false_eq_true, if_false, List.append_nil]
      refine (List.filter_eq_self.2 fun e he' => ?_).symm
      obtain ⟨k, hk⟩ := List.mem_iff_getElem?.1 he'
      obtain ⟨hk1, hk2⟩ := List.getElem?_eq_some_iff.1 hk
      rw [List.length_take] at hk1
      have h3 : k < (es.map El.p).findIdx f := by omega
      have h4 := List.not_of_lt_findIdx h3
      rw [List.getElem_map] at h4
      rw [List.getElem_take] at hk2
      rw [hk2] at h4
      simpa [keepE] using h4)
    clear hany hi0
    have hne : ((i0 : Int) == -1) = false := by simp
    go_enter Try.func71, Try.ntmps71
    go_wp2_with fail
    refine HIX.out.mono ?_
    clear HIX
    rintro e w1 ⟨rfl, b1⟩
    go_wp2_with fail
    clear hne
    go_loopg [5, 6] m (fun gz a b wr => ∃ (i j : Nat) (rs : List El), a = .int .i64 i ∧ b = .int .i64 j ∧ m ≤ j + gz ∧ i < j ∧ j ≤ m ∧ Ro wr B (some ⟨g, 0, none⟩) m c rs ∧ rs.drop j = es.drop j ∧ rs.take i = (es.take j).filter (keepE f) ∧ Kept w wr g w.heap.size)
    case atStart => exact ⟨i0, i0 + 1, es, rfl, by go_num, by omega, by omega, by omega, HD.out.row.below b1, rfl, HS.out, Kept.of_below b1 (Nat.le_refl _)⟩
    case round =>
      clear b1 HS hlt0
      obtain ⟨i, j, rs, rfl, rfl, hgz, hij, hjm, hRo, hdr, htk, hk⟩ := hrel
      have HRo := Lib.hid hRo
      have HDR := Lib.hid hdr
      have HTK := Lib.hid htk
      have HK := Lib.hid hk
      clear hRo hdr htk hk
      by_cases hlt : j < m
      · have hj1 : (j : Int) < (m : Int) := by omega
        have hi1 : (i : Int) < (m : Int) := by omega
        obtain ⟨x, hx⟩ : ∃ x, es[j]? = some x := ⟨_, List.getElem?_eq_getElem (by rw [HLEN.out]; exact hlt)⟩
        obtain ⟨c0, c1, c2, c3, c4⟩ := HRo.out.cell ((at_drop HDR.out).trans hx)
        have HX := Lib.hid hx
        clear hx
        have HC := Lib.hid (HT.out x.p x.A x.n x.c)
        cases hf : f x.p
        · rw [hf] at HC
          have HKE := Lib.hid (show keepE f x = true from by simp [keepE, hf])
          clear hf
          go_wp2_with (refine wpList_store_blk rfl 29 (.tmp 7) (.tmp 25) rfl wr.heap.size 29 _ _ rfl rfl (Blk.new _ _ _) rfl parcelI (by simp [Value.oneCell']) ?_; intro wz hZ gz; have y0 : wz.cell? ⟨wr.heap.size, 0, none⟩ = some (.int .u64 x.p.num) := hZ.cell 0; have y1 : wz.cell? ⟨wr.heap.size, 1, none⟩ = some (.int .i64 x.p.frm) := hZ.cell 1; have y2 : wz.cell? ⟨wr.heap.size, 2, none⟩ = some (.int .i64 x.p.to) := hZ.cell 2; have y3 : wz.cell? ⟨wr.heap.size, 3, none⟩ = some (.slice x.A x.n x.c) := hZ.cell 3; have y4 : wz.cell? ⟨wr.heap.size, 4, none⟩ = some (.bool x.p.sp) := hZ.cell 4)
          have T1 := bl_gr (bl_al (Below.refl wr.heap.size wr) _) gz (Nat.le_refl _)
          refine (HC.out wz (HK.out.trans (Kept.of_below T1 HK.out.size))).mono ?_
          rintro e w3 ⟨rfl, q3⟩
          have T3 := bl_ca T1 q3
          have hZ3 := hZ.ca q3
          have z0 : w3.cell? ⟨wr.heap.size, 0, none⟩ = some (.int .u64 x.p.num) := hZ3.cell 0
          have z1 : w3.cell? ⟨wr.heap.size, 1, none⟩ = some (.int .i64 x.p.frm) := hZ3.cell 1
          have z2 : w3.cell? ⟨wr.heap.size, 2, none⟩ = some (.int .i64 x.p.to) := hZ3.cell 2
          have z3 : w3.cell? ⟨wr.heap.size, 3, none⟩ = some (.slice x.A x.n x.c) := hZ3.cell 3
          have z4 : w3.cell? ⟨wr.heap.size, 4, none⟩ = some (.bool x.p.sp) := hZ3.cell 4
          have hro3 := HRo.out.below T3
          have hth := hro3.there (o := i * 5) (k := 5) (by omega)
          have hse := hro3.setE (i := i) (by omega) x
          have HSE := Lib.hid (show Ro (w3.setCells g (i * 5) (#[.int .u64 x.p.num, .int .i64 x.p.frm, .int .i64 x.p.to, .slice x.A x.n x.c, .bool x.p.sp] : Array Value).toList) B (some ⟨g, 0, none⟩) m c (rs.set i x) ∧ w3.grownBy (w3.setCells g (i * 5) (#[.int .u64 x.p.num, .int .i64 x.p.frm, .int .i64 x.p.to, .slice x.A x.n x.c, .bool x.p.sp] : Array Value).toList) (some g) from hse)
          have HK3 := Lib.hid (HK.out.trans (Kept.of_below T3 HK.out.size))
          have hs3 : w.heap.size ≤ w3.heap.size := Nat.le_trans HK.out.size T3.size
          clear y0 y1 y2 y3 y4 c0 c1 c2 c3 c4 T1 T3 q3 hZ gz hse hro3
          go_wp2_with (refine wpList_store_mid rfl 29 (.tmp 33) (.tmp 32) rfl g (i * 5) #[.int .u64 x.p.num, .int .i64 x.p.frm, .int .i64 x.p.to, .slice x.A x.n x.c, .bool x.p.sp] rfl rfl hth parcelI (by simp [Value.oneCell']) ?_; generalize w3.setCells g (i * 5) (#[.int .u64 x.p.num, .int .i64 x.p.frm, .int .i64 x.p.to, .slice x.A x.n x.c, .bool x.p.sp] : Array Value).toList = w5 at *)
          go_roundg (gk - 1)
          · have hrl := HRo.out.len
            have HRO := HSE
            have hkn := HK3.out.trans (Kept.of_grown (b := g) HSE.out.2 hs3 (.inl rfl))
            exact ⟨i + 1, j + 1, rs.set i x, by go_num, by go_num, by omega, by omega, by omega, HRO.out.1, by rw [List.drop_set_of_lt (by omega)]; exact drop_next HDR.out, by rw [take_set (by omega), HTK.out, filt_next HX.out, HKE.out]; rfl, hkn⟩
          · omega
        · rw [hf] at HC
          have HKE := Lib.hid (show keepE f x = false from by simp [keepE, hf])
          clear hf
          go_wp2_with (refine wpList_store_blk rfl 29 (.tmp 7) (.tmp 25) rfl wr.heap.size 29 _ _ rfl rfl (Blk.new _ _ _) rfl parcelI (by simp [Value.oneCell']) ?_; intro wz hZ gz; have y0 : wz.cell? ⟨wr.heap.size, 0, none⟩ = some (.int .u64 x.p.num) := hZ.cell 0; have y1 : wz.cell? ⟨wr.heap.size, 1, none⟩ = some (.int .i64 x.p.frm) := hZ.cell 1; have y2 : wz.cell? ⟨wr.heap.size, 2, none⟩ = some (.int .i64 x.p.to) := hZ.cell 2; have y3 : wz.cell? ⟨wr.heap.size, 3, none⟩ = some (.slice x.A x.n x.c) := hZ.cell 3; have y4 : wz.cell? ⟨wr.heap.size, 4, none⟩ = some (.bool x.p.sp) := hZ.cell 4)
          have T1 := bl_gr (bl_al (Below.refl wr.heap.size wr) _) gz (Nat.le_refl _)
          refine (HC.out wz (HK.out.trans (Kept.of_below T1 HK.out.size))).mono ?_
          rintro e w3 ⟨rfl, q3⟩
          have HT3 := Lib.hid (bl_ca T1 q3)
          clear y0 y1 y2 y3 y4 c0 c1 c2 c3 c4 T1 q3 hZ gz
          go_wp2
          go_roundg (gk - 1)
          · exact ⟨i, j + 1, rs, rfl, by go_num, by omega, by omega, by omega, HRo.out.below HT3.out, drop_next HDR.out, by rw [HTK.out, filt_next HX.out, HKE.out]; simp, HK.out.trans (Kept.of_below HT3.out HK.out.size)⟩
          · omega
      · obtain rfl : j = m := by omega
        have hj1 : (j : Int) ≤ (j : Int) := by omega
        have hij1 : (i : Int) ≤ (j : Int) := by omega
        have hij2 : (i : Int) ≤ (c : Int) := by omega
        have hic : c ≠ i := by omega
        have hth := HRo.out.there (o := i * 5) (k := (j - i) * 5) (by omega)
        have hcl := clear_many (k := j - i) (c := c - i) (by omega) hth 0
        clear hth
        go_wp2_with fail
        go_ret
        have gz : wr.grownBy (wr.setCells g (i * 5) (zerosP (j - i))) (some g) := grown_setCells _ _ _ (World.grownBy.refl _ _)
        have hk : Kept w (wr.setCells g (i * 5) (zerosP (j - i))) g w.heap.size := HK.out.trans (Kept.of_grown (b := g) gz HK.out.size (.inl rfl))
        have hrow := Ro.past (zerosP (j - i)) (i * 5) (HRo.out.prefix_ (show i ≤ j by omega)) (Nat.le_refl _)
        rw [HTK.out, List.take_of_length_le (by rw [HLEN.out]; exact Nat.le_refl _)] at hrow
        exact ⟨i, rfl, ⟨hrow, fun e he => OwnB.at_ (HD.out.own e (List.mem_filter.1 he).1) (fun k e' => hk.block k ((HD.out.own e (List.mem_filter.1 he).1).base_ k e').2 (fun eq => own_ne_ro (HD.out.own e (List.mem_filter.1 he).1) HD.out.row (eq ▸ e'))), HD.out.apart.sublist List.filter_sublist⟩, hk⟩
end Go.Proofs.Ytnbcffnhgijmcaa
/- net.Drop's test of a parcel. Conditions: the two nodes lie in their boxes. -/
namespace Go.Proofs.Ytnbcffnhgijmcaa
open Go.RowKit
def dropB (f t : Int) (p : PC) : Bool := p.frm == f && p.to == t
set_option maxRecDepth 100000 in
theorem drop11_any (q : PC) (B : Option Addr) (n c : Nat) (f t : Int) (gf gt : Nat) (w : World) (hf : Blk w gf 3 #[.int .i64 f]) (ht : Blk w gt 3 #[.int .i64 t]) :
    Calls Try.prog 72 #[.agg #[.int .u64 q.num, .int .i64 q.frm, .int .i64 q.to, .slice B n c, .bool q.sp], .pointer (some ⟨gf, 0, none⟩), .pointer (some ⟨gt, 0, none⟩)] w fun e w' => e = .returned (.bool (dropB f t q)) ∧ Below w.heap.size w w' := by
  obtain ⟨r, hr⟩ : ∃ r, r = dropB f t q := ⟨_, rfl⟩
  rw [← hr]
  have HR := Lib.hid hr
  clear hr
  have b1 := bl_al (Below.refl w.heap.size w) (.cells #[.int .u64 q.num, .int .i64 q.frm, .int .i64 q.to, .slice B n c, .bool q.sp] 29)
  have bX := Blk.new w 29 #[.int .u64 q.num, .int .i64 q.frm, .int .i64 q.to, .slice B n c, .bool q.sp]
  have x1 := bX.cell 1
  have x2 := bX.cell 2
  have f0 := (hf.ca b1).cell 0
  have t0 := (ht.ca b1).cell 0
  simp at x1 x2 f0 t0
  cases h1 : (q.frm == f)
  · go_enter Try.func72, Try.ntmps72
    go_wp2
    go_ret
    exact ⟨ret_bool (by rw [HR.out]; simp [dropB, h1]), b1⟩
  · go_enter Try.func72, Try.ntmps72
    go_wp2
    go_ret
    exact ⟨ret_bool (by rw [HR.out]; simp [dropB, h1]), b1⟩
end Go.Proofs.Ytnbcffnhgijmcaa
/- slices.DeleteFunc of parcels, the row may be nil. Conditions: the row is the call's own; what is handed over answers for each. -/
namespace Go.Proofs.Ytnbcffnhgijmcaa
open Go.RowKit
set_option maxRecDepth 100000 in
set_option maxHeartbeats 4000000 in
theorem delg_any (A : Option Addr) (m c B : Nat) (es : List El) (D : FuncId) (cap : Array Value) (f : PC → Bool) (w : World) (hD : DO w B A m c es) (hm : m ≤ 20000) (hB : B ≤ w.heap.size)
    (hent : ∀ (args : Array Value) (w : World), (callFunc D args).run Try.prog w = .ok (.enter D args) w) (hT : TestC D cap f (fun W => ∀ k, k < B → W.heap[k]? = w.heap[k]?)) :
    Calls Try.prog 71 #[.slice A m c, .func (.func D) #[] cap] w fun e w' => ∃ m2, e = .returned (.slice A m2 c) ∧ DO w' B A m2 c (es.filter (keepE f)) ∧ (∀ k, k < B → w'.heap[k]? = w.heap[k]?) ∧ w.heap.size ≤ w'.heap.size ∧ w'.os = w.os ∧ w'.tape = w.tape ∧ w'.output = w.output := by
  rcases Nat.eq_zero_or_pos m with h0 | h0
  · subst h0
    have hes : es = [] := List.eq_nil_of_length_eq_zero hD.len
    subst hes
    have HIX := Lib.hid (indexf_any AllB A 0 c [] D cap f w (Lay.rd_nil A) (by omega) hent (fun q B' n c' W hb => hT q B' n c' W (fun k hk => hb.block k (by omega))))
    rw [show idxF f [] = -1 from rfl] at HIX
    have HD := Lib.hid hD
    clear hD hT
    go_enter Try.func71, Try.ntmps71
    go_wp2_with fail
    refine HIX.out.mono ?_
    rintro e w1 ⟨rfl, b1⟩
    go_wp2
    go_ret
    exact ⟨0, rfl, HD.out.below b1, fun k hk => b1.block k (by omega), b1.size, b1.os, b1.tape, b1.output⟩
  · obtain ⟨g, rfl, hg, hg2⟩ := hD.row.form h0
    refine (delf_any g m c B es D cap f w hD hm hent (fun q B' n c' W hk => hT q B' n c' W (fun k hkB => hk.block k (by omega) (by omega)))).mono ?_
    rintro e w' ⟨m2, rfl, h1, h2⟩
    exact ⟨m2, rfl, h1, fun k hk => h2.block k (by omega) (by omega), h2.size, h2.os, h2.tape, h2.output⟩
end Go.Proofs.Ytnbcffnhgijmcaa
