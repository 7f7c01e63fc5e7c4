/- bowspritlaw24.NetFills. Conditions: none. -/
import Derived.Test.YtnbcffnhgijmcaaNWakes
import Derived.ChangeShapes
namespace Go.Proofs.Ytnbcffnhgijmcaa
open Go.RowKit
theorem rd_store {w w' : World} {g B : Nat} {A : Option Addr} {m : Nat} {ps : List PC} (h : LP.rd w (fun b => B ≤ b) A m ps) (hg : w.grownBy w' (some g)) (hb : g < B) : LP.rd w' (fun b => B ≤ b) A m ps := Lay.rd_keep (fun b hF hl => hg.block b hl (fun e => by injection e with e; omega)) h
theorem send_same {sent : Int} {ps : List PC} (f t : Int) (bs : List UInt8) (h : chkB sent ps = true) : sendE sent ps f t bs = rsendE sent ps f t bs ∧ sendR sent ps f t bs = rsendR sent ps f t bs := by
  have h1 : sendE sent ps f t bs = rsendE sent ps f t bs := by unfold sendE rsendE; rw [h, if_pos rfl]
  refine ⟨h1, ?_⟩
  unfold sendR
  rw [h1]
  unfold rsendR rsendE withR
  cases pairB f t
  · rfl
  · by_cases hl : 60000 < bs.length
    · simp [hl]
    · simp only [hl, if_true, if_false]
theorem twin_same {sent : Int} {ps : List PC} (x : Int) (h : chkB sent ps = true) : twinE sent ps x = rtwinE sent ps x ∧ twinR sent ps x = rtwinR sent ps x := by
  have h1 : twinE sent ps x = rtwinE sent ps x := by unfold twinE rtwinE; rw [h, if_pos rfl]
  refine ⟨h1, ?_⟩
  unfold twinR
  rw [h1]
  unfold rtwinR rtwinE withR
  cases hasB ps x
  · rfl
  · simp only [if_true]
def fillP (n : Nat) : List PC := (List.range n).map fun (k : Nat) => ⟨(k : Int) + 1, 0, 1, [], false⟩
def fillE (n : Nat) : List El := (List.range n).map fun (k : Nat) => ⟨⟨(k : Int) + 1, 0, 1, [], false⟩, none, 0, 0⟩
theorem Ro.cap_ {w : World} {B : Nat} {A : Option Addr} {n c : Nat} {es : List El} (h : Ro w B A n c es) : n ≤ c ∧ c ≤ maxLen := by
  rcases h.2 with ⟨e, h0⟩ | ⟨g, cap, cur, e, _, _, h1, h2, _⟩
  · injection e with _ _ e2; subst e2; subst h0; exact ⟨Nat.le_refl _, by decide⟩
  · injection e with _ _ e2; subst e2; exact ⟨h1, h2⟩
theorem fillE_succ (n : Nat) : fillE (n + 1) = fillE n ++ [⟨⟨(n : Int) + 1, 0, 1, [], false⟩, none, 0, 0⟩] := by unfold fillE; rw [List.range_succ, List.map_append]; rfl
theorem fillE_p (n : Nat) : (fillE n).map El.p = fillP n := by unfold fillE fillP; rw [List.map_map]; rfl
theorem fillP_take {n k : Nat} (h : k ≤ n) : (fillP n).take k = fillP k := by unfold fillP; rw [← List.map_take, List.take_range, Nat.min_eq_left h]
theorem fillP_len (n : Nat) : (fillP n).length = n := by simp [fillP]
theorem goB_seg (s : Int) : ∀ (n a : Nat), ((a + n : Nat) : Int) ≤ s → goB s (a : Int) ((List.range n).map fun k => (⟨((a + k : Nat) : Int) + 1, 0, 1, [], false⟩ : PC)) = true
  | 0, _, _ => rfl
  | n + 1, a, h => by
    rw [List.range_succ_eq_map, List.map_cons, List.map_map]
    unfold goB
    have h2 := goB_seg s n (a + 1) (by omega)
    have e1 : (((a + 0 : Nat) : Int) + 1) = ((a + 1 : Nat) : Int) := by omega
    have e2 : ((fun k => (⟨((a + k : Nat) : Int) + 1, 0, 1, [], false⟩ : PC)) ∘ Nat.succ) = fun k => (⟨((a + 1 + k : Nat) : Int) + 1, 0, 1, [], false⟩ : PC) := by
      funext k
      show (⟨((a + (k + 1) : Nat) : Int) + 1, 0, 1, [], false⟩ : PC) = _
      rw [show a + (k + 1) = a + 1 + k from by omega]
    rw [e2]
    simp only [e1, h2, Bool.and_true]
    unfold parB
    dsimp only
    rw [decide_eq_true (show (a : Int) < ((a + 1 : Nat) : Int) by omega), decide_eq_true (show ((a + 1 : Nat) : Int) ≤ s by omega)]
    first | rfl | (simp [pairB])
theorem fill_chk {k : Nat} (h : k ≤ 20000) : chkB 20000 (fillP k) = true := by
  have h1 := goB_seg 20000 k 0 (by omega)
  have h2 : ((List.range k).map fun j => (⟨((0 + j : Nat) : Int) + 1, 0, 1, [], false⟩ : PC)) = fillP k := by
    unfold fillP
    refine List.map_congr_left fun j _ => ?_
    rw [Nat.zero_add]
  rw [h2] at h1
  unfold chkB
  rw [fillP_len, decide_eq_true (by omega), decide_eq_true (by omega)]
  exact h1
theorem fill_bytes {k : Nat} : ∀ p ∈ fillP k, p.bs.length ≤ 100000 := by
  intro p hp
  obtain ⟨j, _, rfl⟩ := List.mem_map.1 hp
  exact Nat.zero_le _
theorem fill_ok {w : World} {F : Nat → Prop} {k : Nat} : ∀ e ∈ fillE k, e.ok w F := by
  intro e he
  obtain ⟨j, _, rfl⟩ := List.mem_map.1 he
  exact ⟨Lay.rd_nil none, Nat.le_refl _, Nat.zero_le _⟩
/-- what is taken away -/
theorem less_of (x : Int) (hx : I64 x) : ∃ r : Int, ∃ d : Nat, Int.tmod x 3 = r ∧ -3 < r ∧ r < 3 ∧ Int.tmod (r + 3) 3 = (d : Int) ∧ d < 3 := by
  have h1 := Int.tmod_lt_of_pos x (show (0 : Int) < 3 from by omega)
  have h2 := Int.lt_tmod_of_pos x (show (0 : Int) < 3 from by omega)
  have h3 : Int.tmod (Int.tmod x 3 + 3) 3 = (Int.tmod x 3 + 3) % 3 := Int.tmod_eq_emod_of_nonneg (by omega)
  refine ⟨_, ((Int.tmod x 3 + 3) % 3).toNat, rfl, by omega, by omega, ?_, by omega⟩
  rw [h3]; omega
theorem send_both (A : Option Addr) (k c : Nat) (hk : k ≤ 20000) : ∃ (s : Int) (l : List PC) (E : Int), l.length ≤ 20001 ∧ (∀ W, LP.rd W AllB A k (fillP k) → Calls Try.prog 11 #[.agg #[.int .u64 20000, .slice A k c], .int .i64 2, .int .i64 3, .slice none 0 0] W fun e w' => ∃ A2 m2 c2, e = .returned (.tuple #[.agg #[.int .u64 s, .slice A2 m2 c2], .int .u64 s, .int .i64 E]) ∧ OutN w' W.heap.size A2 m2 c2 l ∧ Below W.heap.size W w') ∧ (∀ W, LP.rd W AllB A k (fillP k) → Calls Try.prog 12 #[.agg #[.int .u64 20000, .slice A k c], .int .i64 2, .int .i64 3, .slice none 0 0] W fun e w' => ∃ A2 m2 c2, e = .returned (.tuple #[.agg #[.int .u64 s, .slice A2 m2 c2], .int .u64 s, .int .i64 E]) ∧ OutN w' W.heap.size A2 m2 c2 l ∧ Below W.heap.size W w') := by
  have hc := fill_chk hk
  refine ⟨(rsendR 20000 (fillP k) 2 3 []).1, (rsendR 20000 (fillP k) 2 3 []).2, rsendE 20000 (fillP k) 2 3 [], ?_, fun W h => ?_, fun W h => ?_⟩
  · have hp : pairB 2 3 = true := by decide
    unfold rsendR withR
    rw [hp]
    simp only [if_true]
    split
    · simp
    · split <;> simp [fillP_len]
      omega
  · have h1 := send_any 20000 A k c (fillP k) 2 3 none 0 0 [] W h (by omega) (by omega) ⟨rfl, fun h => absurd h (by omega)⟩
    rw [(send_same 2 3 [] hc).1, (send_same 2 3 [] hc).2] at h1
    exact h1
  · exact rsend_any 20000 A k c (fillP k) 2 3 none 0 0 [] W h hk fill_bytes ⟨rfl, fun h => absurd h (by omega)⟩ (by omega) (by omega)
theorem twin_both (A : Option Addr) (k c : Nat) (hk : k ≤ 20000) : ∃ (s : Int) (l : List PC) (E : Int), l.length ≤ 20001 ∧ (∀ W, LP.rd W AllB A k (fillP k) → Calls Try.prog 13 #[.agg #[.int .u64 20000, .slice A k c], .int .u64 1] W fun e w' => ∃ A2 m2 c2, e = .returned (.tuple #[.agg #[.int .u64 s, .slice A2 m2 c2], .int .u64 s, .int .i64 E]) ∧ OutN w' W.heap.size A2 m2 c2 l ∧ Below W.heap.size W w') ∧ (∀ W, LP.rd W AllB A k (fillP k) → Calls Try.prog 14 #[.agg #[.int .u64 20000, .slice A k c], .int .u64 1] W fun e w' => ∃ A2 m2 c2, e = .returned (.tuple #[.agg #[.int .u64 s, .slice A2 m2 c2], .int .u64 s, .int .i64 E]) ∧ OutN w' W.heap.size A2 m2 c2 l ∧ Below W.heap.size W w') := by
  have hc := fill_chk hk
  refine ⟨(rtwinR 20000 (fillP k) 1).1, (rtwinR 20000 (fillP k) 1).2, rtwinE 20000 (fillP k) 1, ?_, fun W h => ?_, fun W h => ?_⟩
  · unfold rtwinR withR
    split
    · split <;> simp [fillP_len]
      omega
    · simp
  · have h1 := twin_any 20000 A k c (fillP k) 1 W h (by omega) (by omega)
    rw [(twin_same 1 hc).1, (twin_same 1 hc).2] at h1
    exact h1
  · exact rtwin_any 20000 A k c (fillP k) 1 W h hk fill_bytes (by omega) (by omega)
set_option maxRecDepth 100000 in
set_option maxHeartbeats 16000000 in
theorem fills_any (x : Int) (tw : Bool) (w : World) (hx : (Lit.int .i64 x).wf = true) : Calls Try.prog 3 #[.int .i64 x, .bool tw] w fun e w' => e = .returned (.bool true) ∧ Below w.heap.size w w' := by
  obtain ⟨r, d, hr, hr1, hr2, hd, hd3⟩ := less_of x (wf_i64 hx)
  obtain ⟨k, hk⟩ : ∃ k : Nat, k = 20000 - d := ⟨_, rfl⟩
  have hkd : (20000 : Int) - (d : Int) = (k : Int) := by omega
  have hk2 : k ≤ 20000 := by omega
  have HW := Lib.hid (wakes_any w)
  go_enter Try.func3, Try.ntmps3
  go_wp2_with fail
  refine HW.out.mono ?_
  clear HW
  rintro e w1 ⟨rfl, hb1⟩
  have bN := Blk.new w1 26 #[.int .u64 0, .slice none 0 0]
  have b2 := bl_al hb1 (.cells #[.int .u64 0, .slice none 0 0] 26)
  have hg1 : w.heap.size ≤ w1.heap.size := hb1.size
  have hsz : w1.heap.size + 1 ≤ (w1.alloc (.cells #[.int .u64 0, .slice none 0 0] 26)).heap.size := by simp
  clear hb1
  have HR := Lib.hid (And.intro hr hd)
  have HR2 := Lib.hid (And.intro hr1 (And.intro hr2 hkd))
  clear hr hd hr1 hr2 hkd hk
  go_wp2_with fail
  generalize w1.alloc (.cells #[.int .u64 0, .slice none 0 0] 26) = w2 at *
  generalize w1.heap.size = g at *
  go_loopg [15] 20000 (fun gz a wr => ∃ i A c, i + gz = 20000 ∧ a = .int .i64 i ∧ Ro wr (g + 1) A i c (fillE i) ∧ Blk wr g 26 #[.int .u64 0, .slice A i c] ∧ g + 1 ≤ wr.heap.size ∧ Below w.heap.size w wr)
  case atStart => exact ⟨0, none, 0, by omega, rfl, Ro.nil _ _, bN, hsz, b2⟩
  case round =>
    clear bN b2 hsz
    obtain ⟨i, A, c, hig, rfl, hRo, bN, hsz, bb⟩ := hrel
    have HN := Lib.hid bN
    have HRo := Lib.hid hRo
    have HBB := Lib.hid bb
    have z1 : wr.cell? ⟨g, 1, none⟩ = some (.slice A i c) := bN.cell 1
    clear bN bb hRo
    by_cases hlt : i < 20000
    · have hi1 : (i : Int) < 20000 := by omega
      have hi0 : (0 : Int) ≤ (i : Int) := by omega
      have T1 := bl_al (Below.refl wr.heap.size wr) (.cells #[.int .u64 ((i : Int) + 1), .int .i64 0, .int .i64 1, .slice none 0 0, .bool false] 29)
      go_wp2_with (at_builtin; refine wpList_appE rfl (.tmp 19) (.tmp 24) rfl (g + 1) A i c (fillE i) _ 1 1 [⟨⟨(i : Int) + 1, 0, 1, [], false⟩, none, 0, 0⟩] rfl rfl (HRo.out.below T1) (reads_blk (vs := #[.int .u64 ((i : Int) + 1), .int .i64 0, .int .i64 1, .slice none 0 0, .bool false]) (Blk.mk' rfl) rfl rfl) (by omega) (Nat.le_trans hsz T1.size) ?_; intro A8 c8 w8 o8 b8 k8; have hN8 := (HN.out.ca T1).below b8 (by omega); have y1 : w8.cell? ⟨g, 1, none⟩ = some (.slice A i c) := hN8.cell 1; have fy : w8.frozen? ⟨g, 1, none⟩ = false := hN8.frozen 1)
      have hg9 : w8.grownBy (w8.setCell ⟨g, 1, none⟩ (.slice A8 (i + 1) c8)) (some g) := only_setCell (World.grownBy.refl _ _) (.inl rfl) _
      have hN9 : Blk (w8.setCell ⟨g, 1, none⟩ (.slice A8 (i + 1) c8)) g 26 #[.int .u64 0, .slice A8 (i + 1) c8] := by simpa using hN8.set_ 1 (.slice A8 (i + 1) c8)
      have hR9 : Ro (w8.setCell ⟨g, 1, none⟩ (.slice A8 (i + 1) c8)) (g + 1) A8 (i + 1) c8 (fillE (i + 1)) := by rw [fillE_succ]; exact o8.kept hg9 (fun e => by have := (own_base' o8 g e).1; omega)
      have hB9 := bl_gr ((bl_ca HBB.out T1).trans (b8.mono (by omega))) hg9 hg1
      have hs9 := Nat.le_trans (Nat.le_trans hsz T1.size) (Nat.le_trans b8.size hg9.size)
      go_roundg (gk - 1)
      · exact ⟨i + 1, A8, c8, by omega, by go_num, hR9, hN9, hs9, hB9⟩
      · omega
    · obtain rfl : i = 20000 := by omega
      have hc : 20000 ≤ c ∧ c ≤ maxLen := HRo.out.cap_
      have hi1 : (20000 : Int) ≤ ((20000 : Nat) : Int) := by omega
      have hr := HR.out.1
      have hd := HR.out.2
      have hr1 := HR2.out.1
      have hr2 := HR2.out.2.1
      have hkd := HR2.out.2.2
      have hkc : (k : Int) ≤ (c : Int) := by omega
      have hN0 := HN.out
      have z0 : wr.cell? ⟨g, 0, none⟩ = some (.int .u64 0) := hN0.cell 0
      have f0 : wr.frozen? ⟨g, 0, none⟩ = false := hN0.frozen 0
      have hN1 : Blk (wr.setCell ⟨g, 0, none⟩ (.int .u64 20000)) g 26 #[.int .u64 20000, .slice A 20000 c] := by simpa using hN0.set_ 0 (.int .u64 20000)
      have v1 : (wr.setCell ⟨g, 0, none⟩ (.int .u64 20000)).cell? ⟨g, 1, none⟩ = some (.slice A 20000 c) := hN1.cell 1
      have fv : (wr.setCell ⟨g, 0, none⟩ (.int .u64 20000)).frozen? ⟨g, 1, none⟩ = false := hN1.frozen 1
      go_wp2_with fail
      have hNx : Blk ((wr.setCell ⟨g, 0, none⟩ (.int .u64 20000)).setCell ⟨g, 1, none⟩ (.slice A k c)) g 26 #[.int .u64 20000, .slice A k c] := by simpa using hN1.set_ 1 (.slice A k c)
      have gx : wr.grownBy ((wr.setCell ⟨g, 0, none⟩ (.int .u64 20000)).setCell ⟨g, 1, none⟩ (.slice A k c)) (some g) := only_setCell (p := ⟨g, 1, none⟩) (only_setCell (p := ⟨g, 0, none⟩) (World.grownBy.refl _ _) (.inl rfl) _) (.inl rfl) _
      have hBx := bl_gr HBB.out gx hg1
      have hRF : LP.rd ((wr.setCell ⟨g, 0, none⟩ (.int .u64 20000)).setCell ⟨g, 1, none⟩ (.slice A k c)) (fun b => b < ((wr.setCell ⟨g, 0, none⟩ (.int .u64 20000)).setCell ⟨g, 1, none⟩ (.slice A k c)).heap.size) A k (fillP k) := by
        have h1 := Ro.rd (F := AllB) (HRo.out.kept gx (fun e => by have := (own_base' HRo.out g e).1; omega)) fill_ok (fun _ _ => trivial)
        rw [fillE_p] at h1
        have h2 := Lay.rd_take h1 hk2
        rw [fillP_take hk2] at h2
        exact Lay.rd_weak (fun b _ h => h) h2
      obtain ⟨s, l, E, hl, hS, hT⟩ := send_both A k c hk2
      obtain ⟨s2, l2, E2, hl2, hS2, hT2⟩ := twin_both A k c hk2
      have HS := Lib.hid hS
      have HT := Lib.hid hT
      have HS2 := Lib.hid hS2
      have HT2 := Lib.hid hT2
      have hgx := hNx.lt
      have d0 : (E == E) = true := by simp
      have d1 : (s == s) = true := by simp
      have d2 : (E2 == E2) = true := by simp
      have d3 : (s2 == s2) = true := by simp
      clear hS hT hS2 hT2 gx hN1 v1 fv z0 f0 hN0 hkc hkd hr hd hr1 hr2 HR HR2 HRo HN HBB hc hi1 z1 hsz
      generalize (wr.setCell ⟨g, 0, none⟩ (.int .u64 20000)).setCell ⟨g, 1, none⟩ (.slice A k c) = wx at *
      refine (HS.out _ (rd_all hRF)).mono ?_
      rintro e w3 ⟨A3, m3, c3, rfl, hO3, q3⟩
      have hm3 : m3 ≤ 20001 := by have := hO3.len; omega
      have hB3 := bl_ca hBx q3
      have hN3 := hNx.ca q3
      have hg3 := hN3.lt
      go_wp2_with (refine wpList_store_blk rfl 26 (.tmp 7) (.tmp 41) rfl w3.heap.size 26 _ _ rfl rfl (Blk.new _ _ _) rfl netI (by simp [Value.oneCell']) ?_; intro w4 hZ4 g4; have hN4 := (hN3.ca (bl_al (Below.refl _ _) _)).apart g4 (by omega); have x0 : w4.cell? ⟨g, 0, none⟩ = some (.int .u64 20000) := hN4.cell 0; have x1 : w4.cell? ⟨g, 1, none⟩ = some (.slice A k c) := hN4.cell 1)
      have T4 := bl_gr (bl_al (Below.refl w3.heap.size w3) _) g4 (Nat.le_refl _)
      have hB4 := bl_ca hB3 T4
      have hR4 : LP.rd w4 (fun b => b < wx.heap.size) A k (fillP k) := Lay.rd_below hRF (bl_ca q3 T4)
      have hxg : wx.heap.size ≤ w3.heap.size := q3.size
      have hO4 : LP.rd w4 AllB A3 m3 l := rd_all (F := AllB) (Lay.rd_below (hO3.rd (fun _ _ => trivial)) T4)
      have h74 : w3.heap.size < w4.heap.size := hZ4.lt
      have hg73 : g < w3.heap.size := hg3
      have hw73 : w.heap.size ≤ w3.heap.size := hB3.size
      generalize w3.heap.size = g7 at *
      refine (HT.out _ (rd_all hR4)).mono ?_
      rintro e w5 ⟨A5, m5, c5, rfl, hO5, q5⟩
      have hm5 : m5 ≤ 20001 := by have := hO5.len; omega
      have hB5 := bl_ca hB4 q5
      have hZ5 := hZ4.ca q5
      have hN5 := hN4.ca q5
      have hg5 := hN5.lt
      have h75 := hZ5.lt
      have hR5 : LP.rd w5 (fun b => b < wx.heap.size) A k (fillP k) := Lay.rd_below hR4 q5
      have hO45 : LP.rd w5 AllB A3 m3 l := Lay.rd_below hO4 q5
      cases tw
      · go_wp2_with (refine wpList_store_blk rfl 26 (.tmp 10) (.tmp 47) rfl w5.heap.size 26 _ _ rfl rfl (Blk.new _ _ _) rfl netI (by simp [Value.oneCell']) ?_; intro w6 hZ6 g6; have hZ76 := (hZ5.ca (bl_al (Below.refl _ _) _)).apart g6 (by omega); have y0 : w6.cell? ⟨g7, 0, none⟩ = some (.int .u64 s) := hZ76.cell 0; have y1 : w6.cell? ⟨g7, 1, none⟩ = some (.slice A3 m3 c3) := hZ76.cell 1; have x0 : w6.cell? ⟨w5.heap.size, 0, none⟩ = some (.int .u64 s) := hZ6.cell 0; have x1 : w6.cell? ⟨w5.heap.size, 1, none⟩ = some (.slice A5 m5 c5) := hZ6.cell 1)
        have T6 := bl_gr (bl_al (Below.refl w5.heap.size w5) _) g6 (Nat.le_refl _)
        have hOm : LP.rd w6 AllB A3 m3 l := Lay.rd_below hO45 T6
        have hOw : LP.rd w6 AllB A5 m5 l := Lay.rd_below (hO5.rd (fun _ _ => trivial)) T6
        have hB6 := bl_ca hB5 T6
        refine (rsame_any s A3 m3 c3 l s A5 m5 c5 l _ hOm hOw (by omega)).mono ?_
        rintro e w7 ⟨rfl, q7⟩
        have hB7 := bl_ca hB6 q7
        go_wp2
        go_ret
        exact ⟨ret_bool (by simp), hB7⟩
      · go_wp2_with (refine wpList_store_blk rfl 26 (.tmp 10) (.tmp 47) rfl w5.heap.size 26 _ _ rfl rfl (Blk.new _ _ _) rfl netI (by simp [Value.oneCell']) ?_; intro w6 hZ6 g6; have hZ76 := (hZ5.ca (bl_al (Below.refl _ _) _)).apart g6 (by omega); have hN6 := (hN5.ca (bl_al (Below.refl _ _) _)).apart g6 (by omega); have x0 : w6.cell? ⟨g, 0, none⟩ = some (.int .u64 20000) := hN6.cell 0; have x1 : w6.cell? ⟨g, 1, none⟩ = some (.slice A k c) := hN6.cell 1)
        have T6 := bl_gr (bl_al (Below.refl w5.heap.size w5) _) g6 (Nat.le_refl _)
        have hB6 := bl_ca hB5 T6
        have hR6 : LP.rd w6 (fun b => b < wx.heap.size) A k (fillP k) := Lay.rd_below hR5 T6
        have h106 : w5.heap.size < w6.heap.size := hZ6.lt
        have h76 := hZ76.lt
        have hw10 : w.heap.size ≤ w5.heap.size := hB5.size
        clear hO5 hO3 hO4 hO45 hm3 hm5
        generalize w5.heap.size = g10 at *
        refine (HS2.out _ (rd_all hR6)).mono ?_
        rintro e w7 ⟨A7, m7, c7, rfl, hO7, q7⟩
        have hm7 : m7 ≤ 20001 := by have := hO7.len; omega
        have hB7 := bl_ca hB6 q7
        have hZ77 := hZ76.ca q7
        have hZ107 := hZ6.ca q7
        have hN7 := hN6.ca q7
        have hR7 : LP.rd w7 (fun b => b < wx.heap.size) A k (fillP k) := Lay.rd_below hR6 q7
        go_wp2_with (refine wpList_store_blk rfl 26 (.tmp 7) (.tmp 54) rfl g7 26 _ _ rfl rfl hZ77 rfl netI (by simp [Value.oneCell']) ?_; intro w8 hZ8 g8; have hN8 := hN7.apart g8 (by omega); have hZ108 := hZ107.apart g8 (by omega); have x0 : w8.cell? ⟨g, 0, none⟩ = some (.int .u64 20000) := hN8.cell 0; have x1 : w8.cell? ⟨g, 1, none⟩ = some (.slice A k c) := hN8.cell 1)
        have hO8 : LP.rd w8 (fun b => w6.heap.size ≤ b) A7 m7 l2 := rd_store (hO7.rd (fun _ h => h)) g8 (by omega)
        have hB8 := bl_gr hB7 g8 hw73
        have hR8 : LP.rd w8 (fun b => b < wx.heap.size) A k (fillP k) := Lay.rd_keep (fun b hF hl => g8.block b hl (fun e => by injection e with e; omega)) hR7
        have h68 : w6.heap.size ≤ w8.heap.size := Nat.le_trans q7.size g8.size
        refine (HT2.out _ (rd_all hR8)).mono ?_
        rintro e w9 ⟨A9, m9, c9, rfl, hO9, q9⟩
        have hB9 := bl_ca hB8 q9
        have hZ79 := hZ8.ca q9
        have hZ109 := hZ108.ca q9
        have hO89 := Lay.rd_below hO8 q9
        go_wp2_with (refine wpList_store_blk rfl 26 (.tmp 10) (.tmp 60) rfl g10 26 _ _ rfl rfl hZ109 rfl netI (by simp [Value.oneCell']) ?_; intro w10 hZA gA; have hZ7A := hZ79.apart gA (by omega); have y0 : w10.cell? ⟨g7, 0, none⟩ = some (.int .u64 s2) := hZ7A.cell 0; have y1 : w10.cell? ⟨g7, 1, none⟩ = some (.slice A7 m7 c7) := hZ7A.cell 1; have x0 : w10.cell? ⟨g10, 0, none⟩ = some (.int .u64 s2) := hZA.cell 0; have x1 : w10.cell? ⟨g10, 1, none⟩ = some (.slice A9 m9 c9) := hZA.cell 1)
        have hOm : LP.rd w10 (fun b => w6.heap.size ≤ b) A7 m7 l2 := rd_store hO89 gA (by omega)
        have hOw : LP.rd w10 (fun b => w8.heap.size ≤ b) A9 m9 l2 := rd_store (hO9.rd (fun _ h => h)) gA (by omega)
        have hB10 := bl_gr hB9 gA hw10
        refine (rsame_any s2 A7 m7 c7 l2 s2 A9 m9 c9 l2 _ (rd_all hOm) (rd_all hOw) (by omega)).mono ?_
        rintro e w11 ⟨rfl, q11⟩
        have hB11 := bl_ca hB10 q11
        go_wp2
        go_ret
        exact ⟨ret_bool (by simp), hB11⟩
end Go.Proofs.Ytnbcffnhgijmcaa
