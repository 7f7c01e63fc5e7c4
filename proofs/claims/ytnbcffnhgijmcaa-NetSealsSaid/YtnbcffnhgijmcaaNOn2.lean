/- net.on, whole. Conditions: the slice reads as these parcels; what is handed over keeps to its contract. -/
import Derived.Test.YtnbcffnhgijmcaaNOn
namespace Go.Proofs.Ytnbcffnhgijmcaa
open Go.RowKit
set_option maxRecDepth 100000 in
set_option maxHeartbeats 8000000 in
theorem on_any (sent : Int) (A : Option Addr) (m c : Nat) (ps : List PC) (x : Int) (D : FuncId) (cap : Array Value) (E s : Int) (l : List PC) (K : World → Prop) (Z : World → List El → Prop) (w : World) (h : LP.rd w AllB A m ps) (hc : chkB sent ps = true)
    (hent : ∀ (args : Array Value) (w : World), (callFunc D args).run Try.prog w = .ok (.enter D args) w)
    (hK : ∀ w1 w2 r, w.heap.size ≤ r → r < w.heap.size + 6 → K w1 → w1.grownBy w2 (some r) → K w2)
    (hKZ : ∀ w1 w2 r es, w.heap.size ≤ r → r < w.heap.size + 6 → Z w1 es → w1.grownBy w2 (some r) → Z w2 es) (hz : E ≠ 0 → s = 0 ∧ l = []) (hno : hasB ps x = false → E = 4 ∧ ∀ w', Below w.heap.size w w' → K w')
    (hD : ∀ W i, Below w.heap.size w W → W.heap.size = w.heap.size + 4 → Blk W (w.heap.size + 3) 26 #[.int .u64 0, .slice none 0 0] → Low ps x i → hasB ps x = true → DoI D cap W W.heap.size (W.heap.size + 2) sent m ps i (fun er w' => er = E ∧ K w' ∧ Blk w' (w.heap.size + 3) 26 #[.int .u64 0, .slice none 0 0]) (fun w' s' l' => s' = s ∧ l'.map El.p = l ∧ Z w' l')) :
    Calls Try.prog 47 #[.agg #[.int .u64 sent, .slice A m c], .int .u64 x, .func (.func D) #[] cap] w fun e w' => ∃ A2 m2 c2, e = .returned (.tuple #[.agg #[.int .u64 s, .slice A2 m2 c2], .int .i64 E]) ∧ (∃ es, DO w' w.heap.size A2 m2 c2 es ∧ es.map El.p = l ∧ (E = 0 → Z w' es)) ∧ K w' := by
  obtain ⟨r1, r2⟩ := chk_rng hc
  have hlen := h.1
  have bb := Below.refl w.heap.size w
  have bN := Blk.new w 26 #[.int .u64 sent, .slice A m c]
  replace bb := bl_al bb (.cells #[.int .u64 sent, .slice A m c] 26)
  replace bN := bN.ca (bl_al (Below.refl _ _) (.cells #[.int .u64 x] 23))
  have bX : Blk ((w.alloc (.cells #[.int .u64 sent, .slice A m c] 26)).alloc (.cells #[.int .u64 x] 23)) (w.heap.size + 1) 23 #[.int .u64 x] := Blk.mk' (by simp only [World.size_alloc])
  replace bb := bl_al bb (.cells #[.int .u64 x] 23)
  replace bN := bN.ca (bl_al (Below.refl _ _) (.cells #[.func (.func D) #[] cap] 83))
  replace bX := bX.ca (bl_al (Below.refl _ _) (.cells #[.func (.func D) #[] cap] 83))
  have bD : Blk (((w.alloc (.cells #[.int .u64 sent, .slice A m c] 26)).alloc (.cells #[.int .u64 x] 23)).alloc (.cells #[.func (.func D) #[] cap] 83)) (w.heap.size + 2) 83 #[.func (.func D) #[] cap] := Blk.mk' (by simp only [World.size_alloc])
  replace bb := bl_al bb (.cells #[.func (.func D) #[] cap] 83)
  replace bN := bN.ca (bl_al (Below.refl _ _) (.cells #[.int .u64 0, .slice none 0 0] 26))
  replace bX := bX.ca (bl_al (Below.refl _ _) (.cells #[.int .u64 0, .slice none 0 0] 26))
  replace bD := bD.ca (bl_al (Below.refl _ _) (.cells #[.int .u64 0, .slice none 0 0] 26))
  have bR : Blk ((((w.alloc (.cells #[.int .u64 sent, .slice A m c] 26)).alloc (.cells #[.int .u64 x] 23)).alloc (.cells #[.func (.func D) #[] cap] 83)).alloc (.cells #[.int .u64 0, .slice none 0 0] 26)) (w.heap.size + 3) 26 #[.int .u64 0, .slice none 0 0] := Blk.mk' (by simp only [World.size_alloc])
  replace bb := bl_al bb (.cells #[.int .u64 0, .slice none 0 0] 26)
  have hsz : w.heap.size + 4 ≤ ((((w.alloc (.cells #[.int .u64 sent, .slice A m c] 26)).alloc (.cells #[.int .u64 x] 23)).alloc (.cells #[.func (.func D) #[] cap] 83)).alloc (.cells #[.int .u64 0, .slice none 0 0] 26)).heap.size := by simp only [World.size_alloc]; omega
  have hWsz : ((((w.alloc (.cells #[.int .u64 sent, .slice A m c] 26)).alloc (.cells #[.int .u64 x] 23)).alloc (.cells #[.func (.func D) #[] cap] 83)).alloc (.cells #[.int .u64 0, .slice none 0 0] 26)).heap.size = w.heap.size + 4 := by simp only [World.size_alloc]
  have HW := Lib.hid (fun W (q : Below w.heap.size w W) (hsz : W.heap.size = w.heap.size + 4) (b1 : Blk W (w.heap.size + 1) 23 #[.int .u64 x]) (b2 : Blk W (w.heap.size + 2) 83 #[.func (.func D) #[] cap]) (b3 : Blk W (w.heap.size + 3) 26 #[.int .u64 0, .slice none 0 0]) =>
    with_any sent A m c ps _ _ (fun er w' => er = E ∧ K w' ∧ Blk w' (w.heap.size + 3) 26 #[.int .u64 0, .slice none 0 0]) (fun w' s' l' => s' = s ∧ l'.map El.p = l ∧ Z w' l') W (Lay.rd_below h q) (by omega) hc (Go.Proofs.enters_of Try.func65 (by kernel_rfl) rfl)
      (on1_doc sent m ps x D cap W (w.heap.size + 1) (w.heap.size + 2) _ _ (chk_rise hc) (by omega) hent b1 b2 (fun hh w' q' => ⟨(hno hh).1.symm, (hno hh).2 w' (q.trans (q'.mono (by omega))), b3.ca q'⟩) (fun i hi hh => hD W i q hsz b3 hi hh))
      (fun er w1 w2 hj hg => ⟨hj.1, hK w1 w2 _ (by omega) (by omega) hj.2.1 hg, hj.2.2.apart hg (by omega)⟩) (fun s es w1 w2 hy hg => ⟨hy.1, hy.2.1, hKZ w1 w2 _ es (by omega) (by omega) hy.2.2 hg⟩))
  have HZ := Lib.hid hz
  have HK := Lib.hid hK
  have HKZ := Lib.hid hKZ
  clear hc hent hK hKZ hz hno hD h hlen
  go_enter Try.func47, Try.ntmps47
  go_wp2_with fail
  generalize ((((w.alloc (.cells #[.int .u64 sent, .slice A m c] 26)).alloc (.cells #[.int .u64 x] 23)).alloc (.cells #[.func (.func D) #[] cap] 83)).alloc (.cells #[.int .u64 0, .slice none 0 0] 26)) = w1 at *
  refine (HW.out w1 bb hWsz bX bD bR).mono ?_
  rintro e w2 ⟨er, ⟨rfl, hk, hb3⟩, hs2, ⟨hne, rfl⟩ | ⟨hE, s', A2, m2, c2, es2, rfl, hd, rfl, rfl, hzz⟩⟩
  · obtain ⟨rfl, rfl⟩ := HZ.out hne
    have KR := Lib.hid hb3
    have HKK := Lib.hid hk
    have HNE := Lib.hid hne
    clear hb3 hk hne
    go_wp2_with (refine wpList_store_blk rfl 26 (.tmp 6) (.tmp 11) rfl (w.heap.size + 3) 26 _ _ rfl rfl KR.out rfl netI (by simp [Value.oneCell']) ?_; intro wz hZ gz)
    exact bodyPost_ret (res2 Try.results47 rfl rfl hZ Try.underlying26 rfl netI) rfl ⟨none, 0, 0, rfl, ⟨[], DO.nil _ _, rfl, fun h => absurd h HNE.out⟩, HK.out _ _ _ (by omega) (by omega) HKK.out gz⟩
  · subst hE
    have KR := Lib.hid hb3
    have HKK := Lib.hid hk
    have HD := Lib.hid hd
    have HZZ := Lib.hid hzz
    clear hb3 hk hd hzz
    go_wp2_with (refine wpList_store_blk rfl 26 (.tmp 6) (.tmp 11) rfl (w.heap.size + 3) 26 _ _ rfl rfl KR.out rfl netI (by simp [Value.oneCell']) ?_; intro wz hZ gz)
    exact bodyPost_ret (res2 Try.results47 rfl rfl hZ Try.underlying26 rfl netI) rfl ⟨A2, m2, c2, rfl, ⟨es2, (HD.out.kept gz (by omega)).less (by omega), rfl, HKZ.out _ _ _ _ (by omega) (by omega) HZZ.out gz⟩, HK.out _ _ _ (by omega) (by omega) HKK.out gz⟩
end Go.Proofs.Ytnbcffnhgijmcaa
