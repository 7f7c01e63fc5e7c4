import Derived.Test.YtdmfbmpllfkcaaaRowMath
import Derived.Test.YtdmfbmpllfkcaaaWakes1
import Derived.Test.YtdmfbmpllfkcaaaSame
import Derived.Deep.RegionHeld3
import Derived.Test.YtdmfbmpllfkcaaaFrame
namespace Go.Proofs.Ytdmfbmpllfkcaaa
open Go.RowKit
theorem beB_mod (b x : Nat) : beB b (x % 256 ^ b) = beB b x := by
  unfold beB
  apply List.map_congr_left
  intro k hk
  have hk : k < b := by simpa using hk
  apply UInt8.toNat_inj.1
  simp only [UInt8.toNat_ofNat']
  have e : 256 ^ b = 256 ^ (b - 1 - k) * (256 * 256 ^ k) := by
    rw [show b = (b - 1 - k) + (1 + k) by omega]
    have e2 : (b - 1 - k) + (1 + k) - 1 - k = b - 1 - k := by omega
    rw [e2, Nat.pow_add, Nat.pow_add, Nat.pow_one]
  rw [e, Nat.mod_mul_right_div_self, show (2 : Nat) ^ 8 = 256 from rfl, Nat.mod_mul_right_mod]
/-- how many bytes the k-th number has -/
def wd (k : Nat) : Nat := if k = 0 then 2 else if k = 1 then 4 else 8
theorem vb_add1m (x : UInt8) : Value.int .u8 (((x.toNat : Int) + 1) % 256) = vb (x + 1) := by
  unfold vb
  simp
def eight : List UInt8 := [1, 2, 3, 4, 5, 6, 7, 8]
theorem OwnB.lt_ {w : World} {A : Option Addr} {B n c : Nat} {bs : List UInt8} (h : OwnB w B A n c bs) : ∀ g, A = some ⟨g, 0, none⟩ → g < w.heap.size := by
  rintro g rfl
  rcases h.2 with ⟨e, _⟩ | ⟨g', cap, cur, e, _, hh, _⟩
  · cases e
  · injection e with e1
    injection e1 with e1
    injection e1 with e1
    subst e1
    rcases Nat.lt_or_ge g w.heap.size with h | h
    · exact h
    · rw [Array.getElem?_eq_none h] at hh; cases hh
set_option maxRecDepth 100000 in
set_option maxHeartbeats 4000000 in
theorem octetWeighs_walk (A : Option Addr) (n c : Nat) (xs : List UInt8) (x : Nat) (w : World) (ha : RdB w A n xs) (hc1 : n ≤ c) (hc2 : c ≤ 9223372036854775807) (hx : x < M64) :
    Calls Try.prog 6 #[.slice A n c, .int .u64 (x : Nat)] w fun e w' => e = .returned (.bool true) ∧ Below w.heap.size w w' := by
  by_cases h1 : n ≤ 3000
  · have HXM := Lib.hid hx
    have HX16 := Lib.hid (show IntKind.u16.wrap (x : Int) = ((x % 65536 : Nat) : Int) from by simp [IntKind.wrap, IntKind.bits, IntKind.signed])
    clear hx
    go_enter Try.func6, Try.ntmps6
    go_wp2_with fail
    refine (wakes1_any w).mono ?_
    rintro e w1 ⟨rfl, b1⟩
    have ha1 := ha.below b1
    clear ha
    go_wp2_with fail
    refine (behind_any A none n c 0 0 xs [] w1 ha1 RdB.nil (by omega)).mono ?_
    rintro e w2 ⟨A2, c2, rfl, ho2, q2⟩
    rw [List.append_nil, Nat.add_zero] at ho2
    have b2 := b1.trans (q2.mono b1.size)
    have ha2 := ha1.below q2
    replace ho2 := ho2.rd
    clear ha1 q2 b1
    go_wp2_with fail
    have r8 := RdB.lit w2 eight #[.int .u8 1, .int .u8 2, .int .u8 3, .int .u8 4, .int .u8 5, .int .u8 6, .int .u8 7, .int .u8 8] rfl 5 8 rfl (0, 0)
    have ho3 := ho2.alloc (.cells #[.int .u8 1, .int .u8 2, .int .u8 3, .int .u8 4, .int .u8 5, .int .u8 6, .int .u8 7, .int .u8 8] 5)
    have ha3 := ha2.alloc (.cells #[.int .u8 1, .int .u8 2, .int .u8 3, .int .u8 4, .int .u8 5, .int .u8 6, .int .u8 7, .int .u8 8] 5)
    have b3 := b2.alloc b2.size (.cells #[.int .u8 1, .int .u8 2, .int .u8 3, .int .u8 4, .int .u8 5, .int .u8 6, .int .u8 7, .int .u8 8] 5)
    clear ho2 ha2 b2
    generalize w2.alloc (.cells #[.int .u8 1, .int .u8 2, .int .u8 3, .int .u8 4, .int .u8 5, .int .u8 6, .int .u8 7, .int .u8 8] 5) = w3 at *
    refine (behind_any A _ n c 8 8 xs eight w3 ha3 r8 (by omega)).mono ?_
    rintro e w4 ⟨A4, c4, rfl, ho4, q4⟩
    have b4 := b3.trans (q4.mono b3.size)
    have ho24 := ho3.below q4
    have hp4 := ho4.cap
    have ht4 := ho4.rd
    have hh4 : RdB w4 A4 n xs := by
      have := ht4.take (k := n) (by omega)
      rwa [List.take_append_of_le_length (by rw [ha3.len]; exact Nat.le_refl _), List.take_of_length_le (by rw [ha3.len]; exact Nat.le_refl _)] at this
    clear ho3 ha3 b3 q4 r8 ho4
    go_wp2_with fail
    rw [HX16.out]
    refine (Put16_any A4 n c4 xs (x % 65536) w4 hh4 (by omega) (Nat.mod_lt _ (by decide))).mono ?_
    rintro e w5 ⟨S0, d0, rfl, p0, q5⟩
    rw [show (65536 : Nat) = 256 ^ 2 from by decide, beB_mod] at p0
    have k5 := q5
    have hh5 := hh4.below q5
    have l0 := p0.lt_
    clear q5
    go_wp2_with fail
    rw [show ((x : Int) % 4294967296) = ((x % 4294967296 : Nat) : Int) from by simp]
    refine (Put32_any A4 n c4 xs (x % 4294967296) w5 hh5 (by omega) (Nat.mod_lt _ (by decide))).mono ?_
    rintro e w6 ⟨S1, d1, rfl, p1, q6⟩
    rw [show (4294967296 : Nat) = 256 ^ 4 from by decide, beB_mod] at p1
    have k6 := k5.trans (q6.mono k5.size)
    have hh6 := hh5.below q6
    have l1 := p1.lt_
    have p06 := p0.below q6
    have s45 := k5.size
    have s56 := q6.size
    clear q6 p0 hh5 k5
    go_wp2_with fail
    refine (Put64_any A4 n c4 xs x w6 hh6 (by omega) HXM.out).mono ?_
    rintro e w7 ⟨S2, d2, rfl, p2, q7⟩
    have k7 := k6.trans (q7.mono k6.size)
    have l2 := p2.lt_
    have p07 := p06.below q7
    have p17 := p1.below q7
    have s67 := q7.size
    clear q7 p06 p1 hh6 k6
    go_wp2
    have hbG := Blk.new w7 42 #[.slice S0 (n + 2) d0, .slice S1 (n + 4) d1, .slice S2 (n + 8) d2]
    replace p2 := p2.alloc (.cells #[.slice S0 (n + 2) d0, .slice S1 (n + 4) d1, .slice S2 (n + 8) d2] 42)
    replace p07 := p07.alloc (.cells #[.slice S0 (n + 2) d0, .slice S1 (n + 4) d1, .slice S2 (n + 8) d2] 42)
    replace p17 := p17.alloc (.cells #[.slice S0 (n + 2) d0, .slice S1 (n + 4) d1, .slice S2 (n + 8) d2] 42)
    replace k7 := k7.alloc k7.size (.cells #[.slice S0 (n + 2) d0, .slice S1 (n + 4) d1, .slice S2 (n + 8) d2] 42)
    generalize w7.alloc (.cells #[.slice S0 (n + 2) d0, .slice S1 (n + 4) d1, .slice S2 (n + 8) d2] 42) = w8 at *
    generalize hG : w7.heap.size = G at *
    have h45 : w4.heap.size ≤ G := by omega
    obtain ⟨SA, hSA⟩ : ∃ SA : Nat → Option Addr, SA 0 = S0 ∧ SA 1 = S1 ∧ SA 2 = S2 := ⟨fun k => if k = 0 then S0 else if k = 1 then S1 else S2, rfl, rfl, rfl⟩
    obtain ⟨DC, hDC⟩ : ∃ DC : Nat → Nat, DC 0 = d0 ∧ DC 1 = d1 ∧ DC 2 = d2 := ⟨fun k => if k = 0 then d0 else if k = 1 then d1 else d2, rfl, rfl, rfl⟩
    obtain ⟨BB, hBB⟩ : ∃ BB : Nat → Nat, BB 0 = w4.heap.size ∧ BB 1 = w5.heap.size ∧ BB 2 = w6.heap.size := ⟨fun k => if k = 0 then w4.heap.size else if k = 1 then w5.heap.size else w6.heap.size, rfl, rfl, rfl⟩
    have HOW : Hid (∀ j, j < 3 → OwnB w8 (BB j) (SA j) (n + wd j) (DC j) (xs ++ beB (wd j) x)) := by
      intro j hj
      have : j = 0 ∨ j = 1 ∨ j = 2 := by omega
      rcases this with rfl | rfl | rfl
      · rw [hBB.1, hSA.1, hDC.1]; exact p07
      · rw [hBB.2.1, hSA.2.1, hDC.2.1]; exact p17
      · rw [hBB.2.2, hSA.2.2, hDC.2.2]; exact p2
    have HLT : Hid (∀ j, j < 3 → ∀ g, SA j = some ⟨g, 0, none⟩ → g < G ∧ ∀ i, j < i → i < 3 → g < BB i) := by
      intro j hj g hg
      have : j = 0 ∨ j = 1 ∨ j = 2 := by omega
      rcases this with rfl | rfl | rfl
      · rw [hSA.1] at hg
        have := l0 g hg
        refine ⟨by omega, fun i h1 h2 => ?_⟩
        have : i = 1 ∨ i = 2 := by omega
        rcases this with rfl | rfl
        · rw [hBB.2.1]; omega
        · rw [hBB.2.2]; omega
      · rw [hSA.2.1] at hg
        have := l1 g hg
        refine ⟨by omega, fun i h1 h2 => ?_⟩
        have : i = 2 := by omega
        subst this
        rw [hBB.2.2]; omega
      · rw [hSA.2.2] at hg
        have := l2 g hg
        exact ⟨by omega, fun i h1 h2 => by omega⟩
    have HBB : Hid (∀ j, j < 3 → w4.heap.size ≤ BB j) := by
      intro j hj
      have : j = 0 ∨ j = 1 ∨ j = 2 := by omega
      rcases this with rfl | rfl | rfl
      · rw [hBB.1]; omega
      · rw [hBB.2.1]; omega
      · rw [hBB.2.2]; omega
    have HCG : Hid (∀ (W : World), Blk W G 42 #[.slice S0 (n + 2) d0, .slice S1 (n + 4) d1, .slice S2 (n + 8) d2] → ∀ k, k < 3 → W.cell? ⟨G, k, none⟩ = some (.slice (SA k) (n + wd k) (DC k))) := by
      intro W hW k hk
      have : k = 0 ∨ k = 1 ∨ k = 2 := by omega
      rcases this with rfl | rfl | rfl
      · rw [hSA.1, hDC.1]; exact hW.cell 0
      · rw [hSA.2.1, hDC.2.1]; exact hW.cell 1
      · rw [hSA.2.2, hDC.2.2]; exact hW.cell 2
    clear hSA hDC hBB l0 l1 l2 p2 p07 p17 s45 s56 s67 hG
    generalize (#[.slice S0 (n + 2) d0, .slice S1 (n + 4) d1, .slice S2 (n + 8) d2] : Array Value) = cG at *
    go_loopg [39] 3 (fun g s wr => ∃ k : Nat, k + g ≤ 3 ∧ 3 ≤ k + g ∧ s = .int .i64 k ∧ Blk wr G 42 cG ∧ (∀ j, k ≤ j → j < 3 → OwnB wr (BB j) (SA j) (n + wd j) (DC j) (xs ++ beB (wd j) x)) ∧ Below w4.heap.size w4 wr)
    case atStart => exact ⟨0, by omega, by omega, rfl, hbG, fun j _ hj => HOW.out j hj, k7⟩
    case round =>
      clear hbG k7 HOW
      obtain ⟨k, hk1, hk2, rfl, hbG, hown, hbw⟩ := hrel
      have HOWN := Lib.hid hown
      clear hown
      obtain ⟨g1, rfl⟩ : ∃ g1, g1 = gk := ⟨_, rfl⟩
      obtain ⟨w9, rfl⟩ : ∃ w9, w9 = wr := ⟨_, rfl⟩
      by_cases hk : k < 3
      · have hidx : ∀ w, (Instr.index 43 (.agg #[.int .i64 2, .int .i64 4, .int .i64 8]) (.int .i64 (k : Int))).run Try.prog w = .ok (.int .i64 (wd k : Nat)) w := by
          intro w
          have : k = 0 ∨ k = 1 ∨ k = 2 := by omega
          rcases this with rfl | rfl | rfl <;> rfl
        have hwd1 : 1 ≤ wd k := by unfold wd; split <;> (try split) <;> omega
        have hwd8 : wd k ≤ 8 := by unfold wd; split <;> (try split) <;> omega
        have e0 : w9.drew.cell? ⟨G, k, none⟩ = some (.slice (SA k) (n + wd k) (DC k)) := HCG.out w9 hbG k hk
        have hok := HOWN.out k (Nat.le_refl _) hk
        have hbD : Below w4.heap.size w4 w9.drew := hbw.drew
        have ra := ho24.below hbD
        have rk : RdB w9.drew (SA k) (n + wd k) (xs ++ beB (wd k) x) := hok.rd
        have hGl : G < w9.drew.heap.size := hbG.lt
        go_wp2
        go_region_held3 (fun w' => w'.cell? ⟨G, k, none⟩ = some (.slice (SA k) (n + wd k) (DC k))) (first | go_keep | exact eA | exact eB | exact eC)
          (first
            | (go_at_call 28; refine (refbytes_any x (wd k) _ HXM.out hwd1 hwd8).mono ?_; rintro e wa ⟨Ab, cb, rfl, hob, qb⟩; have eA := (qb.cell (p := ⟨G, k, none⟩) hGl).trans e0)
            | (go_at_call 15; refine (behind_any A2 Ab n c2 (wd k) cb xs (beB (wd k) x) wa (ra.below qb) hob.rd (by omega)).mono ?_; rintro e wb ⟨Ac, cc, rfl, hoc, qc⟩; have eB := (qc.cell (p := ⟨G, k, none⟩) (Nat.lt_of_lt_of_le hGl qb.size)).trans eA)
            | (go_at_call 18; refine (same_any (SA k) Ac (n + wd k) (DC k) (n + wd k) cc (xs ++ beB (wd k) x) (xs ++ beB (wd k) x) wb ((rk.below qb).below qc) hoc.rd (by omega)).mono ?_; rintro e wc ⟨rfl, q, rfl⟩; rw [show (xs ++ beB (wd k) x == xs ++ beB (wd k) x) = true from beq_self_eq_true _]; have eC : (wb.drewN q).cell? ⟨G, k, none⟩ = some (.slice (SA k) (n + wd k) (DC k)) := eB))
        have q9 : Below w9.heap.size w9 (wb.drewN q) := below_drewN ((((Below.refl _ w9).drew).trans qb).trans (qc.mono qb.size)) q
        have hbG2 := hbG.below q9 hbG.lt
        have hb2 := hbw.trans (q9.mono hbw.size)
        have HOWN2 : Hid (∀ j, k ≤ j → j < 3 → OwnB (wb.drewN q) (BB j) (SA j) (n + wd j) (DC j) (xs ++ beB (wd j) x)) := fun j h1 h2 => (HOWN.out j h1 h2).below q9
        clear q9 hbG hbw HOWN qb qc hob hoc eA eB eC e0 hok hbD ra rk hidx hGl
        generalize wb.drewN q = w10 at *
        clear wb wa
        have e1 := HCG.out w10 hbG2 k hk
        go_wp2
        go_loopg [57] (n + wd k) (fun g s wr => ∃ (i : Nat) (zs : List UInt8), i + g ≤ n + wd k ∧ n + wd k ≤ i + g ∧ s = .int .i64 i ∧ Blk wr G 42 cG ∧ OwnB wr (BB k) (SA k) (n + wd k) (DC k) zs ∧ (∀ j, k + 1 ≤ j → j < 3 → OwnB wr (BB j) (SA j) (n + wd j) (DC j) (xs ++ beB (wd j) x)) ∧ Below w4.heap.size w4 wr)
        case atStart => exact ⟨0, _, by omega, by omega, rfl, hbG2, HOWN2.out k (Nat.le_refl _) hk, fun j h1 h2 => HOWN2.out j (by omega) h2, hb2⟩
        case round =>
          clear hbG2 hb2 HOWN2 e1
          obtain ⟨i, zs, hi1, hi2, rfl, hbG, hok, hown, hbw⟩ := hrel
          have HOWN := Lib.hid hown
          clear hown
          by_cases hi : i < n + wd k
          · have e1 := HCG.out wr hbG k hk
            have hb4 := HBB.out k hk
            obtain ⟨g, hg, hgB, hgl, hcg, hfg, hst⟩ := hok.at_ i hi
            have hL := HLT.out k hk g hg
            have HL := Lib.hid hL
            rw [hg] at e1 hok hst
            generalize zs.getD i 0 = y at *
            have hcg' : wr.cell? ⟨g, i, none⟩ = some (.int .u8 (y.toNat : Int)) := hcg
            have HST := Lib.hid hst
            have HG := Lib.hid hg
            clear hst hcg hg hok hL
            go_wp2
            go_roundg (gk - 1)
            · exact ⟨i + 1, _, by omega, by omega, by go_num, hbG.far (p := ⟨g, i, none⟩) (by simp; have := HL.out.1; omega) _, (by rw [HG.out]; exact HST.out _ _ (vb_add1m y)), fun j a b => (HOWN.out j a b).far (p := ⟨g, i, none⟩) (HL.out.2 j (by omega) b) _, hbw.setCell (p := ⟨g, i, none⟩) (by simp; omega) _⟩
            · omega
          · go_wp2
            go_roundg (g1 - 1)
            · exact ⟨k + 1, by omega, by omega, by go_num, hbG, HOWN.out, hbw⟩
            · omega
      · go_wp2_with fail
        have r8 := RdB.lit w9 eight #[.int .u8 1, .int .u8 2, .int .u8 3, .int .u8 4, .int .u8 5, .int .u8 6, .int .u8 7, .int .u8 8] rfl 5 8 rfl (0, 0)
        have hx1 := (ho24.below hbw).alloc (.cells #[.int .u8 1, .int .u8 2, .int .u8 3, .int .u8 4, .int .u8 5, .int .u8 6, .int .u8 7, .int .u8 8] 5)
        have hx2 := (ht4.below hbw).alloc (.cells #[.int .u8 1, .int .u8 2, .int .u8 3, .int .u8 4, .int .u8 5, .int .u8 6, .int .u8 7, .int .u8 8] 5)
        have hx3 := (b4.trans (hbw.mono b4.size)).alloc (Nat.le_trans b4.size hbw.size) (.cells #[.int .u8 1, .int .u8 2, .int .u8 3, .int .u8 4, .int .u8 5, .int .u8 6, .int .u8 7, .int .u8 8] 5)
        generalize w9.alloc (.cells #[.int .u8 1, .int .u8 2, .int .u8 3, .int .u8 4, .int .u8 5, .int .u8 6, .int .u8 7, .int .u8 8] 5) = wx at *
        refine (behind_any A2 _ n c2 8 8 xs eight wx hx1 r8 (by omega)).mono ?_
        rintro e wy ⟨Ay, cy, rfl, hoy, qy⟩
        have hx4 := hx2.below qy
        have hx5 := hx3.trans (qy.mono hx3.size)
        have hx6 := hoy.rd
        clear hoy qy hx1 hx2 hx3 r8
        go_wp2_with fail
        refine (same_any A4 Ay (n + 8) c4 (n + 8) cy (xs ++ eight) (xs ++ eight) wy hx4 hx6 (by omega)).mono ?_
        rintro e wz ⟨rfl, q, rfl⟩
        rw [show (xs ++ eight == xs ++ eight) = true from beq_self_eq_true _]
        go_wp2
        go_ret
        exact ⟨rfl, below_drewN hx5 q⟩
  · have h2' : 3000 < n := by omega
    have h3' : n ≤ 9223372036854775807 := by omega
    clear h1 ha hx
    go_enter Try.func6, Try.ntmps6
    go_wp2_with fail
    refine (wakes1_any w).mono ?_
    rintro e w1 ⟨rfl, b1⟩
    go_wp2
    go_ret
    exact ⟨rfl, b1⟩
theorem octetWeighs_walkF (A : Option Addr) (n c : Nat) (xs : List UInt8) (x : Int) (w : World) (ha : RdB w A n xs) (hc1 : n ≤ c) (hc2 : c ≤ 9223372036854775807) (hx : (Lit.int .u64 x).wf = true) :
    Calls Try.prog 6 #[.slice A n c, .int .u64 x] w fun e w' => e = .returned (.bool true) ∧ Below w.heap.size w w' := by
  obtain ⟨h1, h2⟩ := wf_u64 hx
  obtain ⟨y, rfl⟩ := Int.eq_ofNat_of_zero_le h1
  exact octetWeighs_walk A n c xs y w ha hc1 hc2 (by unfold M64; omega)
end Go.Proofs.Ytdmfbmpllfkcaaa
