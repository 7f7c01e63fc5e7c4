/- The law OctetReads: whatever a reader is asked for, it answers as the reference. Conditions: none but how the arguments lie. -/
import Derived.Test.YtdmfbmpllfkcaaaRefRaw
import Derived.Test.YtdmfbmpllfkcaaaWakes1
import Derived.Test.YtdmfbmpllfkcaaaRefWeighs
import Derived.Test.YtdmfbmpllfkcaaaSame
import Derived.Deep.RegionHeld3
namespace Go.Proofs.Ytdmfbmpllfkcaaa
open Go.RowKit
/-- l reads as these asks: the i-th is K i, N i. -/
def RdA (w : World) (L : Option Addr) (nl : Nat) (K N : Nat → Int) : Prop :=
  ∀ i, i < nl → ∃ a : Addr, L = some a ∧ a.block < w.heap.size ∧ w.cell? (a.add (i * 2)) = some (.int .i64 (K i)) ∧ w.cell? ⟨(a.add (i * 2)).block, (a.add (i * 2)).off + 1, none⟩ = some (.int .i64 (N i)) ∧
    (-9223372036854775808 ≤ K i ∧ K i ≤ 9223372036854775807) ∧ (-9223372036854775808 ≤ N i ∧ N i ≤ 9223372036854775807)
theorem RdA.below {w w' : World} {L : Option Addr} {nl : Nat} {K N : Nat → Int} {B : Nat} (h : RdA w L nl K N) (hb : Below B w w') (hB : B = w.heap.size) : RdA w' L nl K N := by
  intro i hi
  obtain ⟨a, e, h1, h2, h3, h4⟩ := h i hi
  subst hB
  exact ⟨a, e, Nat.lt_of_lt_of_le h1 hb.size, (hb.cell (by rw [Addr.add]; split <;> exact h1)).trans h2, (hb.cell (by rw [Addr.add]; split <;> exact h1)).trans h3, h4⟩
theorem OwnB.lt2_ {w : World} {A : Option Addr} {B n c : Nat} {bs : List UInt8} (h : OwnB w B A n c bs) : ∀ g, A = some ⟨g, 0, none⟩ → g < w.heap.size := by
  rintro g rfl
  rcases h.2 with ⟨e, _⟩ | ⟨g', cap, cur, e, _, hh, _⟩
  · cases e
  · injection e with e1
    injection e1 with e1
    injection e1 with e1
    subst e1
    rcases Nat.lt_or_ge g w.heap.size with h | h
    · exact h
    · rw [Array.getElem?_eq_none h] at hh; cases hh
theorem xor_vb (y : UInt8) : ∃ b : UInt8, Value.int .u8 (bits .xor .u8 (y.toNat : Int) 170) = vb b := by
  have h : ∀ k : Fin 256, 0 ≤ bits .xor .u8 ((k.val : Nat) : Int) 170 ∧ bits .xor .u8 ((k.val : Nat) : Int) 170 < 256 := by decide +kernel
  obtain ⟨h1, h2⟩ := h ⟨y.toNat, y.toNat_lt⟩
  simp only at h1 h2
  generalize bits .xor .u8 (y.toNat : Int) 170 = z at *
  obtain ⟨z, rfl⟩ := Int.eq_ofNat_of_zero_le h1
  refine ⟨UInt8.ofNat z, ?_⟩
  unfold vb
  rw [UInt8.toNat_ofNat_of_lt' (show z < 256 by omega)]
theorem rdO_le (bs : List UInt8) (p : Nat) (why m : Int) : (rdO bs p why m).length ≤ bs.length := by
  unfold rdO
  split
  · rw [List.length_take, List.length_drop]; omega
  · simp
theorem wv_wrap (l : List UInt8) : IntKind.u64.wrap (wv l : Nat) = (wv l : Nat) := by
  have h : wv l < 18446744073709551616 := Nat.mod_lt _ (by decide)
  simp [IntKind.wrap, IntKind.bits, IntKind.signed]
  omega
theorem kind6 (kk : Int) : ∃ q : Nat, q < 6 ∧ wrap64 ((IntKind.u64.wrap kk).tmod 6) = (q : Int) := by
  have h0 : 0 ≤ IntKind.u64.wrap kk := by simp [IntKind.wrap, IntKind.bits, IntKind.signed]; omega
  obtain ⟨z, hz⟩ := Int.eq_ofNat_of_zero_le h0
  rw [hz]
  refine ⟨z % 6, Nat.mod_lt _ (by decide), ?_⟩
  have h6 : z % 6 < 6 := Nat.mod_lt _ (by decide)
  rw [show ((z : Int).tmod 6) = ((z % 6 : Nat) : Int) from rfl]
  generalize z % 6 = y at *
  unfold wrap64
  omega
set_option maxRecDepth 100000 in
set_option maxHeartbeats 4000000 in
theorem octetReads_walk (A : Option Addr) (n c : Nat) (xs : List UInt8) (L : Option Addr) (nl cl : Nat) (K N : Nat → Int) (w : World) (ha : RdB w A n xs) (hc1 : n ≤ c) (hc2 : c ≤ 9223372036854775807) (hL : RdA w L nl K N) (hl1 : nl ≤ cl) (hl2 : cl ≤ 9223372036854775807) :
    Calls Try.prog 8 #[.slice A n c, .slice L nl cl] w fun e w' => e = .returned (.bool true) ∧ Below w.heap.size w w' := by
  by_cases h1 : n ≤ 3000
  · by_cases h2 : nl ≤ 200
    · go_enter Try.func8, Try.ntmps8
      go_wp2_with fail
      refine (wakes1_any w).mono ?_
      rintro e w1 ⟨rfl, b1⟩
      have ha1 := ha.below b1
      have b12 : w.heap.size ≤ w1.heap.size := b1.size
      go_wp2_with fail
      refine (behind_any A none n c 0 0 xs [] w1 ha1 RdB.nil (by omega)).mono ?_
      rintro e w2 ⟨A2, c2, rfl, ho2, q2⟩
      rw [List.append_nil, Nat.add_zero] at ho2
      have b2 := b1.trans (q2.mono b1.size)
      clear ha1 q2 b1
      go_wp2_with fail
      refine (read_any A2 n c2 xs w2 ho2.rd (by omega)).mono ?_
      rintro e w3 ⟨R, O, d, rfl, hRB, hOB, hr, q3⟩
      have hoM := ho2.below q3
      have b3 := b2.trans (q3.mono b2.size)
      have HG2 := Lib.hid ho2.lt2_
      have HOBH := Lib.hid hOB
      clear hOB
      go_wp2
      have hbM := Blk.new w3 58 #[.slice A n c, .int .i64 0, .int .i64 0]
      replace hr := hr.below (((Below.refl _ _).alloc (Nat.le_refl _) (.cells #[.slice A n c, .int .i64 0, .int .i64 0] 58)))
      replace b3 := b3.alloc b3.size (.cells #[.slice A n c, .int .i64 0, .int .i64 0] 58)
      replace hoM := hoM.alloc (.cells #[.slice A n c, .int .i64 0, .int .i64 0] 58)
      have h2M : w2.heap.size ≤ w3.heap.size := q3.size
      have hwR : w.heap.size ≤ R := Nat.le_trans b2.size hRB
      have hwM : w.heap.size ≤ w3.heap.size := Nat.le_trans b2.size q3.size
      generalize w3.alloc (.cells #[.slice A n c, .int .i64 0, .int .i64 0] 58) = w4 at *
      generalize w3.heap.size = M at *
      clear ho2 q3 b2
      go_loopg [40] n (fun g s wr => ∃ (i : Nat) (zs : List UInt8), i + g ≤ n ∧ n ≤ i + g ∧ s = .int .i64 i ∧ Rdr wr R O n d xs 0 0 ∧ Blk wr M 58 #[.slice A n c, .int .i64 0, .int .i64 0] ∧ OwnB wr w1.heap.size A2 n c2 zs ∧ Below w.heap.size w wr)
      case atStart => exact ⟨0, _, by omega, by omega, rfl, hr, hbM, hoM, b3⟩
      case round =>
        clear hr hbM hoM b3
        obtain ⟨i, zs, hi1, hi2, rfl, hr, hbM, hoM, hbw⟩ := hrel
        by_cases hi : i < n
        · obtain ⟨g, hg, hgB, hgl, hcg, hfg, hst⟩ := hoM.at_ i hi
          have hgl2 := HG2.out g hg
          subst hg
          generalize zs.getD i 0 = y at *
          have hcg' : wr.cell? ⟨g, i, none⟩ = some (.int .u8 (y.toNat : Int)) := hcg
          have HST := Lib.hid hst
          clear hst hcg
          obtain ⟨yb, hyb⟩ := xor_vb y
          have HYB := Lib.hid hyb
          clear hyb
          go_wp2
          go_roundg (gk - 1)
          · exact ⟨i + 1, _, by omega, by omega, by go_num, hr.grown (row := some g) (only_setCell (World.grownBy.refl wr (some g)) (p := ⟨g, i, none⟩) (.inl rfl) _) (by intro e; injection e with e; omega) (.inr (by intro e; have := HOBH.out g e; omega)), hbM.far (p := ⟨g, i, none⟩) (by simp; omega) _, HST.out _ _ HYB.out, hbw.setCell (p := ⟨g, i, none⟩) (by simp; omega) _⟩
          · omega
        · obtain rfl : n = i := by omega
          clear hoM HG2 h2M
          go_wp2
          have hbW := Blk.new wr 59 #[.int .i64 1, .int .i64 2, .int .i64 4, .int .i64 8]
          replace hr := hr.below (((Below.refl _ _).alloc (Nat.le_refl _) (.cells #[.int .i64 1, .int .i64 2, .int .i64 4, .int .i64 8] 59)))
          replace hbw := hbw.alloc hbw.size (.cells #[.int .i64 1, .int .i64 2, .int .i64 4, .int .i64 8] 59)
          replace hbM := hbM.alloc (.cells #[.int .i64 1, .int .i64 2, .int .i64 4, .int .i64 8] 59)
          generalize wr.alloc (.cells #[.int .i64 1, .int .i64 2, .int .i64 4, .int .i64 8] 59) = w5 at *
          generalize wr.heap.size = V at *
          go_loopg [53] nl (fun g s wr => ∃ (i p : Nat) (why : Int), i + g ≤ nl ∧ nl ≤ i + g ∧ s = .int .i64 i ∧ Rdr wr R O n d xs p why ∧ Blk wr M 58 #[.slice A n c, .int .i64 (p : Int), .int .i64 why] ∧ Blk wr V 59 #[.int .i64 1, .int .i64 2, .int .i64 4, .int .i64 8] ∧ Below w.heap.size w wr)
          case atStart => exact ⟨0, 0, 0, by omega, by omega, rfl, hr, hbM, hbW, hbw⟩
          case round =>
            clear hr hbM hbW hbw
            obtain ⟨i, p, why, hi1, hi2, rfl, hr, hbM, hbV, hbw⟩ := hrel
            by_cases hi : i < nl
            · obtain ⟨a, rfl, hal, ek, en, ⟨kb1, kb2⟩, nb1, nb2⟩ := (hL.below hbw rfl) i hi
              generalize K i = kk at *
              generalize N i = nn at *
              obtain ⟨q, hq6, hq⟩ := kind6 kk
              have ha5 := ha.below hbw
              have hb6 := hbw.alloc hbw.size (.cells #[.int .i64 kk, .int .i64 nn] 61)
              have ha6 := ha5.alloc (.cells #[.int .i64 kk, .int .i64 nn] 61)
              have hr6 := hr.below ((Below.refl _ _).alloc (Nat.le_refl _) (.cells #[.int .i64 kk, .int .i64 nn] 61))
              have hbM6 := hbM.alloc (.cells #[.int .i64 kk, .int .i64 nn] 61)
              have hbV6 := hbV.alloc (.cells #[.int .i64 kk, .int .i64 nn] 61)
              have hbT6 := Blk.new wr 61 #[.int .i64 kk, .int .i64 nn]
              have m0 : (wr.alloc (.cells #[.int .i64 kk, .int .i64 nn] 61)).cell? ⟨M, 0, none⟩ = some (.slice A n c) := hbM6.cell 0
              have m1 : (wr.alloc (.cells #[.int .i64 kk, .int .i64 nn] 61)).cell? ⟨M, 1, none⟩ = some (.int .i64 (p : Int)) := hbM6.cell 1
              have m2 : (wr.alloc (.cells #[.int .i64 kk, .int .i64 nn] 61)).cell? ⟨M, 2, none⟩ = some (.int .i64 why) := hbM6.cell 2
              have hple := hr.le
              have hRM := hr.blk.ne_ hbM (by decide)
              have hRV := hr.blk.ne_ hbV (by decide)
              have hVM := hbV.ne_ hbM (by decide)
              clear ha hbw hr hbM hbV hL ha5
              have hqc : q = 0 ∨ q = 1 ∨ q = 2 ∨ q = 3 ∨ q = 4 ∨ q = 5 := by omega
              rcases hqc with rfl | rfl | rfl | rfl | rfl | rfl
              · have v0 : (wr.alloc (.cells #[.int .i64 kk, .int .i64 nn] 61)).cell? ⟨V, 0, none⟩ = some (.int .i64 1) := hbV6.cell 0
                go_wp2_with fail
                generalize wr.alloc (.cells #[.int .i64 kk, .int .i64 nn] 61) = w6 at *
                refine (refraw_any A n c p why 1 xs w6 ha6 hple (by omega) hc1 (by omega) (by omega)).mono ?_
                rintro e w7 ⟨A7, c7, rfl, ho7, q7⟩
                generalize hP : rdP xs p why 1 = P' at *
                generalize hW : rdW xs p why 1 = W' at *
                generalize hO : rdO xs p why 1 = O' at *
                have HP := Lib.hid hP; have HW := Lib.hid hW; have HO := Lib.hid hO
                clear hP hW hO
                go_wp2_with fail
                have b7 := hb6.trans (q7.mono hb6.size)
                have hr7 := hr6.below q7
                have hM7 := hbM6.below q7 hbM6.lt
                have hV7 := hbV6.below q7 hbV6.lt
                have hN := Blk.new w7 58 #[.slice A n c, .int .i64 (P' : Int), .int .i64 W']
                replace b7 := b7.alloc b7.size (.cells #[.slice A n c, .int .i64 (P' : Int), .int .i64 W'] 58)
                replace hr7 := hr7.below ((Below.refl _ _).alloc (Nat.le_refl _) (.cells #[.slice A n c, .int .i64 (P' : Int), .int .i64 W'] 58))
                replace hM7 := hM7.alloc (.cells #[.slice A n c, .int .i64 (P' : Int), .int .i64 W'] 58)
                replace hV7 := hV7.alloc (.cells #[.slice A n c, .int .i64 (P' : Int), .int .i64 W'] 58)
                replace ho7 := ho7.alloc (.cells #[.slice A n c, .int .i64 (P' : Int), .int .i64 W'] 58)
                clear m0 m1 m2 v0 hbM6 hbV6 hbT6 hb6 ha6 hr6 q7 ek en
                generalize w7.alloc (.cells #[.slice A n c, .int .i64 (P' : Int), .int .i64 W'] 58) = w8 at *
                generalize w7.heap.size = NX at *
                have hNR := hr7.blk.ne_ hN (by decide)
                refine (u8_any R O n d xs p why w8 hr7).mono ?_
                rintro e w9 ⟨rfl, hr9, g9⟩
                rw [HP.out, HW.out] at hr9
                rw [HO.out]
                have ho9 := ho7.grown g9 (.inr (own_ne ho7 hr7.blk (by decide)))
                have hN9 := hN.grown g9 (fun e => hNR (by injection e with e; exact e.symm))
                have hM9 := hM7.grown g9 (fun e => hRM (by injection e with e; exact e.symm))
                have hV9 := hV7.grown g9 (fun e => hRV (by injection e with e; exact e.symm))
                have b9 := grown_below b7 g9 b7.size hwR
                clear b7 hr7 hM7 hV7 hN ho7 g9
                have hol : O'.length ≤ n := by rw [← HO.out, ← hr9.len]; exact rdO_le _ _ _ _
                have n0 : w9.drew.cell? ⟨NX, 0, none⟩ = some (.slice A n c) := hN9.cell 0
                have n1 : w9.drew.cell? ⟨NX, 1, none⟩ = some (.int .i64 (P' : Int)) := hN9.cell 1
                have n2 : w9.drew.cell? ⟨NX, 2, none⟩ = some (.int .i64 W') := hN9.cell 2
                have hwant : RdB w9.drew A7 O'.length O' := ho9.rd
                have hrd := hr9.drew
                have hPn := hr9.le
                have hxw := wv_wrap O'
                have hd : IntKind.i64.wrap ((n : Int) - (P' : Int)) = (n : Int) - (P' : Int) := IntWalk.i64_in _ (by omega)
                go_wp2
                go_region_held3 (fun w' => w'.cell? ⟨NX, 1, none⟩ = some (.int .i64 (P' : Int)) ∧ w'.cell? ⟨NX, 2, none⟩ = some (.int .i64 W')) (first | go_keep | exact eC)
                  (first
                    | (go_at_call 40; refine (refweighs_any A7 O'.length c7 O' _ hwant (by omega)).mono ?_; rintro e wa ⟨rfl, rfl⟩)
                    | (go_at_call 33; refine (err_any R O n d xs P' W' _ hrd).mono ?_; rintro e wb ⟨rfl, rfl⟩)
                    | (go_at_call 34; refine (left_any R O n d xs P' W' _ hrd).mono ?_; rintro e wc ⟨rfl, q9, rfl⟩; have eC : (w9.drewN (1 + q9)).cell? ⟨NX, 1, none⟩ = some (.int .i64 (P' : Int)) ∧ (w9.drewN (1 + q9)).cell? ⟨NX, 2, none⟩ = some (.int .i64 W') := ⟨n1, n2⟩))
                have hrX := hr9.drewN (1 + q9)
                have hNX := hN9.drewN (1 + q9)
                have hMX := hM9.drewN (1 + q9)
                have hVX := hV9.drewN (1 + q9)
                have bX := below_drewN b9 (1 + q9)
                clear eC n0 n1 n2 hwant hrd hr9 hN9 hM9 hV9 b9 hd hxw ho9
                generalize w9.drewN (1 + q9) = w10 at *
                have n0 : w10.cell? ⟨NX, 0, none⟩ = some (.slice A n c) := hNX.cell 0
                have n1 : w10.cell? ⟨NX, 1, none⟩ = some (.int .i64 (P' : Int)) := hNX.cell 1
                have n2 : w10.cell? ⟨NX, 2, none⟩ = some (.int .i64 W') := hNX.cell 2
                have s1 := hMX.set_ 0 (.slice A n c)
                have s2 := s1.set_ 1 (.int .i64 (P' : Int))
                have s3 := s2.set_ 2 (.int .i64 W')
                have g0 : w10.cell? ⟨M, 0, none⟩ = some (.slice A n c) := hMX.cell 0
                have g1 : (w10.setCell ⟨M, 0, none⟩ (.slice A n c)).cell? ⟨M, 1, none⟩ = some (.int .i64 (p : Int)) := s1.cell 1
                have g2 : ((w10.setCell ⟨M, 0, none⟩ (.slice A n c)).setCell ⟨M, 1, none⟩ (.int .i64 (P' : Int))).cell? ⟨M, 2, none⟩ = some (.int .i64 why) := s2.cell 2
                have f0 : w10.frozen? ⟨M, 0, none⟩ = false := hMX.frozen 0
                have f1 : (w10.setCell ⟨M, 0, none⟩ (.slice A n c)).frozen? ⟨M, 1, none⟩ = false := s1.frozen 1
                have f2 : ((w10.setCell ⟨M, 0, none⟩ (.slice A n c)).setCell ⟨M, 1, none⟩ (.int .i64 (P' : Int))).frozen? ⟨M, 2, none⟩ = false := s2.frozen 2
                go_wp2
                go_roundg (gk - 1)
                · exact ⟨i + 1, P', W', by omega, by omega, by go_num, hrX.grown (row := some M) (only_setCell (only_setCell (only_setCell (World.grownBy.refl w10 (some M)) (p := ⟨M, 0, none⟩) (.inl rfl) _) (p := ⟨M, 1, none⟩) (.inl rfl) _) (p := ⟨M, 2, none⟩) (.inl rfl) _) (fun e => hRM (by injection e with e; exact e.symm)) (.inr (own_ne hrX.own hMX (by decide))), s3, ((hVX.far (p := ⟨M, 0, none⟩) hVM _).far (p := ⟨M, 1, none⟩) hVM _).far (p := ⟨M, 2, none⟩) hVM _, ((bX.setCell (p := ⟨M, 0, none⟩) hwM _).setCell (p := ⟨M, 1, none⟩) hwM _).setCell (p := ⟨M, 2, none⟩) hwM _⟩
                · omega
              · have v0 : (wr.alloc (.cells #[.int .i64 kk, .int .i64 nn] 61)).cell? ⟨V, 1, none⟩ = some (.int .i64 2) := hbV6.cell 1
                go_wp2_with fail
                generalize wr.alloc (.cells #[.int .i64 kk, .int .i64 nn] 61) = w6 at *
                refine (refraw_any A n c p why 2 xs w6 ha6 hple (by omega) hc1 (by omega) (by omega)).mono ?_
                rintro e w7 ⟨A7, c7, rfl, ho7, q7⟩
                generalize hP : rdP xs p why 2 = P' at *
                generalize hW : rdW xs p why 2 = W' at *
                generalize hO : rdO xs p why 2 = O' at *
                have HP := Lib.hid hP; have HW := Lib.hid hW; have HO := Lib.hid hO
                clear hP hW hO
                go_wp2_with fail
                have b7 := hb6.trans (q7.mono hb6.size)
                have hr7 := hr6.below q7
                have hM7 := hbM6.below q7 hbM6.lt
                have hV7 := hbV6.below q7 hbV6.lt
                have hN := Blk.new w7 58 #[.slice A n c, .int .i64 (P' : Int), .int .i64 W']
                replace b7 := b7.alloc b7.size (.cells #[.slice A n c, .int .i64 (P' : Int), .int .i64 W'] 58)
                replace hr7 := hr7.below ((Below.refl _ _).alloc (Nat.le_refl _) (.cells #[.slice A n c, .int .i64 (P' : Int), .int .i64 W'] 58))
                replace hM7 := hM7.alloc (.cells #[.slice A n c, .int .i64 (P' : Int), .int .i64 W'] 58)
                replace hV7 := hV7.alloc (.cells #[.slice A n c, .int .i64 (P' : Int), .int .i64 W'] 58)
                replace ho7 := ho7.alloc (.cells #[.slice A n c, .int .i64 (P' : Int), .int .i64 W'] 58)
                clear m0 m1 m2 v0 hbM6 hbV6 hbT6 hb6 ha6 hr6 q7 ek en
                generalize w7.alloc (.cells #[.slice A n c, .int .i64 (P' : Int), .int .i64 W'] 58) = w8 at *
                generalize w7.heap.size = NX at *
                have hNR := hr7.blk.ne_ hN (by decide)
                refine (u16_any R O n d xs p why w8 hr7).mono ?_
                rintro e w9 ⟨rfl, hr9, g9⟩
                rw [HP.out, HW.out] at hr9
                rw [HO.out]
                have ho9 := ho7.grown g9 (.inr (own_ne ho7 hr7.blk (by decide)))
                have hN9 := hN.grown g9 (fun e => hNR (by injection e with e; exact e.symm))
                have hM9 := hM7.grown g9 (fun e => hRM (by injection e with e; exact e.symm))
                have hV9 := hV7.grown g9 (fun e => hRV (by injection e with e; exact e.symm))
                have b9 := grown_below b7 g9 b7.size hwR
                clear b7 hr7 hM7 hV7 hN ho7 g9
                have hol : O'.length ≤ n := by rw [← HO.out, ← hr9.len]; exact rdO_le _ _ _ _
                have n0 : w9.drew.cell? ⟨NX, 0, none⟩ = some (.slice A n c) := hN9.cell 0
                have n1 : w9.drew.cell? ⟨NX, 1, none⟩ = some (.int .i64 (P' : Int)) := hN9.cell 1
                have n2 : w9.drew.cell? ⟨NX, 2, none⟩ = some (.int .i64 W') := hN9.cell 2
                have hwant : RdB w9.drew A7 O'.length O' := ho9.rd
                have hrd := hr9.drew
                have hPn := hr9.le
                have hxw := wv_wrap O'
                have hd : IntKind.i64.wrap ((n : Int) - (P' : Int)) = (n : Int) - (P' : Int) := IntWalk.i64_in _ (by omega)
                go_wp2
                go_region_held3 (fun w' => w'.cell? ⟨NX, 1, none⟩ = some (.int .i64 (P' : Int)) ∧ w'.cell? ⟨NX, 2, none⟩ = some (.int .i64 W')) (first | go_keep | exact eC)
                  (first
                    | (go_at_call 40; refine (refweighs_any A7 O'.length c7 O' _ hwant (by omega)).mono ?_; rintro e wa ⟨rfl, rfl⟩)
                    | (go_at_call 33; refine (err_any R O n d xs P' W' _ hrd).mono ?_; rintro e wb ⟨rfl, rfl⟩)
                    | (go_at_call 34; refine (left_any R O n d xs P' W' _ hrd).mono ?_; rintro e wc ⟨rfl, q9, rfl⟩; have eC : (w9.drewN (1 + q9)).cell? ⟨NX, 1, none⟩ = some (.int .i64 (P' : Int)) ∧ (w9.drewN (1 + q9)).cell? ⟨NX, 2, none⟩ = some (.int .i64 W') := ⟨n1, n2⟩))
                have hrX := hr9.drewN (1 + q9)
                have hNX := hN9.drewN (1 + q9)
                have hMX := hM9.drewN (1 + q9)
                have hVX := hV9.drewN (1 + q9)
                have bX := below_drewN b9 (1 + q9)
                clear eC n0 n1 n2 hwant hrd hr9 hN9 hM9 hV9 b9 hd hxw ho9
                generalize w9.drewN (1 + q9) = w10 at *
                have n0 : w10.cell? ⟨NX, 0, none⟩ = some (.slice A n c) := hNX.cell 0
                have n1 : w10.cell? ⟨NX, 1, none⟩ = some (.int .i64 (P' : Int)) := hNX.cell 1
                have n2 : w10.cell? ⟨NX, 2, none⟩ = some (.int .i64 W') := hNX.cell 2
                have s1 := hMX.set_ 0 (.slice A n c)
                have s2 := s1.set_ 1 (.int .i64 (P' : Int))
                have s3 := s2.set_ 2 (.int .i64 W')
                have g0 : w10.cell? ⟨M, 0, none⟩ = some (.slice A n c) := hMX.cell 0
                have g1 : (w10.setCell ⟨M, 0, none⟩ (.slice A n c)).cell? ⟨M, 1, none⟩ = some (.int .i64 (p : Int)) := s1.cell 1
                have g2 : ((w10.setCell ⟨M, 0, none⟩ (.slice A n c)).setCell ⟨M, 1, none⟩ (.int .i64 (P' : Int))).cell? ⟨M, 2, none⟩ = some (.int .i64 why) := s2.cell 2
                have f0 : w10.frozen? ⟨M, 0, none⟩ = false := hMX.frozen 0
                have f1 : (w10.setCell ⟨M, 0, none⟩ (.slice A n c)).frozen? ⟨M, 1, none⟩ = false := s1.frozen 1
                have f2 : ((w10.setCell ⟨M, 0, none⟩ (.slice A n c)).setCell ⟨M, 1, none⟩ (.int .i64 (P' : Int))).frozen? ⟨M, 2, none⟩ = false := s2.frozen 2
                go_wp2
                go_roundg (gk - 1)
                · exact ⟨i + 1, P', W', by omega, by omega, by go_num, hrX.grown (row := some M) (only_setCell (only_setCell (only_setCell (World.grownBy.refl w10 (some M)) (p := ⟨M, 0, none⟩) (.inl rfl) _) (p := ⟨M, 1, none⟩) (.inl rfl) _) (p := ⟨M, 2, none⟩) (.inl rfl) _) (fun e => hRM (by injection e with e; exact e.symm)) (.inr (own_ne hrX.own hMX (by decide))), s3, ((hVX.far (p := ⟨M, 0, none⟩) hVM _).far (p := ⟨M, 1, none⟩) hVM _).far (p := ⟨M, 2, none⟩) hVM _, ((bX.setCell (p := ⟨M, 0, none⟩) hwM _).setCell (p := ⟨M, 1, none⟩) hwM _).setCell (p := ⟨M, 2, none⟩) hwM _⟩
                · omega
              · have v0 : (wr.alloc (.cells #[.int .i64 kk, .int .i64 nn] 61)).cell? ⟨V, 2, none⟩ = some (.int .i64 4) := hbV6.cell 2
                go_wp2_with fail
                generalize wr.alloc (.cells #[.int .i64 kk, .int .i64 nn] 61) = w6 at *
                refine (refraw_any A n c p why 4 xs w6 ha6 hple (by omega) hc1 (by omega) (by omega)).mono ?_
                rintro e w7 ⟨A7, c7, rfl, ho7, q7⟩
                generalize hP : rdP xs p why 4 = P' at *
                generalize hW : rdW xs p why 4 = W' at *
                generalize hO : rdO xs p why 4 = O' at *
                have HP := Lib.hid hP; have HW := Lib.hid hW; have HO := Lib.hid hO
                clear hP hW hO
                go_wp2_with fail
                have b7 := hb6.trans (q7.mono hb6.size)
                have hr7 := hr6.below q7
                have hM7 := hbM6.below q7 hbM6.lt
                have hV7 := hbV6.below q7 hbV6.lt
                have hN := Blk.new w7 58 #[.slice A n c, .int .i64 (P' : Int), .int .i64 W']
                replace b7 := b7.alloc b7.size (.cells #[.slice A n c, .int .i64 (P' : Int), .int .i64 W'] 58)
                replace hr7 := hr7.below ((Below.refl _ _).alloc (Nat.le_refl _) (.cells #[.slice A n c, .int .i64 (P' : Int), .int .i64 W'] 58))
                replace hM7 := hM7.alloc (.cells #[.slice A n c, .int .i64 (P' : Int), .int .i64 W'] 58)
                replace hV7 := hV7.alloc (.cells #[.slice A n c, .int .i64 (P' : Int), .int .i64 W'] 58)
                replace ho7 := ho7.alloc (.cells #[.slice A n c, .int .i64 (P' : Int), .int .i64 W'] 58)
                clear m0 m1 m2 v0 hbM6 hbV6 hbT6 hb6 ha6 hr6 q7 ek en
                generalize w7.alloc (.cells #[.slice A n c, .int .i64 (P' : Int), .int .i64 W'] 58) = w8 at *
                generalize w7.heap.size = NX at *
                have hNR := hr7.blk.ne_ hN (by decide)
                refine (u32_any R O n d xs p why w8 hr7).mono ?_
                rintro e w9 ⟨rfl, hr9, g9⟩
                rw [HP.out, HW.out] at hr9
                rw [HO.out]
                have ho9 := ho7.grown g9 (.inr (own_ne ho7 hr7.blk (by decide)))
                have hN9 := hN.grown g9 (fun e => hNR (by injection e with e; exact e.symm))
                have hM9 := hM7.grown g9 (fun e => hRM (by injection e with e; exact e.symm))
                have hV9 := hV7.grown g9 (fun e => hRV (by injection e with e; exact e.symm))
                have b9 := grown_below b7 g9 b7.size hwR
                clear b7 hr7 hM7 hV7 hN ho7 g9
                have hol : O'.length ≤ n := by rw [← HO.out, ← hr9.len]; exact rdO_le _ _ _ _
                have n0 : w9.drew.cell? ⟨NX, 0, none⟩ = some (.slice A n c) := hN9.cell 0
                have n1 : w9.drew.cell? ⟨NX, 1, none⟩ = some (.int .i64 (P' : Int)) := hN9.cell 1
                have n2 : w9.drew.cell? ⟨NX, 2, none⟩ = some (.int .i64 W') := hN9.cell 2
                have hwant : RdB w9.drew A7 O'.length O' := ho9.rd
                have hrd := hr9.drew
                have hPn := hr9.le
                have hxw := wv_wrap O'
                have hd : IntKind.i64.wrap ((n : Int) - (P' : Int)) = (n : Int) - (P' : Int) := IntWalk.i64_in _ (by omega)
                go_wp2
                go_region_held3 (fun w' => w'.cell? ⟨NX, 1, none⟩ = some (.int .i64 (P' : Int)) ∧ w'.cell? ⟨NX, 2, none⟩ = some (.int .i64 W')) (first | go_keep | exact eC)
                  (first
                    | (go_at_call 40; refine (refweighs_any A7 O'.length c7 O' _ hwant (by omega)).mono ?_; rintro e wa ⟨rfl, rfl⟩)
                    | (go_at_call 33; refine (err_any R O n d xs P' W' _ hrd).mono ?_; rintro e wb ⟨rfl, rfl⟩)
                    | (go_at_call 34; refine (left_any R O n d xs P' W' _ hrd).mono ?_; rintro e wc ⟨rfl, q9, rfl⟩; have eC : (w9.drewN (1 + q9)).cell? ⟨NX, 1, none⟩ = some (.int .i64 (P' : Int)) ∧ (w9.drewN (1 + q9)).cell? ⟨NX, 2, none⟩ = some (.int .i64 W') := ⟨n1, n2⟩))
                have hrX := hr9.drewN (1 + q9)
                have hNX := hN9.drewN (1 + q9)
                have hMX := hM9.drewN (1 + q9)
                have hVX := hV9.drewN (1 + q9)
                have bX := below_drewN b9 (1 + q9)
                clear eC n0 n1 n2 hwant hrd hr9 hN9 hM9 hV9 b9 hd hxw ho9
                generalize w9.drewN (1 + q9) = w10 at *
                have n0 : w10.cell? ⟨NX, 0, none⟩ = some (.slice A n c) := hNX.cell 0
                have n1 : w10.cell? ⟨NX, 1, none⟩ = some (.int .i64 (P' : Int)) := hNX.cell 1
                have n2 : w10.cell? ⟨NX, 2, none⟩ = some (.int .i64 W') := hNX.cell 2
                have s1 := hMX.set_ 0 (.slice A n c)
                have s2 := s1.set_ 1 (.int .i64 (P' : Int))
                have s3 := s2.set_ 2 (.int .i64 W')
                have g0 : w10.cell? ⟨M, 0, none⟩ = some (.slice A n c) := hMX.cell 0
                have g1 : (w10.setCell ⟨M, 0, none⟩ (.slice A n c)).cell? ⟨M, 1, none⟩ = some (.int .i64 (p : Int)) := s1.cell 1
                have g2 : ((w10.setCell ⟨M, 0, none⟩ (.slice A n c)).setCell ⟨M, 1, none⟩ (.int .i64 (P' : Int))).cell? ⟨M, 2, none⟩ = some (.int .i64 why) := s2.cell 2
                have f0 : w10.frozen? ⟨M, 0, none⟩ = false := hMX.frozen 0
                have f1 : (w10.setCell ⟨M, 0, none⟩ (.slice A n c)).frozen? ⟨M, 1, none⟩ = false := s1.frozen 1
                have f2 : ((w10.setCell ⟨M, 0, none⟩ (.slice A n c)).setCell ⟨M, 1, none⟩ (.int .i64 (P' : Int))).frozen? ⟨M, 2, none⟩ = false := s2.frozen 2
                go_wp2
                go_roundg (gk - 1)
                · exact ⟨i + 1, P', W', by omega, by omega, by go_num, hrX.grown (row := some M) (only_setCell (only_setCell (only_setCell (World.grownBy.refl w10 (some M)) (p := ⟨M, 0, none⟩) (.inl rfl) _) (p := ⟨M, 1, none⟩) (.inl rfl) _) (p := ⟨M, 2, none⟩) (.inl rfl) _) (fun e => hRM (by injection e with e; exact e.symm)) (.inr (own_ne hrX.own hMX (by decide))), s3, ((hVX.far (p := ⟨M, 0, none⟩) hVM _).far (p := ⟨M, 1, none⟩) hVM _).far (p := ⟨M, 2, none⟩) hVM _, ((bX.setCell (p := ⟨M, 0, none⟩) hwM _).setCell (p := ⟨M, 1, none⟩) hwM _).setCell (p := ⟨M, 2, none⟩) hwM _⟩
                · omega
              · have v0 : (wr.alloc (.cells #[.int .i64 kk, .int .i64 nn] 61)).cell? ⟨V, 3, none⟩ = some (.int .i64 8) := hbV6.cell 3
                go_wp2_with fail
                generalize wr.alloc (.cells #[.int .i64 kk, .int .i64 nn] 61) = w6 at *
                refine (refraw_any A n c p why 8 xs w6 ha6 hple (by omega) hc1 (by omega) (by omega)).mono ?_
                rintro e w7 ⟨A7, c7, rfl, ho7, q7⟩
                generalize hP : rdP xs p why 8 = P' at *
                generalize hW : rdW xs p why 8 = W' at *
                generalize hO : rdO xs p why 8 = O' at *
                have HP := Lib.hid hP; have HW := Lib.hid hW; have HO := Lib.hid hO
                clear hP hW hO
                go_wp2_with fail
                have b7 := hb6.trans (q7.mono hb6.size)
                have hr7 := hr6.below q7
                have hM7 := hbM6.below q7 hbM6.lt
                have hV7 := hbV6.below q7 hbV6.lt
                have hN := Blk.new w7 58 #[.slice A n c, .int .i64 (P' : Int), .int .i64 W']
                replace b7 := b7.alloc b7.size (.cells #[.slice A n c, .int .i64 (P' : Int), .int .i64 W'] 58)
                replace hr7 := hr7.below ((Below.refl _ _).alloc (Nat.le_refl _) (.cells #[.slice A n c, .int .i64 (P' : Int), .int .i64 W'] 58))
                replace hM7 := hM7.alloc (.cells #[.slice A n c, .int .i64 (P' : Int), .int .i64 W'] 58)
                replace hV7 := hV7.alloc (.cells #[.slice A n c, .int .i64 (P' : Int), .int .i64 W'] 58)
                replace ho7 := ho7.alloc (.cells #[.slice A n c, .int .i64 (P' : Int), .int .i64 W'] 58)
                clear m0 m1 m2 v0 hbM6 hbV6 hbT6 hb6 ha6 hr6 q7 ek en
                generalize w7.alloc (.cells #[.slice A n c, .int .i64 (P' : Int), .int .i64 W'] 58) = w8 at *
                generalize w7.heap.size = NX at *
                have hNR := hr7.blk.ne_ hN (by decide)
                refine (u64_any R O n d xs p why w8 hr7).mono ?_
                rintro e w9 ⟨rfl, hr9, g9⟩
                rw [HP.out, HW.out] at hr9
                rw [HO.out]
                have ho9 := ho7.grown g9 (.inr (own_ne ho7 hr7.blk (by decide)))
                have hN9 := hN.grown g9 (fun e => hNR (by injection e with e; exact e.symm))
                have hM9 := hM7.grown g9 (fun e => hRM (by injection e with e; exact e.symm))
                have hV9 := hV7.grown g9 (fun e => hRV (by injection e with e; exact e.symm))
                have b9 := grown_below b7 g9 b7.size hwR
                clear b7 hr7 hM7 hV7 hN ho7 g9
                have hol : O'.length ≤ n := by rw [← HO.out, ← hr9.len]; exact rdO_le _ _ _ _
                have n0 : w9.drew.cell? ⟨NX, 0, none⟩ = some (.slice A n c) := hN9.cell 0
                have n1 : w9.drew.cell? ⟨NX, 1, none⟩ = some (.int .i64 (P' : Int)) := hN9.cell 1
                have n2 : w9.drew.cell? ⟨NX, 2, none⟩ = some (.int .i64 W') := hN9.cell 2
                have hwant : RdB w9.drew A7 O'.length O' := ho9.rd
                have hrd := hr9.drew
                have hPn := hr9.le
                have hxw := wv_wrap O'
                have hd : IntKind.i64.wrap ((n : Int) - (P' : Int)) = (n : Int) - (P' : Int) := IntWalk.i64_in _ (by omega)
                go_wp2
                go_region_held3 (fun w' => w'.cell? ⟨NX, 1, none⟩ = some (.int .i64 (P' : Int)) ∧ w'.cell? ⟨NX, 2, none⟩ = some (.int .i64 W')) (first | go_keep | exact eC)
                  (first
                    | (go_at_call 40; refine (refweighs_any A7 O'.length c7 O' _ hwant (by omega)).mono ?_; rintro e wa ⟨rfl, rfl⟩)
                    | (go_at_call 33; refine (err_any R O n d xs P' W' _ hrd).mono ?_; rintro e wb ⟨rfl, rfl⟩)
                    | (go_at_call 34; refine (left_any R O n d xs P' W' _ hrd).mono ?_; rintro e wc ⟨rfl, q9, rfl⟩; have eC : (w9.drewN (1 + q9)).cell? ⟨NX, 1, none⟩ = some (.int .i64 (P' : Int)) ∧ (w9.drewN (1 + q9)).cell? ⟨NX, 2, none⟩ = some (.int .i64 W') := ⟨n1, n2⟩))
                have hrX := hr9.drewN (1 + q9)
                have hNX := hN9.drewN (1 + q9)
                have hMX := hM9.drewN (1 + q9)
                have hVX := hV9.drewN (1 + q9)
                have bX := below_drewN b9 (1 + q9)
                clear eC n0 n1 n2 hwant hrd hr9 hN9 hM9 hV9 b9 hd hxw ho9
                generalize w9.drewN (1 + q9) = w10 at *
                have n0 : w10.cell? ⟨NX, 0, none⟩ = some (.slice A n c) := hNX.cell 0
                have n1 : w10.cell? ⟨NX, 1, none⟩ = some (.int .i64 (P' : Int)) := hNX.cell 1
                have n2 : w10.cell? ⟨NX, 2, none⟩ = some (.int .i64 W') := hNX.cell 2
                have s1 := hMX.set_ 0 (.slice A n c)
                have s2 := s1.set_ 1 (.int .i64 (P' : Int))
                have s3 := s2.set_ 2 (.int .i64 W')
                have g0 : w10.cell? ⟨M, 0, none⟩ = some (.slice A n c) := hMX.cell 0
                have g1 : (w10.setCell ⟨M, 0, none⟩ (.slice A n c)).cell? ⟨M, 1, none⟩ = some (.int .i64 (p : Int)) := s1.cell 1
                have g2 : ((w10.setCell ⟨M, 0, none⟩ (.slice A n c)).setCell ⟨M, 1, none⟩ (.int .i64 (P' : Int))).cell? ⟨M, 2, none⟩ = some (.int .i64 why) := s2.cell 2
                have f0 : w10.frozen? ⟨M, 0, none⟩ = false := hMX.frozen 0
                have f1 : (w10.setCell ⟨M, 0, none⟩ (.slice A n c)).frozen? ⟨M, 1, none⟩ = false := s1.frozen 1
                have f2 : ((w10.setCell ⟨M, 0, none⟩ (.slice A n c)).setCell ⟨M, 1, none⟩ (.int .i64 (P' : Int))).frozen? ⟨M, 2, none⟩ = false := s2.frozen 2
                go_wp2
                go_roundg (gk - 1)
                · exact ⟨i + 1, P', W', by omega, by omega, by go_num, hrX.grown (row := some M) (only_setCell (only_setCell (only_setCell (World.grownBy.refl w10 (some M)) (p := ⟨M, 0, none⟩) (.inl rfl) _) (p := ⟨M, 1, none⟩) (.inl rfl) _) (p := ⟨M, 2, none⟩) (.inl rfl) _) (fun e => hRM (by injection e with e; exact e.symm)) (.inr (own_ne hrX.own hMX (by decide))), s3, ((hVX.far (p := ⟨M, 0, none⟩) hVM _).far (p := ⟨M, 1, none⟩) hVM _).far (p := ⟨M, 2, none⟩) hVM _, ((bX.setCell (p := ⟨M, 0, none⟩) hwM _).setCell (p := ⟨M, 1, none⟩) hwM _).setCell (p := ⟨M, 2, none⟩) hwM _⟩
                · omega
              · go_wp2_with fail
                generalize wr.alloc (.cells #[.int .i64 kk, .int .i64 nn] 61) = w6 at *
                refine (refraw_any A n c p why nn xs w6 ha6 hple (by omega) hc1 (by omega) (by omega)).mono ?_
                rintro e w7 ⟨A7, c7, rfl, ho7, q7⟩
                generalize hP : rdP xs p why nn = P' at *
                generalize hW : rdW xs p why nn = W' at *
                generalize hO : rdO xs p why nn = O' at *
                have HP := Lib.hid hP; have HW := Lib.hid hW; have HO := Lib.hid hO
                clear hP hW hO
                go_wp2_with fail
                have b7 := hb6.trans (q7.mono hb6.size)
                have hr7 := hr6.below q7
                have hM7 := hbM6.below q7 hbM6.lt
                have hV7 := hbV6.below q7 hbV6.lt
                have hN := Blk.new w7 58 #[.slice A n c, .int .i64 (P' : Int), .int .i64 W']
                replace b7 := b7.alloc b7.size (.cells #[.slice A n c, .int .i64 (P' : Int), .int .i64 W'] 58)
                replace hr7 := hr7.below ((Below.refl _ _).alloc (Nat.le_refl _) (.cells #[.slice A n c, .int .i64 (P' : Int), .int .i64 W'] 58))
                replace hM7 := hM7.alloc (.cells #[.slice A n c, .int .i64 (P' : Int), .int .i64 W'] 58)
                replace hV7 := hV7.alloc (.cells #[.slice A n c, .int .i64 (P' : Int), .int .i64 W'] 58)
                replace ho7 := ho7.alloc (.cells #[.slice A n c, .int .i64 (P' : Int), .int .i64 W'] 58)
                clear m0 m1 m2 hbM6 hbV6 hbT6 hb6 ha6 hr6 q7 ek en
                generalize w7.alloc (.cells #[.slice A n c, .int .i64 (P' : Int), .int .i64 W'] 58) = w8 at *
                generalize w7.heap.size = NX at *
                have hNR := hr7.blk.ne_ hN (by decide)
                refine (raw_any R O n d xs p why nn w8 hr7 (by omega)).mono ?_
                rintro e w9 ⟨A9, c9, rfl, hgot, hr9, g9⟩
                rw [HO.out] at hgot
                rw [HP.out, HW.out] at hr9
                rw [HO.out]
                have ho9 := ho7.grown g9 (.inr (own_ne ho7 hr7.blk (by decide)))
                have hN9 := hN.grown g9 (fun e => hNR (by injection e with e; exact e.symm))
                have hM9 := hM7.grown g9 (fun e => hRM (by injection e with e; exact e.symm))
                have hV9 := hV7.grown g9 (fun e => hRV (by injection e with e; exact e.symm))
                have b9 := grown_below b7 g9 b7.size hwR
                clear b7 hr7 hM7 hV7 hN ho7 g9
                have hol : O'.length ≤ n := by rw [← HO.out, ← hr9.len]; exact rdO_le _ _ _ _
                go_wp2_with fail
                refine (same_any A9 A7 O'.length c9 O'.length c7 O' O' w9 hgot.rd ho9.rd (by omega)).mono ?_
                rintro e w11 ⟨rfl, q11, rfl⟩
                rw [show (O' == O') = true from beq_self_eq_true _]
                replace hr9 := hr9.drewN q11
                replace ho9 := ho9.below (below_drewN (Below.refl _ _) q11)
                replace hgot := hgot.below (below_drewN (Below.refl _ _) q11)
                replace hN9 := hN9.drewN q11
                replace hM9 := hM9.drewN q11
                replace hV9 := hV9.drewN q11
                replace b9 := below_drewN b9 q11
                generalize w9.drewN q11 = w9' at *
                obtain ⟨w9, rfl⟩ : ∃ w9, w9 = w9' := ⟨_, rfl⟩
                go_wp2_with fail
                refine (refweighs_any A9 O'.length c9 O' _ hgot.rd (by omega)).mono ?_
                rintro e wa ⟨rfl, rfl⟩
                clear hgot
                have n0 : w9.drew.cell? ⟨NX, 0, none⟩ = some (.slice A n c) := hN9.cell 0
                have n1 : w9.drew.cell? ⟨NX, 1, none⟩ = some (.int .i64 (P' : Int)) := hN9.cell 1
                have n2 : w9.drew.cell? ⟨NX, 2, none⟩ = some (.int .i64 W') := hN9.cell 2
                have hwant : RdB w9.drew A7 O'.length O' := ho9.rd
                have hrd := hr9.drew
                have hPn := hr9.le
                have hxw := wv_wrap O'
                have hd : IntKind.i64.wrap ((n : Int) - (P' : Int)) = (n : Int) - (P' : Int) := IntWalk.i64_in _ (by omega)
                go_wp2
                go_region_held3 (fun w' => w'.cell? ⟨NX, 1, none⟩ = some (.int .i64 (P' : Int)) ∧ w'.cell? ⟨NX, 2, none⟩ = some (.int .i64 W')) (first | go_keep | exact eC)
                  (first
                    | (go_at_call 40; refine (refweighs_any A7 O'.length c7 O' _ hwant (by omega)).mono ?_; rintro e wa ⟨rfl, rfl⟩)
                    | (go_at_call 33; refine (err_any R O n d xs P' W' _ hrd).mono ?_; rintro e wb ⟨rfl, rfl⟩)
                    | (go_at_call 34; refine (left_any R O n d xs P' W' _ hrd).mono ?_; rintro e wc ⟨rfl, q9, rfl⟩; have eC : (w9.drewN (1 + q9)).cell? ⟨NX, 1, none⟩ = some (.int .i64 (P' : Int)) ∧ (w9.drewN (1 + q9)).cell? ⟨NX, 2, none⟩ = some (.int .i64 W') := ⟨n1, n2⟩))
                have hrX := hr9.drewN (1 + q9)
                have hNX := hN9.drewN (1 + q9)
                have hMX := hM9.drewN (1 + q9)
                have hVX := hV9.drewN (1 + q9)
                have bX := below_drewN b9 (1 + q9)
                clear eC n0 n1 n2 hwant hrd hr9 hN9 hM9 hV9 b9 hd hxw ho9
                generalize w9.drewN (1 + q9) = w10 at *
                have n0 : w10.cell? ⟨NX, 0, none⟩ = some (.slice A n c) := hNX.cell 0
                have n1 : w10.cell? ⟨NX, 1, none⟩ = some (.int .i64 (P' : Int)) := hNX.cell 1
                have n2 : w10.cell? ⟨NX, 2, none⟩ = some (.int .i64 W') := hNX.cell 2
                have s1 := hMX.set_ 0 (.slice A n c)
                have s2 := s1.set_ 1 (.int .i64 (P' : Int))
                have s3 := s2.set_ 2 (.int .i64 W')
                have g0 : w10.cell? ⟨M, 0, none⟩ = some (.slice A n c) := hMX.cell 0
                have g1 : (w10.setCell ⟨M, 0, none⟩ (.slice A n c)).cell? ⟨M, 1, none⟩ = some (.int .i64 (p : Int)) := s1.cell 1
                have g2 : ((w10.setCell ⟨M, 0, none⟩ (.slice A n c)).setCell ⟨M, 1, none⟩ (.int .i64 (P' : Int))).cell? ⟨M, 2, none⟩ = some (.int .i64 why) := s2.cell 2
                have f0 : w10.frozen? ⟨M, 0, none⟩ = false := hMX.frozen 0
                have f1 : (w10.setCell ⟨M, 0, none⟩ (.slice A n c)).frozen? ⟨M, 1, none⟩ = false := s1.frozen 1
                have f2 : ((w10.setCell ⟨M, 0, none⟩ (.slice A n c)).setCell ⟨M, 1, none⟩ (.int .i64 (P' : Int))).frozen? ⟨M, 2, none⟩ = false := s2.frozen 2
                go_wp2
                go_roundg (gk - 1)
                · exact ⟨i + 1, P', W', by omega, by omega, by go_num, hrX.grown (row := some M) (only_setCell (only_setCell (only_setCell (World.grownBy.refl w10 (some M)) (p := ⟨M, 0, none⟩) (.inl rfl) _) (p := ⟨M, 1, none⟩) (.inl rfl) _) (p := ⟨M, 2, none⟩) (.inl rfl) _) (fun e => hRM (by injection e with e; exact e.symm)) (.inr (own_ne hrX.own hMX (by decide))), s3, ((hVX.far (p := ⟨M, 0, none⟩) hVM _).far (p := ⟨M, 1, none⟩) hVM _).far (p := ⟨M, 2, none⟩) hVM _, ((bX.setCell (p := ⟨M, 0, none⟩) hwM _).setCell (p := ⟨M, 1, none⟩) hwM _).setCell (p := ⟨M, 2, none⟩) hwM _⟩
                · omega
              · go_wp2_with fail
                generalize wr.alloc (.cells #[.int .i64 kk, .int .i64 nn] 61) = w6 at *
                generalize wr.heap.size = T at *
                refine (peek_any R O n d xs p why nn w6 hr6 (by omega) (by omega)).mono ?_
                rintro e w7 ⟨rfl, q7, rfl⟩
                replace hr6 := hr6.drewN q7
                replace ha6 := ha6.below (below_drewN (Below.refl _ _) q7)
                replace hbM6 := hbM6.drewN q7
                replace hbV6 := hbV6.drewN q7
                replace hbT6 := hbT6.drewN q7
                replace hb6 := below_drewN hb6 q7
                clear m0 m1 m2 ek en
                generalize w6.drewN q7 = w7 at *
                have m0 : w7.cell? ⟨M, 0, none⟩ = some (.slice A n c) := hbM6.cell 0
                have m1 : w7.cell? ⟨M, 1, none⟩ = some (.int .i64 (p : Int)) := hbM6.cell 1
                have m2 : w7.cell? ⟨M, 2, none⟩ = some (.int .i64 why) := hbM6.cell 2
                have t1 : w7.cell? ⟨T, 1, none⟩ = some (.int .i64 nn) := hbT6.cell 1
                generalize hx : pkB xs p why nn = x' at *
                generalize ho : pkO xs p why nn = o' at *
                have HX := Lib.hid hx; have HO := Lib.hid ho
                clear hx ho
                go_wp2_with fail
                refine (refpeek_any A n c p why nn xs w7 ha6 hple (by omega) (by omega) (by omega)).mono ?_
                rintro e w8 ⟨rfl, q8⟩
                rw [HX.out, HO.out, show vb x' = .int .u8 (x'.toNat : Int) from rfl]
                replace hr6 := hr6.below q8
                replace hbM6 := hbM6.below q8 hbM6.lt
                replace hbV6 := hbV6.below q8 hbV6.lt
                replace hb6 := hb6.trans (q8.mono hb6.size)
                clear m0 m1 m2 t1 hbT6 ha6 q8
                go_wp2
                go_roundg (gk - 1)
                · exact ⟨i + 1, p, why, by omega, by omega, by go_num, hr6, hbM6, hbV6, hb6⟩
                · omega
            · go_wp2
              go_ret
              exact ⟨rfl, hbw⟩
    · have h2' : 200 < nl := by omega
      have h3' : nl ≤ 9223372036854775807 := by omega
      clear h2 ha hL
      go_enter Try.func8, Try.ntmps8
      go_wp2_with fail
      refine (wakes1_any w).mono ?_
      rintro e w1 ⟨rfl, b1⟩
      go_wp2
      go_ret
      exact ⟨rfl, b1⟩
  · have h2' : 3000 < n := by omega
    have h3' : n ≤ 9223372036854775807 := by omega
    clear h1 ha hL
    go_enter Try.func8, Try.ntmps8
    go_wp2_with fail
    refine (wakes1_any w).mono ?_
    rintro e w1 ⟨rfl, b1⟩
    go_wp2
    go_ret
    exact ⟨rfl, b1⟩
end Go.Proofs.Ytdmfbmpllfkcaaa
