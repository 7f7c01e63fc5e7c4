/- catalog.read. Conditions: a line of at most 1000 bytes; what the tables hold. -/
import Derived.Test.YthgcdilkkldgjaaGreatDoorPkC14
namespace Go.Proofs.YthgcdilkkldgjaaGreatDoor
open Go.RowKit
def kindsQ : List (ByteArray × Int) := [(sBool, 1), (sInt, 2), (sText, 3)]
def kdF (o : Option ByteArray) (l : List (ByteArray × Int)) : Int := l.foldl (fun a p => if o = some p.1 then p.2 else a) 0
theorem kdF_snoc (o : Option ByteArray) (l : List (ByteArray × Int)) (p : ByteArray × Int) : kdF o (l ++ [p]) = if o = some p.1 then p.2 else kdF o l := by unfold kdF; rw [List.foldl_append]; rfl
theorem kdF_all (o : Option ByteArray) : kdF o kindsQ = (o.map kindOf).getD 0 := by
  have d1 : sInt ≠ sBool := by decide +kernel
  have d2 : sText ≠ sBool := by decide +kernel
  have d3 : sText ≠ sInt := by decide +kernel
  cases o with
  | none => rfl
  | some w =>
    show (if some w = some sText then (3 : Int) else if some w = some sInt then 2 else if some w = some sBool then 1 else 0) = kindOf w
    unfold kindOf
    simp only [Option.some.injEq]
    by_cases h1 : w = sBool
    · subst h1
      rw [if_neg (Ne.symm d2), if_neg (Ne.symm d1), if_pos rfl, if_pos rfl]
    · by_cases h2 : w = sInt
      · subst h2
        rw [if_neg (Ne.symm d3), if_pos rfl, if_neg h1, if_pos rfl]
      · rw [if_neg h2, if_neg h1, if_neg h1, if_neg h2]
theorem kindi0 (W : World) : Sem.run Tryz.prog (Instr.index 88 (.agg #[.string sBool, .int .i64 1, .string sInt, .int .i64 2, .string sText, .int .i64 3]) (.int .i64 0)) W = .ok (.agg #[.string sBool, .int .i64 1]) W := by kernel_rfl
theorem kindi1 (W : World) : Sem.run Tryz.prog (Instr.index 88 (.agg #[.string sBool, .int .i64 1, .string sInt, .int .i64 2, .string sText, .int .i64 3]) (.int .i64 1)) W = .ok (.agg #[.string sInt, .int .i64 2]) W := by kernel_rfl
theorem kindi2 (W : World) : Sem.run Tryz.prog (Instr.index 88 (.agg #[.string sBool, .int .i64 1, .string sInt, .int .i64 2, .string sText, .int .i64 3]) (.int .i64 2)) W = .ok (.agg #[.string sText, .int .i64 3]) W := by kernel_rfl
theorem kindQ_at (W : World) {j : Nat} {kw : ByteArray} {kk : Int} (h : kindsQ[j]? = some (kw, kk)) : (Instr.index 88 (.agg #[.string sBool, .int .i64 1, .string sInt, .int .i64 2, .string sText, .int .i64 3]) (.int .i64 (j : Int))).run Tryz.prog W = .ok (.agg #[.string kw, .int .i64 kk]) W := by
  have hj : j = 0 ∨ j = 1 ∨ j = 2 := by
    have : j < kindsQ.length := (List.getElem?_eq_some_iff.1 h).1
    have : kindsQ.length = 3 := rfl
    omega
  rcases hj with rfl | rfl | rfl
  · obtain ⟨rfl, rfl⟩ := Prod.mk.inj (Option.some.inj h); exact kindi0 W
  · obtain ⟨rfl, rfl⟩ := Prod.mk.inj (Option.some.inj h); exact kindi1 W
  · obtain ⟨rfl, rfl⟩ := Prod.mk.inj (Option.some.inj h); exact kindi2 W
theorem drop_cons {α : Type} {l : List α} {i : Nat} {x : α} (h : l[i]? = some x) : l.drop i = x :: l.drop (i + 1) := by
  have hi : i < l.length := (List.getElem?_eq_some_iff.1 h).1
  rw [List.getElem?_eq_getElem hi] at h
  injection h with h
  rw [List.drop_eq_getElem_cons hi, h]
theorem go_by {ws : List ByteArray} {i : Nat} {cs : List CO} {ks : List Int} (h : ws[i]? = some sBy) : readGo (ws.drop i) false cs ks = readGo (ws.drop (i + 1)) true cs ks := by
  rw [drop_cons h, readGo, if_pos ⟨rfl, rfl⟩]
theorem go_key {ws : List ByteArray} {i : Nat} {x : ByteArray} {cs : List CO} {ks : List Int} (h : ws[i]? = some x) : readGo (ws.drop i) true cs ks = readGo (ws.drop (i + 1)) true cs (ks ++ [fnd (idxL (fun c : CO => decide (c.name = x)) cs)]) := by
  rw [drop_cons h, readGo, if_neg (by simp), if_pos rfl]
theorem go_col {ws : List ByteArray} {i : Nat} {x : ByteArray} {cs : List CO} {ks : List Int} (h : ws[i]? = some x) (hx : x ≠ sBy) : readGo (ws.drop i) false cs ks = readGo (ws.drop (i + 2)) false (cs ++ [⟨x, kdF ws[i + 1]? kindsQ⟩]) ks := by
  rw [drop_cons h, readGo, if_neg (fun e => hx e.1), if_neg (by decide), kdF_all, List.tail_drop, List.head?_drop]
theorem readGo_nil (b : Bool) (cs : List CO) (ks : List Int) : readGo [] b cs ks = (cs, ks) := by rw [readGo]
theorem tabI : (Tryz.prog.info? 41).map (·.size) = some 3 := by kernel_rfl
def RdO (t : TC) (w : World) (e : Ending) (w' : World) : Prop := ∃ A n c K m d, e = .returned (.agg (t.cells A n c K m d)) ∧ LCO.rd w' AllB A n t.cols ∧ LK.rd w' AllB K m t.keys ∧ Below w.heap.size w w'
theorem Tryz.intInfo9 : (Tryz.prog.info? 3).map (fun i => (i.zero, i.size, i.bytes)) = some (some (.int .i64 0), 1, 8) := by kernel_rfl
theorem LK_one {w : World} {g : Nat} {t : TypeId} {k : Int} (h : Blk w g t #[.int .i64 k]) : LK.rd w (fun b => b = g) (some ⟨g, 0, none⟩) 1 [k] := Lay.rd_blk h rfl ⟨[.int .i64 k], [], rfl, rfl, rfl⟩ rfl
theorem LCO_one {w : World} {g : Nat} {t : TypeId} {x : ByteArray} {k : Int} (h : Blk w g t #[.string x, .int .i64 k]) : LCO.rd w (fun b => b = g) (some ⟨g, 0, none⟩) 1 [⟨x, k⟩] := Lay.rd_blk h rfl ⟨[.string x, .int .i64 k], [], rfl, rfl, rfl⟩ rfl
set_option maxRecDepth 100000 in
set_option maxHeartbeats 16000000 in
theorem read_any (s : ByteArray) (hs : s.size ≤ 1000) (w : World) (hT : Tab w) : Calls Tryz.prog 24 #[.string s] w (RdO (readT s.data.toList) w) := by
  obtain ⟨ws, hws⟩ : ∃ ws, ws = wordsOf s.data.toList := ⟨_, rfl⟩
  have hwl : ws.length ≤ 1002 := by
    rw [hws, wordsOf]
    have h1 := Lib.splitB_length_le ⟨#[32]⟩ 0 (Lib.countB ⟨(Lib.trimSuffix s.data.toList [10]).toArray⟩ ⟨#[32]⟩) ⟨(Lib.trimSuffix s.data.toList [10]).toArray⟩
    have h2 : Lib.countB ⟨(Lib.trimSuffix s.data.toList [10]).toArray⟩ ⟨#[32]⟩ ≤ (Lib.trimSuffix s.data.toList [10]).length + 1 := Lib.count_le _ _
    have h3 : (Lib.trimSuffix s.data.toList [10]).length ≤ s.data.toList.length := by
      unfold Lib.trimSuffix
      split
      · rw [List.length_take]; omega
      · omega
    have h4 : s.data.toList.length = s.size := by simp
    omega
  have HLN := Lib.hid hwl
  have HRT := Lib.hid (show readT s.data.toList = readW ws from by unfold readT; rw [hws])
  have HWS := Lib.hid hws
  have HTT := Lib.hid hT
  have HSS := Lib.hid hs
  clear hws hwl hs
  have q1 := bl_al (Below.refl w.heap.size w) (.cells #[.string ⟨#[]⟩, .slice none 0 0, .slice none 0 0] 41)
  have HR1 := Lib.hid (Blk.new w 41 #[.string ⟨#[]⟩, .slice none 0 0, .slice none 0 0])
  have HQ1 := Lib.hid q1
  have hz1 : (w.alloc (.cells #[.string ⟨#[]⟩, .slice none 0 0, .slice none 0 0] 41)).heap.size = w.heap.size + 1 := World.size_alloc _ _
  clear q1 hT
  go_enter Tryz.func24, Tryz.ntmps24
  go_wp2_with fail
  generalize w.alloc (.cells #[.string ⟨#[]⟩, .slice none 0 0, .slice none 0 0] 41) = w1 at *
  refine (Tryz.strings_TrimSuffix s ⟨#[10]⟩ w1 (by have := HSS.out; omega)).mono ?_
  rintro e w1 ⟨rfl, rfl⟩
  go_wp2_with fail
  obtain ⟨mm, hmm⟩ := (HTT.out.below HQ1.out).ml
  have hts : (⟨(Lib.trimSuffix s.data.toList (⟨#[10]⟩ : ByteArray).data.toList).toArray⟩ : ByteArray).size ≤ 1000 := by
    have h3 : (Lib.trimSuffix s.data.toList [10]).length ≤ s.data.toList.length := by
      unfold Lib.trimSuffix
      split
      · rw [List.length_take]; omega
      · omega
    have h4 : s.data.toList.length = s.size := by simp
    have h5 := HSS.out
    show (Lib.trimSuffix s.data.toList [10]).toArray.size ≤ 1000
    rw [List.size_toArray]; omega
  refine (Tryz.strings_Split _ ⟨#[32]⟩ mm w1 (Nat.lt_of_le_of_lt hts (by decide)) hmm (by decide)).mono ?_
  rintro e w2 ⟨rfl, hw2⟩
  have hsp : Lib.splitB ⟨#[32]⟩ 0 (Lib.countB ⟨(Lib.trimSuffix s.data.toList (⟨#[10]⟩ : ByteArray).data.toList).toArray⟩ ⟨#[32]⟩) ⟨(Lib.trimSuffix s.data.toList (⟨#[10]⟩ : ByteArray).data.toList).toArray⟩ = ws := HWS.out.symm
  have hcn : Lib.countB ⟨(Lib.trimSuffix s.data.toList (⟨#[10]⟩ : ByteArray).data.toList).toArray⟩ ⟨#[32]⟩ + 1 = ws.length := by
    rw [← hsp]
    exact (Lib.splitB_all ⟨#[32]⟩ (by decide) 0 _ _ rfl).symm
  rw [hsp] at hw2
  rw [hcn, hz1]
  have HB2 := Lib.hid (show Blk w2 (w.heap.size + 1) 9 (ws.map Value.string).toArray from by rw [hw2, ← hz1]; exact Blk.new _ _ _)
  have hz2 : w2.heap.size = w.heap.size + 2 := by rw [hw2, World.size_alloc, hz1]
  have HQ2 := Lib.hid (show Below w.heap.size w w2 from by rw [hw2]; exact bl_al HQ1.out _)
  have HR2 := Lib.hid (show Blk w2 w.heap.size 41 #[.string ⟨#[]⟩, .slice none 0 0, .slice none 0 0] from by rw [hw2]; exact HR1.out.alloc _)
  clear hw2 hsp hcn hts hmm hz1
  have q3 := bl_al (Below.refl w2.heap.size w2) (.cells #[.string ⟨#[]⟩, .slice none 0 0, .slice none 0 0] 41)
  have hn1 := Blk.new w2 41 #[.string ⟨#[]⟩, .slice none 0 0, .slice none 0 0]
  rw [hz2] at hn1
  have HS3 := Lib.hid (show RdS w (w2.alloc (.cells #[.string ⟨#[]⟩, .slice none 0 0, .slice none 0 0] 41)) ⟨w.heap.size + 1, 0, none⟩ ws ⟨#[]⟩ none 0 0 none 0 0 [] [] from
    ⟨LS_blk (HB2.out.ca q3) rfl rfl, hn1, Lay.own_nil _ _, Lay.own_nil _ _, fun k e => by simp [Value.ownBlock] at e, HR2.out.ca q3, bl_ca HQ2.out q3, by rw [World.size_alloc]; omega⟩)
  clear q3 hn1 HB2 HQ2 HR2 HR1 HQ1
  go_upto_region 3 with fail
  clear hz2
  generalize w2.alloc (.cells #[.string ⟨#[]⟩, .slice none 0 0, .slice none 0 0] 41) = w3 at *
  obtain ⟨ad, hadE⟩ : ∃ ad : Addr, ad = ⟨w.heap.size + 1, 0, none⟩ := ⟨_, rfl⟩
  rw [← hadE] at HS3 ⊢
  clear hadE
  obtain ⟨N, hN⟩ : ∃ N, N = ws.length := ⟨_, rfl⟩
  rw [← hN]
  have HN := Lib.hid hN
  have hN9 : N ≤ 1002 := by have := HLN.out; omega
  clear hN
  -- the name
  go_upto_if 17 with fail
  go_cut [] (fun wx => ∃ nm, Hid (nm = (ws[1]?).getD ⟨#[]⟩) ∧ Hid (RdS w wx ad ws nm none 0 0 none 0 0 [] []))
  case first =>
    by_cases h1 : 1 < N
    · have hi1 : (1 : Int) < (N : Int) := by omega
      obtain ⟨ad', x, hae, hx, cx⟩ := LS_at HS3.out.ws (show 1 < ws.length by rw [← HN.out]; exact h1)
      obtain rfl : ad = ad' := by injection hae
      have f0 : w3.frozen? ⟨w.heap.size + 2, 0, none⟩ = false := HS3.out.t.frozen 0
      have y0 : w3.cell? ⟨w.heap.size + 2, 0, none⟩ = some (.string ⟨#[]⟩) := HS3.out.t.cell 0
      have HX := Lib.hid (show x = (ws[1]?).getD ⟨#[]⟩ from by rw [hx]; rfl)
      have cx1 : w3.cell? ⟨ad.block, ad.off + 1, none⟩ = some (.string x) := by rw [← cx]; unfold Addr.add; simp
      clear hx hae cx
      go_wp2_with fail
      go_meet
      exact ⟨x, HX, Lib.hid (HS3.out.named x)⟩
    · have hi1 : (N : Int) ≤ 1 := by omega
      have HX := Lib.hid (show (⟨#[]⟩ : ByteArray) = (ws[1]?).getD ⟨#[]⟩ from by rw [List.getElem?_eq_none (by rw [← HN.out]; omega)]; rfl)
      go_wp2_with fail
      go_meet
      exact ⟨_, HX, HS3⟩
  case rest =>
    obtain ⟨nm, HNM, HS4⟩ := hcut
    clear HS3
    obtain ⟨w4, rfl⟩ : ∃ x, x = wc := ⟨_, rfl⟩
    have HFN := Lib.hid (show readW ws = ⟨nm, (readGo (ws.drop 2) false [] []).1, (readGo (ws.drop 2) false [] []).2⟩ from by unfold readW; rw [HNM.out])
    go_wp2_with fail
    go_loopg [5, 6] N (fun g a b wr => ∃ (i : Nat) (by_ : Bool) (A : Option Addr) (n c : Nat) (K : Option Addr) (m d : Nat) (cs : List CO) (ks : List Int), i + g = N + 2 ∧ a = .bool by_ ∧ b = .int .i64 (i : Int) ∧ n ≤ 2000 ∧ m ≤ 2000 ∧ n + m ≤ i ∧ Hid (RdS w wr ad ws nm A n c K m d cs ks) ∧ Hid (readGo (ws.drop 2) false [] [] = readGo (ws.drop i) by_ cs ks))
    case atStart => exact ⟨2, false, none, 0, 0, none, 0, 0, [], [], by omega, rfl, rfl, by omega, by omega, by omega, HS4, Lib.hid rfl⟩
    case round =>
      obtain ⟨i, by_, A, n, c, K, m, d, cs, ks, hig, rfl, rfl, hn9, hm9, hnm, HS, HG⟩ := hrel
      clear HS4
      by_cases hlt : i < N
      case neg =>
        have hi1 : (N : Int) ≤ (i : Int) := by omega
        have HE := Lib.hid (show readGo (ws.drop 2) false [] [] = (cs, ks) from by rw [HG.out, List.drop_of_length_le (by rw [← HN.out]; omega)]; exact readGo_nil _ _ _)
        have t0 : wr.cell? ⟨w.heap.size + 2, 0, none⟩ = some (.string nm) := HS.out.t.cell 0
        have t1 : wr.cell? ⟨w.heap.size + 2, 1, none⟩ = some (.slice A n c) := HS.out.t.cell 1
        have t2 : wr.cell? ⟨w.heap.size + 2, 2, none⟩ = some (.slice K m d) := HS.out.t.cell 2
        have HRR := Lib.hid HS.out.r
        go_wp2_with (refine wpList_store_blk rfl 41 (.tmp 2) (.tmp 89) rfl w.heap.size 41 _ _ rfl rfl HRR.out rfl tabI (by simp [Value.oneCell']) ?_; intro wz hZ gz)
        have ho1 := LCO_own_to (G' := fun _ => True) HS.out.co (fun k hk => gz.block k (own_lt HS.out.co k hk).2 (fun e => by injection e with e; have := (own_lt HS.out.co k hk).1; omega))
        have ho2 := LK_own_to (G' := fun _ => True) HS.out.ko (fun k hk => gz.block k (own_lt HS.out.ko k hk).2 (fun e => by injection e with e; have := (own_lt HS.out.ko k hk).1; omega))
        have hrt : readT s.data.toList = ⟨nm, cs, ks⟩ := by rw [HRT.out, HFN.out, HE.out]
        exact bodyPost_ret (res1 Tryz.results24 rfl hZ Tryz.underlying41 rfl tabI) rfl ⟨A, n, c, K, m, d, by rw [hrt], by rw [hrt]; exact Lay.own_rd ho1 (fun _ _ _ => trivial) (fun _ _ _ => trivial), by rw [hrt]; exact Lay.own_rd ho2 (fun _ _ _ => trivial) (fun _ _ _ => trivial), bl_gr HS.out.q gz (Nat.le_refl _)⟩
      case pos =>
        have hi1 : (i : Int) < (N : Int) := by omega
        obtain ⟨ad', x, hae, hx, cx⟩ := LS_at HS.out.ws (show i < ws.length by rw [← HN.out]; exact hlt)
        obtain rfl : ad = ad' := by injection hae
        have HX := Lib.hid hx
        clear hx hae
        by_cases hb : x = sBy ∧ by_ = false
        · obtain ⟨hxb, rfl⟩ := hb
          have HX2 := Lib.hid (HG.out.trans (go_by (hxb ▸ HX.out)))
          have hty : (x.toList == [98, 121]) = true := by rw [hxb, ByteArray.toList_eq]; rfl
          clear hxb
          go_wp2_with fail
          go_roundg (gk - 1)
          · exact ⟨i + 1, true, A, n, c, K, m, d, cs, ks, by omega, rfl, by go_num, hn9, hm9, by omega, HS, HX2⟩
          · omega
        cases by_
        case true =>
          obtain ⟨zz, hzz⟩ : ∃ z, z = fnd (idxL (fun c : CO => decide (c.name = x)) cs) := ⟨_, rfl⟩
          obtain ⟨zb, hzb⟩ : ∃ z, z = decide (0 ≤ idxL (fun c : CO => decide (c.name = x)) cs) := ⟨_, rfl⟩
          have hrd : LCO.rd wr AllB A n cs := Lay.own_rd HS.out.co (fun _ _ _ => trivial) (fun _ _ _ => trivial)
          have HC := Lib.hid (fun w9 (q : Below wr.heap.size wr w9) => column_any AllB ⟨nm, cs, ks⟩ A n c K m d x w9 (Lay.rd_below hrd q) (by omega))
          have HX2 := Lib.hid (HG.out.trans (go_key HX.out))
          simp only [← hzz, ← hzb] at HC
          rw [← hzz] at HX2
          have HTB := Lib.hid HS.out.t
          clear hzz hzb hrd hb
          have t0 : (x.toList == [98, 121]) = true ∨ (x.toList == [98, 121]) = false := by cases (x.toList == [98, 121]) <;> simp
          rcases t0 with t0 | t0
          · skip
            go_upto_region 12 with fail
            clear t0
            generalize hw6 : wr = w6 at *
            clear hw6
            refine wp_region_ps (S := fun _ _ w' => Below w6.heap.size w6 w') (by kernel_rfl) ?spswg1 ?ppswg1
            case spswg1 =>
              exact (Below.refl w6.heap.size w6).drew
            refine Ps.st (i := 0) (d := some 39) (u := (.agg #[.string nm, .slice A n c, .slice K m d])) rfl rfl ?ywg1_2 ?rwg1_2
            case ywg1_2 =>
              refine StepS.read [] (by kernel_rfl) nP (by rfl) (fun L9 m9 w9 hSh hAt hDn hS => ?_)
              have hT : Below _ _ w9 := hS
              have x0 : w9.cell? ⟨w.heap.size + 2, 0, none⟩ = some (.string nm) := (HTB.out.ca hT).cell 0
              have x1 : w9.cell? ⟨w.heap.size + 2, 1, none⟩ = some (.slice A n c) := (HTB.out.ca hT).cell 1
              have x2 : w9.cell? ⟨w.heap.size + 2, 2, none⟩ = some (.slice K m d) := (HTB.out.ca hT).cell 2
              clear hT hS
              go_simp
              try rfl
            try simp only [Act.put, sA, sZ, sS]
            refine Ps.st (i := 1) (d := some 40) (u := (.slice (some ad) N N)) rfl rfl (by exact StepS.pure nP rfl fun _ => rfl) ?_
            try simp only [Act.put, sA, sZ, sS]
            refine Ps.st (i := 2) (d := some 41) (u := (.int .i64 ((i : Int)))) rfl rfl (by exact StepS.pure nP rfl fun _ => rfl) ?_
            try simp only [Act.put, sA, sZ, sS]
            refine Ps.st (i := 3) (d := some 42) (u := (.pointer (some (ad.add i)))) rfl rfl (by exact StepS.pure nP rfl fun _ => by first | rfl | (go_simp; done) | (go_simp; rfl)) ?_
            try simp only [Act.put, sA, sZ, sS]
            refine Ps.st (i := 4) (d := some 43) (u := (.string x)) rfl rfl ?ywg1_6 ?rwg1_6
            case ywg1_6 =>
              refine StepS.read [] (by kernel_rfl) nP (by rfl) (fun L9 m9 w9 hSh hAt hDn hS => ?_)
              have hT : Below _ _ w9 := hS
              have x0 : w9.cell? (ad.add i) = some (.string x) := ce cx hT
              clear hT hS
              go_simp
              try rfl
            try simp only [Act.put, sA, sZ, sS]
            refine Ps.st (i := 5) (d := some 44) (u := (.tuple #[.int .i64 (zz), .bool (zb)])) rfl rfl ?ywg1_7 ?rwg1_7
            case ywg1_7 =>
              refine StepS.call ?fwg1_7 ?awg1_7 [] (by kernel_rfl) (by rfl) (fun w9 => ?hwg1_7) (fun L9 m9 w9 hSh hAt hDn hS => ?cwg1_7)
              case hwg1_7 => go_simp; refine ⟨?_, ?_⟩ <;> rfl
              case cwg1_7 =>
                have hT : Below _ _ w9 := hS
                refine (HC.out w9 hT).mono ?_
                rintro e w8 ⟨rfl, q8⟩
                exact ⟨rfl, bl_ca hT q8⟩
            try simp only [Act.put, sA, sZ, sS]
            refine Ps.st (i := 6) (d := some 38) (u := (.tuple #[.int .i64 (zz), .bool (zb)])) rfl rfl (by exact StepS.pure nP rfl fun _ => rfl) ?_
            try simp only [Act.put, sA, sZ, sS]
            refine Ps.st (i := 7) (d := some 45) (u := (.int .i64 (zz))) rfl rfl (by exact StepS.pure nP rfl fun _ => rfl) ?_
            try simp only [Act.put, sA, sZ, sS]
            refine Ps.st (i := 8) (d := some 46) (u := (.bool (zb))) rfl rfl (by exact StepS.pure nP rfl fun _ => rfl) ?_
            try simp only [Act.put, sA, sZ, sS]
            refine Ps.st (i := 9) (d := some 7) (u := (.int .i64 (zz))) rfl rfl (by exact StepS.pure nP rfl fun _ => rfl) ?_
            try simp only [Act.put, sA, sZ, sS]
            refine Ps.st (i := 10) (d := some 8) (u := (.bool (zb))) rfl rfl (by exact StepS.pure nP rfl fun _ => rfl) ?_
            try simp only [Act.put, sA, sZ, sS]
            refine Ps.done (by kernel_rfl) (fun wg1 hS => ?_) _
            have HWW := Lib.hid (show Below w6.heap.size w6 wg1 from hS)
            clear hS
            obtain ⟨wx, rfl⟩ : ∃ x, x = wg1 := ⟨_, rfl⟩
            have HS7 := Lib.hid (HS.out.below HWW.out)
            clear HTB HC cx HWW HS
            have q8 := bl_al (Below.refl wx.heap.size wx) (.cells #[.int .i64 zz] 3)
            have HS8 := Lib.hid (HS7.out.below q8)
            have HN8 := Lib.hid (Blk.new wx 3 #[.int .i64 zz])
            have hz8 : (wx.alloc (.cells #[.int .i64 zz] 3)).heap.size = wx.heap.size + 1 := World.size_alloc _ _
            have HOB := Lib.hid (fun k e => own_lt HS7.out.ko k e)
            have HSZ := Lib.hid HS7.out.sz
            have t2 : wx.cell? ⟨w.heap.size + 2, 2, none⟩ = some (.slice K m d) := HS7.out.t.cell 2
            have t28 : (wx.alloc (.cells #[.int .i64 zz] 3)).cell? ⟨w.heap.size + 2, 2, none⟩ = some (.slice K m d) := HS8.out.t.cell 2
            have HOK := Lib.hid (LK_own_to (G' := fun b => b < wx.heap.size + 1) HS8.out.ko (fun _ _ => rfl))
            go_wp2_with (at_builtin; refine wpList_appLs (L := LK) rfl (.tmp 48) (.tmp 50) 39 rfl _ 1 8 Tryz.underlying39 Tryz.intInfo9 rfl rfl (by omega) (w.heap.size + 3) (fun b => b < wx.heap.size + 1) (fun b => b = wx.heap.size) K m d ks (some ⟨wx.heap.size, 0, none⟩) 1 1 [zz] (m + 1) rfl rfl rfl HOK.out (LK_one HN8.out) (fun b hb _ => ⟨by omega, fun e => by have h9 := HOB.out b e; omega⟩) (fun b hb => by rw [hz8]; exact hb) (by omega) (by unfold maxLen; omega) (by rw [hz8]; have := HSZ.out; omega) ?_; intro K9 d9 w9 ho9 hg9 hat9; have HS9 := Lib.hid (HS8.out.keyed (LK_own_to (G' := fun _ => True) ho9 (fun _ _ => rfl)) hg9 hat9); have x9 : w9.cell? ⟨w.heap.size + 2, 2, none⟩ = some (.slice K m d) := (HS8.out.t.grown hg9 (fun e => by have := (own_lt HS8.out.ko _ e.symm).1; omega)).cell 2; have f9 : w9.frozen? ⟨w.heap.size + 2, 2, none⟩ = false := (HS8.out.t.grown hg9 (fun e => by have := (own_lt HS8.out.ko _ e.symm).1; omega)).frozen 2; clear ho9 hg9 hat9 q8 t2 t28)
            go_roundg (gk - 1)
            · exact ⟨i + 1, true, A, n, c, K9, m + 1, d9, cs, ks ++ [zz], by omega, rfl, by go_num, hn9, by omega, by omega, HS9, HX2⟩
            · omega
          · skip
            go_upto_region 12 with fail
            clear t0
            generalize hw6 : wr = w6 at *
            clear hw6
            refine wp_region_ps (S := fun _ _ w' => Below w6.heap.size w6 w') (by kernel_rfl) ?spswg13 ?ppswg13
            case spswg13 =>
              exact (Below.refl w6.heap.size w6).drew
            refine Ps.st (i := 0) (d := some 39) (u := (.agg #[.string nm, .slice A n c, .slice K m d])) rfl rfl ?ywg13_14 ?rwg13_14
            case ywg13_14 =>
              refine StepS.read [] (by kernel_rfl) nP (by rfl) (fun L9 m9 w9 hSh hAt hDn hS => ?_)
              have hT : Below _ _ w9 := hS
              have x0 : w9.cell? ⟨w.heap.size + 2, 0, none⟩ = some (.string nm) := (HTB.out.ca hT).cell 0
              have x1 : w9.cell? ⟨w.heap.size + 2, 1, none⟩ = some (.slice A n c) := (HTB.out.ca hT).cell 1
              have x2 : w9.cell? ⟨w.heap.size + 2, 2, none⟩ = some (.slice K m d) := (HTB.out.ca hT).cell 2
              clear hT hS
              go_simp
              try rfl
            try simp only [Act.put, sA, sZ, sS]
            refine Ps.st (i := 1) (d := some 40) (u := (.slice (some ad) N N)) rfl rfl (by exact StepS.pure nP rfl fun _ => rfl) ?_
            try simp only [Act.put, sA, sZ, sS]
            refine Ps.st (i := 2) (d := some 41) (u := (.int .i64 ((i : Int)))) rfl rfl (by exact StepS.pure nP rfl fun _ => rfl) ?_
            try simp only [Act.put, sA, sZ, sS]
            refine Ps.st (i := 3) (d := some 42) (u := (.pointer (some (ad.add i)))) rfl rfl (by exact StepS.pure nP rfl fun _ => by first | rfl | (go_simp; done) | (go_simp; rfl)) ?_
            try simp only [Act.put, sA, sZ, sS]
            refine Ps.st (i := 4) (d := some 43) (u := (.string x)) rfl rfl ?ywg13_18 ?rwg13_18
            case ywg13_18 =>
              refine StepS.read [] (by kernel_rfl) nP (by rfl) (fun L9 m9 w9 hSh hAt hDn hS => ?_)
              have hT : Below _ _ w9 := hS
              have x0 : w9.cell? (ad.add i) = some (.string x) := ce cx hT
              clear hT hS
              go_simp
              try rfl
            try simp only [Act.put, sA, sZ, sS]
            refine Ps.st (i := 5) (d := some 44) (u := (.tuple #[.int .i64 (zz), .bool (zb)])) rfl rfl ?ywg13_19 ?rwg13_19
            case ywg13_19 =>
              refine StepS.call ?fwg13_19 ?awg13_19 [] (by kernel_rfl) (by rfl) (fun w9 => ?hwg13_19) (fun L9 m9 w9 hSh hAt hDn hS => ?cwg13_19)
              case hwg13_19 => go_simp; refine ⟨?_, ?_⟩ <;> rfl
              case cwg13_19 =>
                have hT : Below _ _ w9 := hS
                refine (HC.out w9 hT).mono ?_
                rintro e w8 ⟨rfl, q8⟩
                exact ⟨rfl, bl_ca hT q8⟩
            try simp only [Act.put, sA, sZ, sS]
            refine Ps.st (i := 6) (d := some 38) (u := (.tuple #[.int .i64 (zz), .bool (zb)])) rfl rfl (by exact StepS.pure nP rfl fun _ => rfl) ?_
            try simp only [Act.put, sA, sZ, sS]
            refine Ps.st (i := 7) (d := some 45) (u := (.int .i64 (zz))) rfl rfl (by exact StepS.pure nP rfl fun _ => rfl) ?_
            try simp only [Act.put, sA, sZ, sS]
            refine Ps.st (i := 8) (d := some 46) (u := (.bool (zb))) rfl rfl (by exact StepS.pure nP rfl fun _ => rfl) ?_
            try simp only [Act.put, sA, sZ, sS]
            refine Ps.st (i := 9) (d := some 7) (u := (.int .i64 (zz))) rfl rfl (by exact StepS.pure nP rfl fun _ => rfl) ?_
            try simp only [Act.put, sA, sZ, sS]
            refine Ps.st (i := 10) (d := some 8) (u := (.bool (zb))) rfl rfl (by exact StepS.pure nP rfl fun _ => rfl) ?_
            try simp only [Act.put, sA, sZ, sS]
            refine Ps.done (by kernel_rfl) (fun wg13 hS => ?_) _
            have HWW := Lib.hid (show Below w6.heap.size w6 wg13 from hS)
            clear hS
            obtain ⟨wx, rfl⟩ : ∃ x, x = wg13 := ⟨_, rfl⟩
            have HS7 := Lib.hid (HS.out.below HWW.out)
            clear HTB HC cx HWW HS
            have q8 := bl_al (Below.refl wx.heap.size wx) (.cells #[.int .i64 zz] 3)
            have HS8 := Lib.hid (HS7.out.below q8)
            have HN8 := Lib.hid (Blk.new wx 3 #[.int .i64 zz])
            have hz8 : (wx.alloc (.cells #[.int .i64 zz] 3)).heap.size = wx.heap.size + 1 := World.size_alloc _ _
            have HOB := Lib.hid (fun k e => own_lt HS7.out.ko k e)
            have HSZ := Lib.hid HS7.out.sz
            have t2 : wx.cell? ⟨w.heap.size + 2, 2, none⟩ = some (.slice K m d) := HS7.out.t.cell 2
            have t28 : (wx.alloc (.cells #[.int .i64 zz] 3)).cell? ⟨w.heap.size + 2, 2, none⟩ = some (.slice K m d) := HS8.out.t.cell 2
            have HOK := Lib.hid (LK_own_to (G' := fun b => b < wx.heap.size + 1) HS8.out.ko (fun _ _ => rfl))
            go_wp2_with (at_builtin; refine wpList_appLs (L := LK) rfl (.tmp 48) (.tmp 50) 39 rfl _ 1 8 Tryz.underlying39 Tryz.intInfo9 rfl rfl (by omega) (w.heap.size + 3) (fun b => b < wx.heap.size + 1) (fun b => b = wx.heap.size) K m d ks (some ⟨wx.heap.size, 0, none⟩) 1 1 [zz] (m + 1) rfl rfl rfl HOK.out (LK_one HN8.out) (fun b hb _ => ⟨by omega, fun e => by have h9 := HOB.out b e; omega⟩) (fun b hb => by rw [hz8]; exact hb) (by omega) (by unfold maxLen; omega) (by rw [hz8]; have := HSZ.out; omega) ?_; intro K9 d9 w9 ho9 hg9 hat9; have HS9 := Lib.hid (HS8.out.keyed (LK_own_to (G' := fun _ => True) ho9 (fun _ _ => rfl)) hg9 hat9); have x9 : w9.cell? ⟨w.heap.size + 2, 2, none⟩ = some (.slice K m d) := (HS8.out.t.grown hg9 (fun e => by have := (own_lt HS8.out.ko _ e.symm).1; omega)).cell 2; have f9 : w9.frozen? ⟨w.heap.size + 2, 2, none⟩ = false := (HS8.out.t.grown hg9 (fun e => by have := (own_lt HS8.out.ko _ e.symm).1; omega)).frozen 2; clear ho9 hg9 hat9 q8 t2 t28)
            go_roundg (gk - 1)
            · exact ⟨i + 1, true, A, n, c, K9, m + 1, d9, cs, ks ++ [zz], by omega, rfl, by go_num, hn9, by omega, by omega, HS9, HX2⟩
            · omega
        case false =>
          have hxb : x ≠ sBy := fun e => hb ⟨e, rfl⟩
          have hty : (x.toList == [98, 121]) = false := by
            rw [beq_eq_false_iff_ne]
            intro e
            apply hxb
            rw [ByteArray.toList_eq] at e
            have : x = ⟨x.data.toList.toArray⟩ := by simp
            rw [this, e]; rfl
          have HX2 := Lib.hid (HG.out.trans (go_col HX.out hxb))
          have HS5 := Lib.hid (HS.out.below (bl_al (Below.refl wr.heap.size wr) (.cells #[.string x, .int .i64 0] 71)))
          have HC5 := Lib.hid (Blk.new wr 71 #[.string x, .int .i64 0])
          have HGA := Lib.hid (And.intro (fun e => by have := (own_lt HS.out.co wr.heap.size e).2; omega : (Value.slice A n c).ownBlock ≠ some wr.heap.size) (fun e => by have := (own_lt HS.out.ko wr.heap.size e).2; omega : (Value.slice K m d).ownBlock ≠ some wr.heap.size))
          have HG3 := Lib.hid HS.out.sz
          clear hxb hb
          go_upto_region 15 with fail
          clear hty cx HS HG
          obtain ⟨gc, hgc⟩ : ∃ g, g = wr.heap.size := ⟨_, rfl⟩
          rw [← hgc] at HC5 HGA HG3 ⊢
          clear hgc
          generalize wr.alloc (.cells #[.string x, .int .i64 0] 71) = w5 at *
          have hTB := HTT.out.below HS5.out.q
          have k0 := hTB.k0
          have k1 := hTB.k1
          have k2 := hTB.k2
          have k3 := hTB.k3
          have k4 := hTB.k4
          have k5 := hTB.k5
          clear hTB
          obtain ⟨k9, rfl⟩ : ∃ k9, k9 = gk := ⟨_, rfl⟩
          have hwr : IntKind.i64.wrap ((i : Int) + 1) = (i : Int) + 1 := by unfold IntKind.wrap; simp [IntKind.bits, IntKind.signed]; omega
          have hnn : 0 ≤ (i : Int) + 1 := by omega
          by_cases hi2 : i + 1 < N
          · have hi3 : (i : Int) + 1 < (N : Int) := by omega
            obtain ⟨x2, hx2⟩ : ∃ x2, ws[i + 1]? = some x2 := ⟨_, List.getElem?_eq_getElem (show i + 1 < ws.length by rw [← HN.out]; exact hi2)⟩
            rw [hx2] at HX2
            have HXB := Lib.hid hx2
            clear hx2
            go_wp2_with fail
            clear k0 k1 k2 k3 k4 k5
            go_loopg [59] 3 (fun g a wq => ∃ (j : Nat), j + g = 3 ∧ a = .int .i64 (j : Int) ∧ Hid (RdS w wq ad ws nm A n c K m d cs ks) ∧ Hid (Blk wq gc 71 #[.string x, .int .i64 (kdF (some x2) (kindsQ.take j))]))
            case atStart => exact ⟨0, by omega, rfl, HS5, HC5⟩
            case round =>
              clear HS5 HC5
              obtain ⟨j, hjg, rfl, HSJ, HCJ⟩ := hrel
              by_cases hj : j < 3
              case pos =>
                obtain ⟨⟨kw, kk⟩, hkk⟩ : ∃ p, kindsQ[j]? = some p := ⟨_, List.getElem?_eq_getElem (show j < kindsQ.length from hj)⟩
                have hidx := fun W => kindQ_at W hkk
                have HTK := Lib.hid (show kindsQ.take (j + 1) = kindsQ.take j ++ [(kw, kk)] from by rw [List.take_add_one, hkk]; rfl)
                have hj1 : (j : Int) < 3 := by omega
                have HK6 := Lib.hid (Blk.new wr 87 #[.string kw, .int .i64 kk])
                have HS6 := Lib.hid (HSJ.out.below (bl_al (Below.refl wr.heap.size wr) (.cells #[.string kw, .int .i64 kk] 87)))
                have HC6 := Lib.hid (HCJ.out.alloc (.cells #[.string kw, .int .i64 kk] 87))
                have HNE := Lib.hid (show gc ≠ wr.heap.size from by have := HCJ.out.lt; omega)
                clear hkk
                go_upto_region 18 with fail
                clear hidx
                obtain ⟨g6, hg6⟩ : ∃ g, g = wr.heap.size := ⟨_, rfl⟩
                rw [← hg6] at HK6 HNE ⊢
                clear hg6
                generalize wr.alloc (.cells #[.string kw, .int .i64 kk] 87) = w6 at *
                obtain ⟨ad', x2', hae, hx2', cx2⟩ := LS_at HS6.out.ws (show i + 1 < ws.length by rw [← HN.out]; exact hi2)
                obtain rfl : ad = ad' := by injection hae
                obtain rfl : x2 = x2' := by have := HXB.out.symm.trans hx2'; injection this
                have cx2 : w6.cell? ⟨ad.block, ad.off + (i + 1), none⟩ = some (.string x2) := by rw [← cx2]; unfold Addr.add; simp
                clear hae hx2'
                by_cases hxk : x2 = kw
                · have hxt : (x2.toList == kw.toList) = true := by rw [hxk]; simp
                  have HXK := Lib.hid hxk
                  refine wp_region_ps (S := fun _ _ w' => Below w6.heap.size w6 w') (by kernel_rfl) ?spswg25 ?ppswg25
                  case spswg25 =>
                    exact (Below.refl w6.heap.size w6).drew
                  refine Ps.st (i := 0) (d := some 62) (u := (.int .i64 ((i : Int)))) rfl rfl (by exact StepS.pure nP rfl fun _ => rfl) ?_
                  try simp only [Act.put, sA, sZ, sS]
                  refine Ps.st (i := 1) (d := some 63) (u := (.int .i64 ((i : Int) + 1))) rfl rfl ?ywg25_27 ?rwg25_27
                  case ywg25_27 =>
                    refine StepS.pure nP (by rfl) (fun w9 => ?_)
                    first | rfl | (go_simp; done) | (go_simp; rfl) | (go_simp; rw [hwr])
                  try simp only [Act.put, sA, sZ, sS]
                  refine Ps.st (i := 2) (d := some 64) (u := (.slice (some ad) N N)) rfl rfl (by exact StepS.pure nP rfl fun _ => rfl) ?_
                  try simp only [Act.put, sA, sZ, sS]
                  refine Ps.st (i := 3) (d := some 65) (u := (.int .i64 ((N : Int)))) rfl rfl (by exact StepS.pure nP rfl fun _ => by first | rfl | (go_simp; done) | (go_simp; rfl)) ?_
                  try simp only [Act.put, sA, sZ, sS]
                  refine Ps.st (i := 4) (d := some 66) (u := (.bool (true))) rfl rfl ?ywg25_30 ?rwg25_30
                  case ywg25_30 =>
                    refine StepS.pure nP (by rfl) (fun w9 => ?_)
                    first | rfl | (go_simp; done) | (go_simp; rfl) | (go_simp; rw [hwr])
                  try simp only [Act.put, sA, sZ, sS]
                  refine Ps.st (i := 5) (d := some 67) (u := (.bool (true))) rfl rfl (by exact StepS.pure nP rfl fun _ => rfl) ?_
                  try simp only [Act.put, sA, sZ, sS]
                  refine Ps.st (i := 6) (d := some 68) (u := (.slice (some ad) N N)) rfl rfl (by exact StepS.pure nP rfl fun _ => rfl) ?_
                  try simp only [Act.put, sA, sZ, sS]
                  refine Ps.st (i := 7) (d := some 69) (u := (.int .i64 ((i : Int)))) rfl rfl (by exact StepS.pure nP rfl fun _ => rfl) ?_
                  try simp only [Act.put, sA, sZ, sS]
                  refine Ps.st (i := 8) (d := some 70) (u := (.int .i64 ((i : Int) + 1))) rfl rfl ?ywg25_34 ?rwg25_34
                  case ywg25_34 =>
                    refine StepS.pure nP (by rfl) (fun w9 => ?_)
                    first | rfl | (go_simp; done) | (go_simp; rfl) | (go_simp; rw [hwr])
                  try simp only [Act.put, sA, sZ, sS]
                  refine Ps.st (i := 9) (d := some 71) (u := (.pointer (some (⟨ad.block, ad.off + (i + 1), none⟩)))) rfl rfl (by exact StepS.pure nP rfl fun _ => by first | rfl | (go_simp; done) | (go_simp; rfl)) ?_
                  try simp only [Act.put, sA, sZ, sS]
                  refine Ps.st (i := 10) (d := some 72) (u := (.string x2)) rfl rfl ?ywg25_36 ?rwg25_36
                  case ywg25_36 =>
                    refine StepS.read [] (by kernel_rfl) nP (by rfl) (fun L9 m9 w9 hSh hAt hDn hS => ?_)
                    have hT : Below _ _ w9 := hS
                    have x0 : w9.cell? (⟨ad.block, ad.off + (i + 1), none⟩) = some (.string x2) := ce cx2 hT
                    clear hT hS
                    go_simp
                    try rfl
                  try simp only [Act.put, sA, sZ, sS]
                  refine Ps.st (i := 11) (d := some 73) (u := (.pointer (some ⟨g6, 0, none⟩))) rfl rfl (by exact StepS.pure nP rfl fun _ => rfl) ?_
                  try simp only [Act.put, sA, sZ, sS]
                  refine Ps.st (i := 12) (d := some 74) (u := (.string kw)) rfl rfl ?ywg25_38 ?rwg25_38
                  case ywg25_38 =>
                    refine StepS.read [] (by kernel_rfl) nP (by rfl) (fun L9 m9 w9 hSh hAt hDn hS => ?_)
                    have hT : Below _ _ w9 := hS
                    have x0 : w9.cell? ⟨g6, 0, none⟩ = some (.string kw) := (HK6.out.ca hT).cell 0
                    clear hT hS
                    go_simp
                    try rfl
                  try simp only [Act.put, sA, sZ, sS]
                  refine Ps.st (i := 13) (d := some 75) (u := (.bool (true))) rfl rfl ?ywg25_39 ?rwg25_39
                  case ywg25_39 =>
                    refine StepS.pure nP (by rfl) (fun w9 => ?_)
                    first | rfl | (go_simp; done) | (go_simp; rfl) | (go_simp; rw [hwr])
                  try simp only [Act.put, sA, sZ, sS]
                  refine Ps.st (i := 14) (d := some 76) (u := (.bool (true))) rfl rfl (by exact StepS.pure nP rfl fun _ => rfl) ?_
                  try simp only [Act.put, sA, sZ, sS]
                  refine Ps.done (by kernel_rfl) (fun wg25 hS => ?_) _
                  have HWW := Lib.hid (show Below w6.heap.size w6 wg25 from hS)
                  clear hS
                  obtain ⟨wx, rfl⟩ : ∃ x, x = wg25 := ⟨_, rfl⟩
                  have HS7 := Lib.hid (HS6.out.below HWW.out)
                  have HC7 := Lib.hid (HC6.out.ca HWW.out)
                  have HK7 := Lib.hid (HK6.out.ca HWW.out)
                  clear HWW HS6 HC6 HK6 cx2 hxk
                  have y0 : wx.cell? ⟨g6, 1, none⟩ = some (.int .i64 kk) := HK7.out.cell 1
                  have y1 : wx.cell? ⟨gc, 1, none⟩ = some (.int .i64 (kdF (some x2) (kindsQ.take j))) := HC7.out.cell 1
                  have f1 : wx.frozen? ⟨gc, 1, none⟩ = false := HC7.out.frozen 1
                  go_wp2_with fail
                  have hb1 : Blk (wx.setCell ⟨gc, 1, none⟩ (.int .i64 kk)) gc 71 #[.string x, .int .i64 (kdF (some x2) (kindsQ.take (j + 1)))] := by rw [HTK.out, kdF_snoc, if_pos (by rw [HXK.out])]; simpa using HC7.out.set_ 1 (.int .i64 kk)
                  go_roundg (gk - 1)
                  · exact ⟨j + 1, by omega, by go_num, Lib.hid (HS7.out.aside (set_grown wx gc 1 (.int .i64 kk)) HG3.out HGA.out.1 HGA.out.2), Lib.hid hb1⟩
                  · omega
                · have hxt : (x2.toList == kw.toList) = false := by rw [beq_eq_false_iff_ne]; intro e; apply hxk; rw [ByteArray.toList_eq, ByteArray.toList_eq] at e; have h1 : x2 = ⟨x2.data.toList.toArray⟩ := (by simp); rw [h1, e]
                  have HXK := Lib.hid hxk
                  refine wp_region_ps (S := fun _ _ w' => Below w6.heap.size w6 w') (by kernel_rfl) ?spswg41 ?ppswg41
                  case spswg41 =>
                    exact (Below.refl w6.heap.size w6).drew
                  refine Ps.st (i := 0) (d := some 62) (u := (.int .i64 ((i : Int)))) rfl rfl (by exact StepS.pure nP rfl fun _ => rfl) ?_
                  try simp only [Act.put, sA, sZ, sS]
                  refine Ps.st (i := 1) (d := some 63) (u := (.int .i64 ((i : Int) + 1))) rfl rfl ?ywg41_43 ?rwg41_43
                  case ywg41_43 =>
                    refine StepS.pure nP (by rfl) (fun w9 => ?_)
                    first | rfl | (go_simp; done) | (go_simp; rfl) | (go_simp; rw [hwr])
                  try simp only [Act.put, sA, sZ, sS]
                  refine Ps.st (i := 2) (d := some 64) (u := (.slice (some ad) N N)) rfl rfl (by exact StepS.pure nP rfl fun _ => rfl) ?_
                  try simp only [Act.put, sA, sZ, sS]
                  refine Ps.st (i := 3) (d := some 65) (u := (.int .i64 ((N : Int)))) rfl rfl (by exact StepS.pure nP rfl fun _ => by first | rfl | (go_simp; done) | (go_simp; rfl)) ?_
                  try simp only [Act.put, sA, sZ, sS]
                  refine Ps.st (i := 4) (d := some 66) (u := (.bool (true))) rfl rfl ?ywg41_46 ?rwg41_46
                  case ywg41_46 =>
                    refine StepS.pure nP (by rfl) (fun w9 => ?_)
                    first | rfl | (go_simp; done) | (go_simp; rfl) | (go_simp; rw [hwr])
                  try simp only [Act.put, sA, sZ, sS]
                  refine Ps.st (i := 5) (d := some 67) (u := (.bool (true))) rfl rfl (by exact StepS.pure nP rfl fun _ => rfl) ?_
                  try simp only [Act.put, sA, sZ, sS]
                  refine Ps.st (i := 6) (d := some 68) (u := (.slice (some ad) N N)) rfl rfl (by exact StepS.pure nP rfl fun _ => rfl) ?_
                  try simp only [Act.put, sA, sZ, sS]
                  refine Ps.st (i := 7) (d := some 69) (u := (.int .i64 ((i : Int)))) rfl rfl (by exact StepS.pure nP rfl fun _ => rfl) ?_
                  try simp only [Act.put, sA, sZ, sS]
                  refine Ps.st (i := 8) (d := some 70) (u := (.int .i64 ((i : Int) + 1))) rfl rfl ?ywg41_50 ?rwg41_50
                  case ywg41_50 =>
                    refine StepS.pure nP (by rfl) (fun w9 => ?_)
                    first | rfl | (go_simp; done) | (go_simp; rfl) | (go_simp; rw [hwr])
                  try simp only [Act.put, sA, sZ, sS]
                  refine Ps.st (i := 9) (d := some 71) (u := (.pointer (some (⟨ad.block, ad.off + (i + 1), none⟩)))) rfl rfl (by exact StepS.pure nP rfl fun _ => by first | rfl | (go_simp; done) | (go_simp; rfl)) ?_
                  try simp only [Act.put, sA, sZ, sS]
                  refine Ps.st (i := 10) (d := some 72) (u := (.string x2)) rfl rfl ?ywg41_52 ?rwg41_52
                  case ywg41_52 =>
                    refine StepS.read [] (by kernel_rfl) nP (by rfl) (fun L9 m9 w9 hSh hAt hDn hS => ?_)
                    have hT : Below _ _ w9 := hS
                    have x0 : w9.cell? (⟨ad.block, ad.off + (i + 1), none⟩) = some (.string x2) := ce cx2 hT
                    clear hT hS
                    go_simp
                    try rfl
                  try simp only [Act.put, sA, sZ, sS]
                  refine Ps.st (i := 11) (d := some 73) (u := (.pointer (some ⟨g6, 0, none⟩))) rfl rfl (by exact StepS.pure nP rfl fun _ => rfl) ?_
                  try simp only [Act.put, sA, sZ, sS]
                  refine Ps.st (i := 12) (d := some 74) (u := (.string kw)) rfl rfl ?ywg41_54 ?rwg41_54
                  case ywg41_54 =>
                    refine StepS.read [] (by kernel_rfl) nP (by rfl) (fun L9 m9 w9 hSh hAt hDn hS => ?_)
                    have hT : Below _ _ w9 := hS
                    have x0 : w9.cell? ⟨g6, 0, none⟩ = some (.string kw) := (HK6.out.ca hT).cell 0
                    clear hT hS
                    go_simp
                    try rfl
                  try simp only [Act.put, sA, sZ, sS]
                  refine Ps.st (i := 13) (d := some 75) (u := (.bool (false))) rfl rfl ?ywg41_55 ?rwg41_55
                  case ywg41_55 =>
                    refine StepS.pure nP (by rfl) (fun w9 => ?_)
                    first | rfl | (go_simp; done) | (go_simp; rfl) | (go_simp; rw [hwr])
                  try simp only [Act.put, sA, sZ, sS]
                  refine Ps.st (i := 14) (d := some 76) (u := (.bool (false))) rfl rfl (by exact StepS.pure nP rfl fun _ => rfl) ?_
                  try simp only [Act.put, sA, sZ, sS]
                  refine Ps.done (by kernel_rfl) (fun wg41 hS => ?_) _
                  have HWW := Lib.hid (show Below w6.heap.size w6 wg41 from hS)
                  clear hS
                  obtain ⟨wx, rfl⟩ : ∃ x, x = wg41 := ⟨_, rfl⟩
                  have HS7 := Lib.hid (HS6.out.below HWW.out)
                  have HC7 := Lib.hid (HC6.out.ca HWW.out)
                  have HK7 := Lib.hid (HK6.out.ca HWW.out)
                  clear HWW HS6 HC6 HK6 cx2 hxk
                  go_wp2_with fail
                  go_roundg (gk - 1)
                  · exact ⟨j + 1, by omega, by go_num, HS7, by have h9 := HC7.out; rw [show kdF (some x2) (kindsQ.take j) = kdF (some x2) (kindsQ.take (j + 1)) from by rw [HTK.out, kdF_snoc, if_neg (fun e => HXK.out (by injection e))]] at h9; exact Lib.hid h9⟩
                  · omega
              case neg =>
                obtain rfl : j = 3 := by omega
                have HC7 := HCJ.out
                rw [show kindsQ.take 3 = kindsQ from rfl] at HC7
                obtain ⟨kd, hkd⟩ : ∃ z, z = kdF (some x2) kindsQ := ⟨_, rfl⟩
                rw [← hkd] at HC7 HX2
                have HC7 := Lib.hid HC7
                clear hkd HCJ
                have c0 : wr.cell? ⟨gc, 0, none⟩ = some (.string x) := HC7.out.cell 0
                have c1 : wr.cell? ⟨gc, 1, none⟩ = some (.int .i64 kd) := HC7.out.cell 1
                have t1 : wr.cell? ⟨w.heap.size + 2, 1, none⟩ = some (.slice A n c) := HSJ.out.t.cell 1
                have q8 := bl_al (Below.refl wr.heap.size wr) (.cells #[.string x, .int .i64 kd] 71)
                have HS8 := Lib.hid (HSJ.out.below q8)
                have HN8 := Lib.hid (Blk.new wr 71 #[.string x, .int .i64 kd])
                have hz8 : (wr.alloc (.cells #[.string x, .int .i64 kd] 71)).heap.size = wr.heap.size + 1 := World.size_alloc _ _
                have HOB := Lib.hid (fun k e => own_lt HSJ.out.co k e)
                have HSZ := Lib.hid HSJ.out.sz
                have HOK := Lib.hid (LCO_own_to (G' := fun b => b < wr.heap.size + 1) HS8.out.co (fun _ _ => rfl))
                go_wp2_with (at_builtin; refine wpList_appLs (L := LCO) rfl (.tmp 82) (.tmp 84) 38 rfl _ 2 24 Tryz.underlying38 Tryz.colInfo rfl rfl (by omega) (w.heap.size + 3) (fun b => b < wr.heap.size + 1) (fun b => b = wr.heap.size) A n c cs (some ⟨wr.heap.size, 0, none⟩) 1 1 [⟨x, kd⟩] (n + 1) rfl rfl rfl HOK.out (LCO_one HN8.out) (fun b hb _ => ⟨by omega, fun e => by have h9 := HOB.out b e; omega⟩) (fun b hb => by rw [hz8]; exact hb) (by omega) (by unfold maxLen; omega) (by rw [hz8]; have := HSZ.out; omega) ?_; intro A9 c9 w9 ho9 hg9 hat9; have HS9 := Lib.hid (HS8.out.coled (LCO_own_to (G' := fun _ => True) ho9 (fun _ _ => rfl)) hg9 hat9); have x9 : w9.cell? ⟨w.heap.size + 2, 1, none⟩ = some (.slice A n c) := (HS8.out.t.grown hg9 (fun e => by have := (own_lt HS8.out.co _ e.symm).1; omega)).cell 1; have f9 : w9.frozen? ⟨w.heap.size + 2, 1, none⟩ = false := (HS8.out.t.grown hg9 (fun e => by have := (own_lt HS8.out.co _ e.symm).1; omega)).frozen 1; clear ho9 hg9 hat9 q8 t1 c0 c1)
                go_roundg (k9 - 2)
                · exact ⟨i + 2, false, A9, n + 1, c9, K, m, d, cs ++ [⟨x, kd⟩], ks, by omega, rfl, by go_num, by omega, hm9, by omega, HS9, HX2⟩
                · omega
          · have hi3 : (N : Int) ≤ (i : Int) + 1 := by omega
            have hx2 : ws[i + 1]? = none := List.getElem?_eq_none (by rw [← HN.out]; omega)
            rw [hx2] at HX2
            clear hx2
            go_wp2_with fail
            clear k0 k1 k2 k3 k4 k5
            go_loopg [59] 3 (fun g a wq => ∃ (j : Nat), j + g = 3 ∧ a = .int .i64 (j : Int) ∧ Hid (RdS w wq ad ws nm A n c K m d cs ks) ∧ Hid (Blk wq gc 71 #[.string x, .int .i64 (kdF none (kindsQ.take j))]))
            case atStart => exact ⟨0, by omega, rfl, HS5, HC5⟩
            case round =>
              clear HS5 HC5
              obtain ⟨j, hjg, rfl, HSJ, HCJ⟩ := hrel
              by_cases hj : j < 3
              case pos =>
                obtain ⟨⟨kw, kk⟩, hkk⟩ : ∃ p, kindsQ[j]? = some p := ⟨_, List.getElem?_eq_getElem (show j < kindsQ.length from hj)⟩
                have hidx := fun W => kindQ_at W hkk
                have HTK := Lib.hid (show kindsQ.take (j + 1) = kindsQ.take j ++ [(kw, kk)] from by rw [List.take_add_one, hkk]; rfl)
                have hj1 : (j : Int) < 3 := by omega
                have HK6 := Lib.hid (Blk.new wr 87 #[.string kw, .int .i64 kk])
                have HS6 := Lib.hid (HSJ.out.below (bl_al (Below.refl wr.heap.size wr) (.cells #[.string kw, .int .i64 kk] 87)))
                have HC6 := Lib.hid (HCJ.out.alloc (.cells #[.string kw, .int .i64 kk] 87))
                have HNE := Lib.hid (show gc ≠ wr.heap.size from by have := HCJ.out.lt; omega)
                clear hkk
                go_upto_region 18 with fail
                clear hidx
                obtain ⟨g6, hg6⟩ : ∃ g, g = wr.heap.size := ⟨_, rfl⟩
                rw [← hg6] at HK6 HNE ⊢
                clear hg6
                generalize wr.alloc (.cells #[.string kw, .int .i64 kk] 87) = w6 at *
                refine wp_region_ps (S := fun _ _ w' => Below w6.heap.size w6 w') (by kernel_rfl) ?spswg57 ?ppswg57
                case spswg57 =>
                  exact (Below.refl w6.heap.size w6).drew
                refine Ps.st (i := 0) (d := some 62) (u := (.int .i64 ((i : Int)))) rfl rfl (by exact StepS.pure nP rfl fun _ => rfl) ?_
                try simp only [Act.put, sA, sZ, sS]
                refine Ps.st (i := 1) (d := some 63) (u := (.int .i64 ((i : Int) + 1))) rfl rfl ?ywg57_59 ?rwg57_59
                case ywg57_59 =>
                  refine StepS.pure nP (by rfl) (fun w9 => ?_)
                  first | rfl | (go_simp; done) | (go_simp; rfl) | (go_simp; rw [hwr])
                try simp only [Act.put, sA, sZ, sS]
                refine Ps.st (i := 2) (d := some 64) (u := (.slice (some ad) N N)) rfl rfl (by exact StepS.pure nP rfl fun _ => rfl) ?_
                try simp only [Act.put, sA, sZ, sS]
                refine Ps.st (i := 3) (d := some 65) (u := (.int .i64 ((N : Int)))) rfl rfl (by exact StepS.pure nP rfl fun _ => by first | rfl | (go_simp; done) | (go_simp; rfl)) ?_
                try simp only [Act.put, sA, sZ, sS]
                refine Ps.st (i := 4) (d := some 66) (u := (.bool (false))) rfl rfl ?ywg57_62 ?rwg57_62
                case ywg57_62 =>
                  refine StepS.pure nP (by rfl) (fun w9 => ?_)
                  first | rfl | (go_simp; done) | (go_simp; rfl) | (go_simp; rw [hwr])
                try simp only [Act.put, sA, sZ, sS]
                refine Ps.st (i := 5) (d := some 67) (u := (.bool (false))) rfl rfl (by exact StepS.pure nP rfl fun _ => rfl) ?_
                try simp only [Act.put, sA, sZ, sS]
                refine Ps.st (i := 6) (d := some 68) (u := undef) rfl rfl (by  exact StepS.skip nP rfl) ?_
                try simp only [Act.put, sA, sZ, sS]
                refine Ps.st (i := 7) (d := some 69) (u := undef) rfl rfl (by  exact StepS.skip nP rfl) ?_
                try simp only [Act.put, sA, sZ, sS]
                refine Ps.st (i := 8) (d := some 70) (u := undef) rfl rfl (by  exact StepS.skip nP rfl) ?_
                try simp only [Act.put, sA, sZ, sS]
                refine Ps.st (i := 9) (d := some 71) (u := undef) rfl rfl (by  exact StepS.skip nP rfl) ?_
                try simp only [Act.put, sA, sZ, sS]
                refine Ps.st (i := 10) (d := some 72) (u := undef) rfl rfl (by  exact StepS.skip nP rfl) ?_
                try simp only [Act.put, sA, sZ, sS]
                refine Ps.st (i := 11) (d := some 73) (u := undef) rfl rfl (by  exact StepS.skip nP rfl) ?_
                try simp only [Act.put, sA, sZ, sS]
                refine Ps.st (i := 12) (d := some 74) (u := undef) rfl rfl (by  exact StepS.skip nP rfl) ?_
                try simp only [Act.put, sA, sZ, sS]
                refine Ps.st (i := 13) (d := some 75) (u := undef) rfl rfl (by  exact StepS.skip nP rfl) ?_
                try simp only [Act.put, sA, sZ, sS]
                refine Ps.st (i := 14) (d := some 76) (u := (.bool (false))) rfl rfl (by exact StepS.pure nP rfl fun _ => rfl) ?_
                try simp only [Act.put, sA, sZ, sS]
                refine Ps.done (by kernel_rfl) (fun wg57 hS => ?_) _
                have HWW := Lib.hid (show Below w6.heap.size w6 wg57 from hS)
                clear hS
                obtain ⟨wx, rfl⟩ : ∃ x, x = wg57 := ⟨_, rfl⟩
                have HS7 := Lib.hid (HS6.out.below HWW.out)
                have HC7 := Lib.hid (HC6.out.ca HWW.out)
                have HK7 := Lib.hid (HK6.out.ca HWW.out)
                clear HWW HS6 HC6 HK6
                go_wp2_with fail
                go_roundg (gk - 1)
                · exact ⟨j + 1, by omega, by go_num, HS7, by have h9 := HC7.out; rw [show kdF none (kindsQ.take j) = kdF none (kindsQ.take (j + 1)) from by rw [HTK.out, kdF_snoc, if_neg (fun e => by cases e)]] at h9; exact Lib.hid h9⟩
                · omega
              case neg =>
                obtain rfl : j = 3 := by omega
                have HC7 := HCJ.out
                rw [show kindsQ.take 3 = kindsQ from rfl] at HC7
                obtain ⟨kd, hkd⟩ : ∃ z, z = kdF none kindsQ := ⟨_, rfl⟩
                rw [← hkd] at HC7 HX2
                have HC7 := Lib.hid HC7
                clear hkd HCJ
                have c0 : wr.cell? ⟨gc, 0, none⟩ = some (.string x) := HC7.out.cell 0
                have c1 : wr.cell? ⟨gc, 1, none⟩ = some (.int .i64 kd) := HC7.out.cell 1
                have t1 : wr.cell? ⟨w.heap.size + 2, 1, none⟩ = some (.slice A n c) := HSJ.out.t.cell 1
                have q8 := bl_al (Below.refl wr.heap.size wr) (.cells #[.string x, .int .i64 kd] 71)
                have HS8 := Lib.hid (HSJ.out.below q8)
                have HN8 := Lib.hid (Blk.new wr 71 #[.string x, .int .i64 kd])
                have hz8 : (wr.alloc (.cells #[.string x, .int .i64 kd] 71)).heap.size = wr.heap.size + 1 := World.size_alloc _ _
                have HOB := Lib.hid (fun k e => own_lt HSJ.out.co k e)
                have HSZ := Lib.hid HSJ.out.sz
                have HOK := Lib.hid (LCO_own_to (G' := fun b => b < wr.heap.size + 1) HS8.out.co (fun _ _ => rfl))
                go_wp2_with (at_builtin; refine wpList_appLs (L := LCO) rfl (.tmp 82) (.tmp 84) 38 rfl _ 2 24 Tryz.underlying38 Tryz.colInfo rfl rfl (by omega) (w.heap.size + 3) (fun b => b < wr.heap.size + 1) (fun b => b = wr.heap.size) A n c cs (some ⟨wr.heap.size, 0, none⟩) 1 1 [⟨x, kd⟩] (n + 1) rfl rfl rfl HOK.out (LCO_one HN8.out) (fun b hb _ => ⟨by omega, fun e => by have h9 := HOB.out b e; omega⟩) (fun b hb => by rw [hz8]; exact hb) (by omega) (by unfold maxLen; omega) (by rw [hz8]; have := HSZ.out; omega) ?_; intro A9 c9 w9 ho9 hg9 hat9; have HS9 := Lib.hid (HS8.out.coled (LCO_own_to (G' := fun _ => True) ho9 (fun _ _ => rfl)) hg9 hat9); have x9 : w9.cell? ⟨w.heap.size + 2, 1, none⟩ = some (.slice A n c) := (HS8.out.t.grown hg9 (fun e => by have := (own_lt HS8.out.co _ e.symm).1; omega)).cell 1; have f9 : w9.frozen? ⟨w.heap.size + 2, 1, none⟩ = false := (HS8.out.t.grown hg9 (fun e => by have := (own_lt HS8.out.co _ e.symm).1; omega)).frozen 1; clear ho9 hg9 hat9 q8 t1 c0 c1)
                go_roundg (k9 - 2)
                · exact ⟨i + 2, false, A9, n + 1, c9, K, m, d, cs ++ [⟨x, kd⟩], ks, by omega, rfl, by go_num, by omega, hm9, by omega, HS9, HX2⟩
                · omega
end Go.Proofs.YthgcdilkkldgjaaGreatDoor
