/- catalog.Parse. Conditions: what the tables hold; a text that is not endless. -/
import Derived.Test.YthgcdilkkldgjaaGreatDoorPkC16
namespace Go.Proofs.YthgcdilkkldgjaaGreatDoor
open Go.RowKit Go.Shelf
attribute [local go_sem] Oper.semAt_some
/-! ### what was read is not endless -/
theorem splitB_size (sep : ByteArray) (save : Nat) : ∀ (k : Nat) (s : ByteArray), ∀ x ∈ Lib.splitB sep save k s, x.size ≤ s.size
  | 0, s, x, hx => by
    rw [Lib.splitB_zero, List.mem_singleton] at hx
    rw [hx]; exact Nat.le_refl _
  | k + 1, s, x, hx => by
    unfold Lib.splitB at hx
    split at hx
    · rw [List.mem_singleton] at hx; rw [hx]; exact Nat.le_refl _
    · rcases List.mem_cons.1 hx with rfl | hx
      · rw [ByteArray.size_extract]; omega
      · have := splitB_size sep save k _ x hx
        rw [ByteArray.size_extract] at this
        omega
theorem trim_len (l : List UInt8) : (Lib.trimSuffix l [10]).length ≤ l.length := by
  unfold Lib.trimSuffix
  split
  · rw [List.length_take]; omega
  · omega
theorem words_size {l : List UInt8} : ∀ x ∈ wordsOf l, x.size ≤ l.length := fun x hx => by
  have := splitB_size _ _ _ _ x hx
  have h2 := trim_len l
  have h3 : (⟨(Lib.trimSuffix l [10]).toArray⟩ : ByteArray).size = (Lib.trimSuffix l [10]).length := by simp [ByteArray.size]
  omega
theorem words_len (l : List UInt8) : (wordsOf l).length ≤ l.length + 2 := by
  have h1 := Lib.splitB_length_le ⟨#[32]⟩ 0 (Lib.countB ⟨(Lib.trimSuffix l [10]).toArray⟩ ⟨#[32]⟩) ⟨(Lib.trimSuffix l [10]).toArray⟩
  have h2 : Lib.countB ⟨(Lib.trimSuffix l [10]).toArray⟩ ⟨#[32]⟩ ≤ (Lib.trimSuffix l [10]).length + 1 := Lib.count_le _ _
  have h3 := trim_len l
  show (Lib.splitB _ _ _ _).length ≤ _
  omega
theorem readGo_rng : ∀ (n : Nat) (l : List ByteArray) (b : Bool) (cs : List CO) (ks : List Int), l.length ≤ n → (readGo l b cs ks).1.length + (readGo l b cs ks).2.length ≤ l.length + cs.length + ks.length ∧ ∀ c ∈ (readGo l b cs ks).1, c ∈ cs ∨ c.name ∈ l := by
  intro n
  induction n with
  | zero =>
    intro l b cs ks h
    obtain rfl : l = [] := List.eq_nil_of_length_eq_zero (by omega)
    rw [readGo_nil]
    exact ⟨by simp, fun c hc => .inl hc⟩
  | succ n ih =>
    intro l b cs ks h
    match l, h with
    | [], _ =>
      rw [readGo_nil]
      exact ⟨by simp, fun c hc => .inl hc⟩
    | x :: r, h =>
      simp only [List.length_cons] at h
      rw [readGo]
      split
      · obtain ⟨h1, h2⟩ := ih r true cs ks (by omega)
        exact ⟨by simp only [List.length_cons]; omega, fun c hc => (h2 c hc).imp id (fun h => List.mem_cons_of_mem _ h)⟩
      · split
        · obtain ⟨h1, h2⟩ := ih r true cs (ks ++ [fnd (idxL (fun c : CO => decide (c.name = x)) cs)]) (by omega)
          refine ⟨by rw [List.length_append] at h1; simp only [List.length_cons, List.length_nil] at h1 ⊢; omega, fun c hc => (h2 c hc).imp id (fun h => List.mem_cons_of_mem _ h)⟩
        · obtain ⟨h1, h2⟩ := ih r.tail false (cs ++ [⟨x, (r.head?.map kindOf).getD 0⟩]) ks (by rw [List.length_tail]; omega)
          refine ⟨by rw [List.length_append, List.length_tail] at h1; simp only [List.length_cons, List.length_nil] at h1 ⊢; omega, fun c hc => ?_⟩
          rcases h2 c hc with h3 | h3
          · rcases List.mem_append.1 h3 with h3 | h3
            · exact .inl h3
            · rw [List.mem_singleton] at h3
              subst h3
              exact .inr (by simp)
          · exact .inr (List.mem_cons_of_mem _ (List.mem_of_mem_tail h3))
theorem readT_sz {l : List UInt8} (h : l.length ≤ 1000) : Sz (readT l) ∧ Ln (readT l) := by
  have hr := readGo_rng _ ((wordsOf l).drop 2) false [] [] (Nat.le_refl _)
  have hl := words_len l
  have hd : ((wordsOf l).drop 2).length ≤ 1002 := by rw [List.length_drop]; omega
  have hw := words_size (l := l)
  simp only [List.length_nil] at hr
  refine ⟨⟨?_, fun k c hc => ?_⟩, ⟨?_, ?_⟩⟩
  · show (((wordsOf l)[1]?).getD (⟨#[]⟩ : ByteArray)).size ≤ 100000
    cases e : (wordsOf l)[1]? with
    | none => exact Nat.zero_le _
    | some x =>
      have := hw x (List.mem_of_getElem? e)
      show x.size ≤ 100000
      omega
  · rcases hr.2 c (List.mem_of_getElem? hc) with h1 | h1
    · cases h1
    · have := hw _ (List.mem_of_mem_drop h1)
      omega
  · show (readGo ((wordsOf l).drop 2) false [] []).1.length ≤ 100000
    omega
  · show (readGo ((wordsOf l).drop 2) false [] []).2.length ≤ 100000
    omega
theorem linesAt_mem : ∀ (P : List (List UInt8)) (a : Nat) (x : Nat × List UInt8), x ∈ linesAt a P → x.1 + x.2.length ≤ a + P.flatten.length
  | [], a, x, h => by simp [linesAt] at h
  | p :: P, a, x, h => by
    rw [linesAt] at h
    split at h
    · cases h
    · rw [List.flatten_cons, List.length_append]
      rcases List.mem_cons.1 h with rfl | h
      · show a + p.length ≤ _; omega
      · have := linesAt_mem P _ x h
        omega
/-! ### Parse -/
theorem callsIn_round {P : Program} {l m m' : Nat} {f : FuncId} {args : Array Value} {w : World} {R : Ending → World → Prop} (h : CallsIn Fence.wide m P f args w R) : CallsIn (Fence.wide.inRound l) m' P f args w R :=
  ⟨trivial, fun cs _ => h.2 cs (room_wide _)⟩
def PaO (r : List TC × Int × Int) (w : World) (e : Ending) (w' : World) : Prop := ∃ A n c, e = .returned (.tuple #[.agg #[.slice A n c], .int .i64 r.2.1, .int .i64 r.2.2]) ∧ LT3.rd w' AllB A n r.1 ∧ n ≤ c ∧ c ≤ 9223372036854775807 ∧ Below w.heap.size w w'
theorem parseF_good {c : List TC} {a : Nat} {l : List UInt8} (h : goodL c l) (rest : List (Nat × List UInt8)) : parseF ((a, l) :: rest) c = parseF rest (c ++ [readT l]) := by rw [parseF, if_pos (show addE c (readT l) = 0 ∧ lineL (readT l) = l from h)]
theorem parseF_bad {c : List TC} {a : Nat} {l : List UInt8} (h : ¬ goodL c l) (rest : List (Nat × List UInt8)) : parseF ((a, l) :: rest) c = ([], (a : Int), 212) := by rw [parseF, if_neg (show ¬ (addE c (readT l) = 0 ∧ lineL (readT l) = l) from h)]
/-- what stands in the variables while the lines come -/
structure PaI (w : World) (pre : List (Nat × List UInt8)) (W : World) : Prop where
  ex : ∃ cs A n c, (∀ rest, parseF (pre ++ rest) [] = parseF rest cs) ∧ Blk W (w.heap.size + 3) 24 #[.slice A n c] ∧ LT3.rd W (fun x => w.heap.size + 14 ≤ x) A n cs ∧ n ≤ c ∧ c ≤ 9223372036854775807 ∧ (∀ (k : Nat) (t : TC), cs[k]? = some t → Sz t ∧ Ln t) ∧ cs.length ≤ 4
  b0 : Blk W w.heap.size 24 #[.slice none 0 0]
  b1 : Blk W (w.heap.size + 1) 3 #[.int .i64 0]
  b2 : Blk W (w.heap.size + 2) 27 #[.int .i64 0]
  q : Below w.heap.size w W
def PaX (w : World) (c : Code) (pre : List (Nat × List UInt8)) (W : World) : Prop := c = .ret ∧ (∃ a : Nat, (∀ rest, parseF (pre ++ rest) [] = ([], (a : Int), 212)) ∧ Blk W w.heap.size 24 #[.slice none 0 0] ∧ Blk W (w.heap.size + 1) 3 #[.int .i64 a] ∧ Blk W (w.heap.size + 2) 27 #[.int .i64 212]) ∧ Below w.heap.size w W
theorem below_rows {B : Nat} {a w w' : World} {row : Option Nat} (h : Below B a w) (hg : w.grownBy w' row) (hB : B ≤ w.heap.size) (hr : ∀ r, row = some r → B ≤ r) : Below B a w' := h.grown hg hB hr
theorem PaI.keep {w : World} {pre : List (Nat × List UInt8)} {W W' : World} {row : Option Nat} (h : PaI w pre W) (hg : W.grownBy W' row) (hr : ∀ r, row = some r → w.heap.size + 5 ≤ r ∧ r < w.heap.size + 14) : PaI w pre W' := by
  obtain ⟨⟨cs, A, n, c, h1, h2, h3, h4⟩, b0, b1, b2, q⟩ := h
  have k : ∀ {g : Nat} {t : TypeId} {cs : Array Value}, g < w.heap.size + 5 → Blk W g t cs → Blk W' g t cs := fun {g t cs} hl hb => blk_same hb (hg.block _ hb.lt (fun e => by have := hr _ e.symm; omega))
  exact ⟨⟨cs, A, n, c, h1, k (by omega) h2, Lay.rd_keep (fun b hb hl => hg.block b hl (fun e => by have := hr _ e.symm; omega)) h3, h4⟩, k (by omega) b0, k (by omega) b1, k (by omega) b2, q.grown hg q.size (fun r e => by have := hr r e; omega)⟩
theorem PaX.keep {w : World} {c : Code} {pre : List (Nat × List UInt8)} {W W' : World} {row : Option Nat} (h : PaX w c pre W) (hg : W.grownBy W' row) (hr : ∀ r, row = some r → w.heap.size + 5 ≤ r ∧ r < w.heap.size + 14) : PaX w c pre W' := by
  obtain ⟨hc, ⟨a, h1, b0, b1, b2⟩, q⟩ := h
  have k : ∀ {g : Nat} {t : TypeId} {cs : Array Value}, g < w.heap.size + 5 → Blk W g t cs → Blk W' g t cs := fun {g t cs} hl hb => blk_same hb (hg.block _ hb.lt (fun e => by have := hr _ e.symm; omega))
  exact ⟨hc, ⟨a, h1, k (by omega) b0, k (by omega) b1, k (by omega) b2⟩, q.grown hg q.size (fun r e => by have := hr r e; omega)⟩
set_option maxRecDepth 100000 in
set_option maxHeartbeats 4000000 in
theorem parse_long (s : ByteArray) (w : World) (hs : 1000 < s.size) : Calls Tryz.prog 10 #[.string s] w (PaO (parseT s) w) := by
  have hr : parseT s = ([], 0, 3) := by unfold parseT; rw [if_pos hs]
  rw [hr]
  have h1 : 1000 < (s.size : Int) := by omega
  clear hs hr
  go_enter Tryz.func10, Tryz.ntmps10
  go_wp2
  refine bodyPost_ret (v := .tuple #[.agg #[.slice none 0 0], .int .i64 0, .int .i64 3]) (by simp [results, Tryz.results10, go_sem]) rfl ⟨none, 0, 0, rfl, Lay.rd_nil none, Nat.le_refl _, by decide, bl_al (bl_al (bl_al (Below.refl w.heap.size w) _) _) _⟩
theorem three_set {W : World} {a b c : Nat} {ta tb tc : TypeId} {u v x : Value} (u' v' x' : Value) (h0 : Blk W a ta #[u]) (h1 : Blk W b tb #[v]) (h2 : Blk W c tc #[x]) (hab : a ≠ b) (hac : a ≠ c) (hbc : b ≠ c) :
    Blk (((W.setCell ⟨a, 0, none⟩ u').setCell ⟨b, 0, none⟩ v').setCell ⟨c, 0, none⟩ x') a ta #[u'] ∧ Blk (((W.setCell ⟨a, 0, none⟩ u').setCell ⟨b, 0, none⟩ v').setCell ⟨c, 0, none⟩ x') b tb #[v'] ∧ Blk (((W.setCell ⟨a, 0, none⟩ u').setCell ⟨b, 0, none⟩ v').setCell ⟨c, 0, none⟩ x') c tc #[x'] := by
  refine ⟨?_, ?_, ?_⟩
  · have h := (h0.set_ 0 u').far (p := ⟨b, 0, none⟩) hab v'
    have h := h.far (p := ⟨c, 0, none⟩) hac x'
    simpa using h
  · have h := (h1.far (p := ⟨a, 0, none⟩) (Ne.symm hab) u').set_ 0 v'
    have h := h.far (p := ⟨c, 0, none⟩) hbc x'
    simpa using h
  · have h := ((h2.far (p := ⟨a, 0, none⟩) (Ne.symm hac) u').far (p := ⟨b, 0, none⟩) (Ne.symm hbc) v').set_ 0 x'
    simpa using h
theorem three_below {B : Nat} {w0 W : World} {a b c : Nat} (u' v' x' : Value) (h : Below B w0 W) (ha : B ≤ a) (hb : B ≤ b) (hc : B ≤ c) : Below B w0 (((W.setCell ⟨a, 0, none⟩ u').setCell ⟨b, 0, none⟩ v').setCell ⟨c, 0, none⟩ x') :=
  ((h.setCell (p := ⟨a, 0, none⟩) ha u').setCell (p := ⟨b, 0, none⟩) hb v').setCell (p := ⟨c, 0, none⟩) hc x'
theorem three_kp {Kq : Nat → Prop} {W : World} {a b c : Nat} (u' v' x' : Value) (ha : ¬ Kq a) (hb : ¬ Kq b) (hc : ¬ Kq c) : KpM Kq W (((W.setCell ⟨a, 0, none⟩ u').setCell ⟨b, 0, none⟩ v').setCell ⟨c, 0, none⟩ x') :=
  ((KpM.of_grown (set_grown W a 0 u') (fun r e => by injection e with e; rw [← e]; exact ha)).trans (KpM.of_grown (set_grown _ b 0 v') (fun r e => by injection e with e; rw [← e]; exact hb))).trans (KpM.of_grown (set_grown _ c 0 x') (fun r e => by injection e with e; rw [← e]; exact hc))
theorem bad_end {w w5 W5 X : World} {pre : List (Nat × List UInt8)} {a : Nat} {l : List UInt8} {act : Act} {I : List (Nat × List UInt8) → World → Prop} (h5 : Below w.heap.size w W5) (hX : Below W5.heap.size W5 X) (hz : w5.heap.size = w.heap.size + 5)
    (b0 : Blk X w.heap.size 24 #[.slice none 0 0]) (b1 : Blk X (w.heap.size + 1) 3 #[.int .i64 0]) (b2 : Blk X (w.heap.size + 2) 27 #[.int .i64 0]) (hbad : ∀ rest, parseF (pre ++ [(a, l)] ++ rest) [] = ([], (a : Int), 212)) :
    postM (fun r => (w.heap.size + 7 ≤ r ∧ r < w.heap.size + 14) ∨ r = w5.heap.size ∨ r = w5.heap.size + 1) I (PaX w) (pre ++ [(a, l)]) W5 .ret act (((X.setCell ⟨w.heap.size, 0, none⟩ (.slice none 0 0)).setCell ⟨w.heap.size + 1, 0, none⟩ (.int .i64 (a : Int))).setCell ⟨w.heap.size + 1 + 1, 0, none⟩ (.int .i64 212)) := by
  obtain ⟨k0, k1, k2⟩ := three_set (.slice none 0 0) (.int .i64 (a : Int)) (.int .i64 212) b0 b1 b2 (by omega) (by omega) (by omega)
  have hX2 := bl_ca h5 hX
  exact ⟨(KpM.of_below hX).trans (three_kp _ _ _ (by omega) (by omega) (by omega)), rfl, ⟨a, hbad, k0, k1, k2⟩, three_below _ _ _ hX2 (Nat.le_refl _) (by omega) (by omega)⟩
set_option maxRecDepth 100000 in
set_option maxHeartbeats 16000000 in
theorem parse_in (s : ByteArray) (w : World) (hs : s.size ≤ 1000) (hT : Tab w) : CallsIn Fence.wide 5 Tryz.prog 10 #[.string s] w (PaO (parseT s) w) := by
  have HR := Lib.hid (show parseT s = parseF (linesAt 0 (pcs s.data.toList)) [] from by unfold parseT; rw [if_neg (by omega)])
  have h1 : (s.size : Int) ≤ 1000 := by omega
  have HTT := Lib.hid hT
  clear hT
  refine callsIn_of_wp_marks Tryz.func10 rfl trivial ?_ rfl
  simp only [Tryz.ntmps10, List.size_toArray, List.length_cons, List.length_nil, Nat.reduceAdd, Nat.reduceSub, Array.replicate_succ, Array.replicate_zero, List.push_toArray, List.append_toArray, List.nil_append, List.cons_append]
  have q3 := bl_al (bl_al (bl_al (bl_al (Below.refl w.heap.size w) (.cells #[.slice none 0 0] 24)) (.cells #[.int .i64 0] 3)) (.cells #[.int .i64 0] 27)) (.cells #[.slice none 0 0] 24)
  have B0 := (((Blk.new w 24 #[.slice none 0 0]).alloc (.cells #[.int .i64 0] 3)).alloc (.cells #[.int .i64 0] 27)).alloc (.cells #[.slice none 0 0] 24)
  have B1 := ((Blk.new (w.alloc (.cells #[.slice none 0 0] 24)) 3 #[.int .i64 0]).alloc (.cells #[.int .i64 0] 27)).alloc (.cells #[.slice none 0 0] 24)
  have B2 := (Blk.new ((w.alloc (.cells #[.slice none 0 0] 24)).alloc (.cells #[.int .i64 0] 3)) 27 #[.int .i64 0]).alloc (.cells #[.slice none 0 0] 24)
  have B3 := Blk.new (((w.alloc (.cells #[.slice none 0 0] 24)).alloc (.cells #[.int .i64 0] 3)).alloc (.cells #[.int .i64 0] 27)) 24 #[.slice none 0 0]
  simp only [World.size_alloc] at B1 B2 B3
  have HI4 := Lib.hid (show PaI w [] ((((w.alloc (.cells #[.slice none 0 0] 24)).alloc (.cells #[.int .i64 0] 3)).alloc (.cells #[.int .i64 0] 27)).alloc (.cells #[.slice none 0 0] 24)) from
    ⟨⟨[], none, 0, 0, fun _ => rfl, B3, Lay.rd_nil none, Nat.le_refl _, by decide, fun k t h => by simp at h, by simp⟩, B0, B1, B2, q3⟩)
  have hz4 : ((((w.alloc (.cells #[.slice none 0 0] 24)).alloc (.cells #[.int .i64 0] 3)).alloc (.cells #[.int .i64 0] 27)).alloc (.cells #[.slice none 0 0] 24)).heap.size = w.heap.size + 4 := by simp only [World.size_alloc]
  clear B0 B1 B2 B3 q3
  gi_wp2
  refine ⟨trivial, (callsIn_wide.2 (lines_any s _)).mono ?_⟩
  rintro e w5 ⟨g, rfl, hg, b0, q5, hz5⟩
  rw [hz4] at hg hz5
  subst hg
  have HBT := Lib.hid b0
  have HI5 := Lib.hid (HI4.out.keep (grown_of_below q5) (fun r e => by cases e))
  clear b0 q5 hz4
  gi_wp2
  have hz6 : w5.heap.size = w.heap.size + 5 := hz5
  refine wpIn_rangeFunc_M rfl (by omega) (gf := 44) (lb := #[.pointer (some ⟨w.heap.size + 4, 0, none⟩)]) rfl trivial (Go.Proofs.enters_of Tryz.func44 (by kernel_rfl) rfl)
    (encs := encL) (S := fun xs => xs = linesAt 0 (pcs s.data.toList)) (Sp := fun pre => pre <+: linesAt 0 (pcs s.data.toList)) (N := (linesAt 0 (pcs s.data.toList)).length) (Bf := w.heap.size + 14) (fun r => w.heap.size + 7 ≤ r ∧ r < w.heap.size + 14) (fun r => w.heap.size + 7 ≤ r ∧ r < w.heap.size + 14)
    (fun W1 hb1 hs1 => by
      have hbf : W1.heap.size = w.heap.size + 7 := by omega
      have := lines1_in 4 (by omega) (w.heap.size + 4) s W1 hs (HBT.out.ca hb1)
      rw [hbf] at this
      exact this)
    (fun r hr => by omega) (fun r hr => by omega) (fun _ => rfl)
    (PaI w) (PaX w)
    (fun pre A B row hi hg hr => hi.keep hg (fun r e => by have := hr r e; omega))
    (fun c pre A B row hi hg hr => hi.keep hg (fun r e => by have := hr r e; omega))
    HI5.out
    (fun x => { tmps := #[.string s, undef, .pointer (some ⟨w.heap.size, 0, none⟩), .pointer (some ⟨w.heap.size + 1, 0, none⟩), .pointer (some ⟨w.heap.size + 1 + 1, 0, none⟩), .pointer (some ⟨w.heap.size + 1 + 1 + 1, 0, none⟩), .int .i64 (x.1 : Int), .string ⟨x.2.toArray⟩, undef, undef, undef, .string s, .int .i64 s.size, .bool (decide (1000 < (s.size : Int))), undef, .string s, .func (.func 44) #[] #[.pointer (some ⟨w.heap.size + 4, 0, none⟩)], .int .i64 (x.1 : Int), .string ⟨x.2.toArray⟩, undef, undef, undef, undef, undef, undef, undef, undef, undef, undef, undef, undef, undef, undef, undef, undef, undef, undef, undef, undef], defers := [] }) ?assign ?body ?done ?stop
  case assign =>
    intro l5 x W5 K hK
    unfold encL
    gi_wp2
    exact hK
  case body =>
    rintro l5 pre ⟨a, l⟩ W5 hi hbf hsp hlen
    have HI := Lib.hid hi
    have HMM := Lib.hid (show a + l.length ≤ 1000 from by
      have h9 : (a, l) ∈ linesAt 0 (pcs s.data.toList) := hsp.subset (by simp)
      have := linesAt_mem _ _ _ h9
      rw [pcs_flat] at this
      have h8 : s.data.toList.length = s.size := by simp
      simp only at this
      omega)
    obtain ⟨⟨cs, A, n, c, hpre, hbc, hrd, hnc, hcm, hsz, hlen4⟩, b0, b1, b2, q⟩ := hi
    have HPRE := Lib.hid hpre
    have HSZ := Lib.hid hsz
    have HB5 := Lib.hid (And.intro hbc (And.intro b0 (And.intro b1 b2)))
    have HRD := Lib.hid hrd
    have HQ5 := Lib.hid q
    have HL4 := Lib.hid (And.intro hlen4 (And.intro hnc hcm))
    clear hpre hsz hbc b0 b1 b2 hrd q hlen4 hnc hcm hsp hlen
    dsimp only
    obtain ⟨D, hD⟩ : ∃ D : ByteArray, D = ⟨l.toArray⟩ := ⟨_, rfl⟩
    rw [← hD]
    have HD := Lib.hid (show D.data.toList = l from by rw [hD])
    have HD2 := Lib.hid (show D.size = l.length from by rw [hD]; simp [ByteArray.size])
    clear hD
    have HRE := Lib.hid (read_any D (by rw [HD2.out]; have := HMM.out; omega) W5 (HTT.out.below HQ5.out))
    rw [HD.out] at HRE
    have HSZT := Lib.hid (readT_sz (l := l) (by have := HMM.out; omega))
    have HGD := Lib.hid (show goodL cs l ↔ addE cs (readT l) = 0 ∧ lineL (readT l) = l from Iff.rfl)
    obtain ⟨T, hTe⟩ : ∃ T, T = readT l := ⟨_, rfl⟩
    rw [← hTe] at HRE HSZT HGD
    have HTE := Lib.hid hTe
    clear hTe
    gi_wp2
    refine ⟨trivial, callsIn_round (m := 0) ((callsIn_wide.2 HRE.out).mono ?_)⟩
    rintro e W6 ⟨A1, n1, c1, K1, m1, d1, rfl, hr1, hr2, q6⟩
    have q7 := bl_al q6 (.cells (T.cells A1 n1 c1 K1 m1 d1) 41)
    have HT7 := Lib.hid (Blk.new W6 41 (T.cells A1 n1 c1 K1 m1 d1))
    have HQ7 := Lib.hid q7
    have q67 := bl_al (Below.refl W6.heap.size W6) (.cells (T.cells A1 n1 c1 K1 m1 d1) 41)
    have HR1 := Lib.hid (Lay.rd_below hr1 q67)
    have HR2 := Lib.hid (Lay.rd_below hr2 q67)
    have HB7 := Lib.hid (And.intro (HB5.out.1.ca q7) (And.intro (HB5.out.2.1.ca q7) (And.intro (HB5.out.2.2.1.ca q7) (HB5.out.2.2.2.ca q7))))
    have hn4 : n ≤ 4 := by have := Lay.rd_len HRD.out; have := HL4.out.1; omega
    have hcr := Lay.rd_below (Lay.rd_weak (G := AllB) (fun _ _ _ => trivial) HRD.out) q7
    have HTB := Lib.hid (HTT.out.below (bl_ca HQ5.out q7))
    have HS6 := Lib.hid q6.size
    have y0 : (W6.alloc (.cells (T.cells A1 n1 c1 K1 m1 d1) 41)).cell? ⟨w.heap.size + 1 + 1 + 1, 0, none⟩ = some (.slice A n c) := HB7.out.1.cell 0
    have e0 : (W6.alloc (.cells (T.cells A1 n1 c1 K1 m1 d1) 41)).cell? ⟨W6.heap.size, 0, none⟩ = some (.string T.name) := HT7.out.cell 0
    have e1 : (W6.alloc (.cells (T.cells A1 n1 c1 K1 m1 d1) 41)).cell? ⟨W6.heap.size, 1, none⟩ = some (.slice A1 n1 c1) := HT7.out.cell 1
    have e2 : (W6.alloc (.cells (T.cells A1 n1 c1 K1 m1 d1) 41)).cell? ⟨W6.heap.size, 2, none⟩ = some (.slice K1 m1 d1) := HT7.out.cell 2
    have HAD := Lib.hid (add_any AllB cs A n c T A1 n1 c1 K1 m1 d1 _ hcr (by omega) HTB.out HSZ.out HR1.out HR2.out HSZT.out.1 HSZT.out.2)
    clear hcr hr1 hr2 q6 q67 q7 HRE
    gi_wp2
    refine ⟨trivial, callsIn_round (m := 0) ((callsIn_wide.2 HAD.out).mono ?_)⟩
    rintro e W8 ⟨A2, n2, c2, rfl, hr8, hnc2, hcm2, q8⟩
    have q9 := bl_al q8 (.cells #[.slice A2 n2 c2] 24)
    have HQ9 := Lib.hid q9
    have HC9 := Lib.hid (Blk.new W8 24 #[.slice A2 n2 c2])
    have HT9 := Lib.hid (HT7.out.ca q9)
    have HB9 := Lib.hid (HB7.out.1.ca q9)
    have q89 := bl_al (Below.refl W8.heap.size W8) (.cells #[.slice A2 n2 c2] 24)
    have HR9 := Lib.hid (Lay.rd_below hr8 q89)
    have HN9 := Lib.hid (And.intro hnc2 hcm2)
    clear hr8 q8 q9 q89 y0 e0 e1 e2 hnc2 hcm2 HAD
    obtain ⟨E, hE⟩ : ∃ E, E = addE cs T := ⟨_, rfl⟩
    have HER := Lib.hid (show addR cs T = if E = 0 then cs ++ [T] else [] from by rw [hE]; rfl)
    rw [← hE] at HGD ⊢
    have HE := Lib.hid hE
    clear hE
    have e0 : (W8.alloc (.cells #[.slice A2 n2 c2] 24)).cell? ⟨W6.heap.size, 0, none⟩ = some (.string T.name) := HT9.out.cell 0
    have e1 : (W8.alloc (.cells #[.slice A2 n2 c2] 24)).cell? ⟨W6.heap.size, 1, none⟩ = some (.slice A1 n1 c1) := HT9.out.cell 1
    have e2 : (W8.alloc (.cells #[.slice A2 n2 c2] 24)).cell? ⟨W6.heap.size, 2, none⟩ = some (.slice K1 m1 d1) := HT9.out.cell 2
    by_cases h0 : E = 0
    case neg =>
      have h0' : (E != 0) = true := by simpa using h0
      have HNG := Lib.hid (show ¬ goodL cs l from fun h => h0 (HGD.out.1 h).1)
      clear h0
      have HBX := Lib.hid (And.intro (HB7.out.2.1.ca HQ9.out) (And.intro (HB7.out.2.2.1.ca HQ9.out) (HB7.out.2.2.2.ca HQ9.out)))
      have HQX := Lib.hid (bl_ca HQ7.out HQ9.out)
      have z0 : (W8.alloc (.cells #[.slice A2 n2 c2] 24)).cell? ⟨w.heap.size, 0, none⟩ = some (.slice none 0 0) := HBX.out.1.cell 0
      have z1 : (W8.alloc (.cells #[.slice A2 n2 c2] 24)).cell? ⟨w.heap.size + 1, 0, none⟩ = some (.int .i64 0) := HBX.out.2.1.cell 0
      have z2 : (W8.alloc (.cells #[.slice A2 n2 c2] 24)).cell? ⟨w.heap.size + 1 + 1, 0, none⟩ = some (.int .i64 0) := HBX.out.2.2.cell 0
      have f0 : (W8.alloc (.cells #[.slice A2 n2 c2] 24)).frozen? ⟨w.heap.size, 0, none⟩ = false := HBX.out.1.frozen 0
      have f1 : (W8.alloc (.cells #[.slice A2 n2 c2] 24)).frozen? ⟨w.heap.size + 1, 0, none⟩ = false := HBX.out.2.1.frozen 0
      have f2 : (W8.alloc (.cells #[.slice A2 n2 c2] 24)).frozen? ⟨w.heap.size + 1 + 1, 0, none⟩ = false := HBX.out.2.2.frozen 0
      gi_wp2
      refine ⟨trivial, ?_⟩
      gi_wp2
      exact bad_end HQ5.out HQX.out hz6 HBX.out.1 HBX.out.2.1 HBX.out.2.2 (fun rest => by rw [List.append_assoc, HPRE.out]; exact parseF_bad (a := a) HNG.out rest)
    case pos =>
      subst h0
      have hAO := add_ok HE.out.symm
      have HTP := Lib.hid ((tabB_iff T).1 hAO.t)
      have hn1 : n1 ≤ 4 := by have := Lay.rd_len HR1.out; have := HTP.out.hi; omega
      have hm1 : m1 ≤ 4 := by have := Lay.rd_len HR2.out; have := HTP.out.keys.1; omega
      have HLL := Lib.hid (lineL_len HSZT.out.1 HTP.out.hi HTP.out.keys.1)
      have hlc := Lay.rd_len HR1.out
      have HLI := Lib.hid (line_any AllB AllB T A1 n1 c1 K1 m1 d1 _ (Lay.rd_below HR1.out HQ9.out) (Lay.rd_below HR2.out HQ9.out) hn1 hm1 (fun j k hk => by have := HTP.out.keys.2 j k hk; rw [hlc] at this; exact this) (HTB.out.below HQ9.out) (by have := HLL.out; omega))
      have HR9 : Hid (LT3.rd (W8.alloc (.cells #[.slice A2 n2 c2] 24)) (fun b => (W6.alloc (.cells (T.cells A1 n1 c1 K1 m1 d1) 41)).heap.size ≤ b) A2 n2 (cs ++ [T])) := by
        have h9 := HR9.out
        rw [HER.out, if_pos rfl] at h9
        exact Lib.hid h9
      have HCT := Lib.hid hAO.cat
      obtain ⟨LL, hLL⟩ : ∃ x : ByteArray, x = ⟨(lineL T).toArray⟩ := ⟨_, rfl⟩
      rw [← hLL] at HLI
      have HLD := Lib.hid (show LL.data.toList = lineL T from by rw [hLL])
      clear hAO hn1 hm1 hlc hLL
      gi_wp2
      refine ⟨trivial, callsIn_round (m := 0) ((callsIn_wide.2 HLI.out).mono ?_)⟩
      rintro e W10 ⟨rfl, q10⟩
      have HQ10 := Lib.hid (bl_ca HQ9.out q10)
      have HC10 := Lib.hid (HC9.out.ca q10)
      have HR10 := Lib.hid (Lay.rd_below HR9.out q10)
      have HB10 := Lib.hid (HB9.out.ca q10)
      clear q10 e0 e1 e2 HLI
      by_cases hl : lineL T = l
      case neg =>
        have HNG := Lib.hid (show ¬ goodL cs l from fun h => hl (HGD.out.1 h).2)
        have hne : (LL.toList == D.toList) = false := by rw [beq_eq_false_iff_ne, ByteArray.toList_eq, ByteArray.toList_eq, HLD.out, HD.out]; exact hl
        clear hl
        have HBX := Lib.hid (And.intro (HB7.out.2.1.ca HQ10.out) (And.intro (HB7.out.2.2.1.ca HQ10.out) (HB7.out.2.2.2.ca HQ10.out)))
        have HQX := Lib.hid (bl_ca HQ7.out HQ10.out)
        have z0 : W10.cell? ⟨w.heap.size, 0, none⟩ = some (.slice none 0 0) := HBX.out.1.cell 0
        have z1 : W10.cell? ⟨w.heap.size + 1, 0, none⟩ = some (.int .i64 0) := HBX.out.2.1.cell 0
        have z2 : W10.cell? ⟨w.heap.size + 1 + 1, 0, none⟩ = some (.int .i64 0) := HBX.out.2.2.cell 0
        have f0 : W10.frozen? ⟨w.heap.size, 0, none⟩ = false := HBX.out.1.frozen 0
        have f1 : W10.frozen? ⟨w.heap.size + 1, 0, none⟩ = false := HBX.out.2.1.frozen 0
        have f2 : W10.frozen? ⟨w.heap.size + 1 + 1, 0, none⟩ = false := HBX.out.2.2.frozen 0
        gi_wp2
        exact bad_end HQ5.out HQX.out hz6 HBX.out.1 HBX.out.2.1 HBX.out.2.2 (fun rest => by rw [List.append_assoc, HPRE.out]; exact parseF_bad (a := a) HNG.out rest)
      case pos =>
        have HYG := Lib.hid (show goodL cs l from HGD.out.2 ⟨trivial, hl⟩)
        have hne : (LL.toList == D.toList) = true := by rw [ByteArray.toList_eq, ByteArray.toList_eq, HLD.out, HD.out, hl]; simp
        clear hl
        have z0 : W10.cell? ⟨W8.heap.size, 0, none⟩ = some (.slice A2 n2 c2) := HC10.out.cell 0
        have z1 : W10.cell? ⟨w.heap.size + 1 + 1 + 1, 0, none⟩ = some (.slice A n c) := HB10.out.cell 0
        have f1 : W10.frozen? ⟨w.heap.size + 1 + 1 + 1, 0, none⟩ = false := HB10.out.frozen 0
        gi_wp2
        have hz7 : W6.heap.size ≤ (W6.alloc (.cells (T.cells A1 n1 c1 K1 m1 d1) 41)).heap.size := by rw [World.size_alloc]; omega
        have hs6 := HS6.out
        have hs := set_grown W10 (w.heap.size + 3) 0 (.slice A2 n2 c2)
        have hQX := bl_ca HQ7.out HQ10.out
        have hB3 : Blk (W10.setCell ⟨w.heap.size + 3, 0, none⟩ (.slice A2 n2 c2)) (w.heap.size + 3) 24 #[.slice A2 n2 c2] := by simpa using HB10.out.set_ 0 (.slice A2 n2 c2)
        refine ⟨(KpM.of_below hQX).trans (KpM.of_grown hs (fun r e hr => by injection e with e; omega)), ⟨cs ++ [T], A2, n2, c2, fun rest => by rw [List.append_assoc, HPRE.out, HTE.out]; exact parseF_good (a := a) HYG.out rest, hB3, ?_, HN9.out.1, HN9.out.2, fun k t hk => ?_, ((catB_iff _).1 HCT.out).hi⟩, ?_, ?_, ?_, ?_⟩
        · exact Lay.rd_keep (fun b hb hl => hs.block b hl (fun e => by injection e with e; omega)) (Lay.rd_weak (fun b hb _ => (show w.heap.size + 14 ≤ b from by omega)) HR10.out)
        · rcases Nat.lt_or_ge k cs.length with h9 | h9
          · rw [List.getElem?_append_left h9] at hk; exact HSZ.out k t hk
          · rw [List.getElem?_append_right h9] at hk
            have : t = T := by
              have h8 := List.mem_of_getElem? hk
              rwa [List.mem_singleton] at h8
            rw [this]; exact HSZT.out
        · exact (HB7.out.2.1.ca HQ10.out).far (p := ⟨w.heap.size + 3, 0, none⟩) (by show w.heap.size ≠ w.heap.size + 3; omega) _
        · exact (HB7.out.2.2.1.ca HQ10.out).far (p := ⟨w.heap.size + 3, 0, none⟩) (by show w.heap.size + 1 ≠ w.heap.size + 3; omega) _
        · exact (HB7.out.2.2.2.ca HQ10.out).far (p := ⟨w.heap.size + 3, 0, none⟩) (by show w.heap.size + 2 ≠ w.heap.size + 3; omega) _
        · exact (bl_ca HQ5.out hQX).setCell (p := ⟨w.heap.size + 3, 0, none⟩) (by show w.heap.size ≤ w.heap.size + 3; omega) _
  case done =>
    rintro D5 xs W5 hD rfl hi hK
    obtain ⟨⟨cs, A, n, c, hpre, hbc, hrd, hnc, hcm, hsz, hlen4⟩, b0, b1, b2, q⟩ := hi
    have HF := Lib.hid (show parseT s = (cs, 0, 0) from by
      have h9 := hpre []
      rw [List.append_nil, parseF] at h9
      rw [HR.out, h9])
    rw [HF.out]
    have hbc' : W5.cell? ⟨w.heap.size + 1 + 1 + 1, 0, none⟩ = some (.slice A n c) := hbc.cell 0
    have z0 : W5.cell? ⟨w.heap.size, 0, none⟩ = some (.slice none 0 0) := b0.cell 0
    have z1 : W5.cell? ⟨w.heap.size + 1, 0, none⟩ = some (.int .i64 0) := b1.cell 0
    have z2 : W5.cell? ⟨w.heap.size + 1 + 1, 0, none⟩ = some (.int .i64 0) := b2.cell 0
    have f0 : W5.frozen? ⟨w.heap.size, 0, none⟩ = false := b0.frozen 0
    have f1 : W5.frozen? ⟨w.heap.size + 1, 0, none⟩ = false := b1.frozen 0
    have f2 : W5.frozen? ⟨w.heap.size + 1 + 1, 0, none⟩ = false := b2.frozen 0
    gi_wp2
    rw [HF.out]
    obtain ⟨k0, k1, k2⟩ := three_set (.slice A n c) (.int .i64 0) (.int .i64 0) b0 b1 b2 (by omega) (by omega) (by omega)
    have hKX := ((three_kp (Kq := fun r => r = D5) (W := W5) (a := w.heap.size) (b := w.heap.size + 1) (c := w.heap.size + 2) (.slice A n c) (.int .i64 0) (.int .i64 0) (by omega) (by omega) (by omega)).2 D5 rfl (Array.getElem?_eq_some_iff.1 hK).1).trans hK
    have hBX := three_below (a := w.heap.size) (b := w.heap.size + 1) (c := w.heap.size + 2) (.slice A n c) (.int .i64 0) (.int .i64 0) q (Nat.le_refl _) (by omega) (by omega)
    have hRX := Lay.rd_keep (w' := ((W5.setCell ⟨w.heap.size, 0, none⟩ (.slice A n c)).setCell ⟨w.heap.size + 1, 0, none⟩ (.int .i64 0)).setCell ⟨w.heap.size + 2, 0, none⟩ (.int .i64 0)) (fun b hb hl => (three_kp (Kq := fun r => w.heap.size + 14 ≤ r) (W := W5) (a := w.heap.size) (b := w.heap.size + 1) (c := w.heap.size + 2) (.slice A n c) (.int .i64 0) (.int .i64 0) (by omega) (by omega) (by omega)).2 b hb hl) hrd
    refine ⟨by simp, .inl ⟨_, _, rfl, run_takeDeferred hKX, ?_⟩⟩
    clear z0 z1 z2 f0 f1 f2 hbc' b0 b1 b2 hbc hrd q hK HF
    generalize ((W5.setCell ⟨w.heap.size, 0, none⟩ (.slice A n c)).setCell ⟨w.heap.size + 1, 0, none⟩ (.int .i64 0)).setCell ⟨w.heap.size + 2, 0, none⟩ (.int .i64 0) = X at *
    have hg := grownBy_putObj' X D5 (.deferred none)
    have z0 : (X.putObj D5 (.deferred none)).cell? ⟨w.heap.size, 0, none⟩ = some (.slice A n c) := (blk_same k0 (hg.block _ k0.lt (fun e => by injection e with e; omega))).cell 0
    have z1 : (X.putObj D5 (.deferred none)).cell? ⟨w.heap.size + 1, 0, none⟩ = some (.int .i64 0) := (blk_same k1 (hg.block _ k1.lt (fun e => by injection e with e; omega))).cell 0
    have z2 : (X.putObj D5 (.deferred none)).cell? ⟨w.heap.size + 1 + 1, 0, none⟩ = some (.int .i64 0) := (blk_same k2 (hg.block _ k2.lt (fun e => by injection e with e; omega))).cell 0
    refine ⟨.tuple #[.agg #[.slice A n c], .int .i64 0, .int .i64 0], (by simp [results, Tryz.results10, go_sem, z0, z1, z2]), A, n, c, rfl, Lay.rd_weak (fun _ _ _ => trivial) (Lay.rd_keep (fun b hb hl => hg.block b hl (fun e => by injection e with e; omega)) hRX), hnc, hcm, hBX.grown hg (by have := hBX.size; omega) (fun k e => by injection e with e; omega)⟩
  case stop =>
    rintro D5 cc pre W5 hD hsp ⟨rfl, ⟨a, hbad, b0, b1, b2⟩, q⟩ hK
    have HF := Lib.hid (show parseT s = ([], (a : Int), 212) from by
      obtain ⟨rest, hrest⟩ := hsp
      rw [HR.out, ← hrest, hbad])
    rw [HF.out]
    gi_wp2
    refine ⟨by simp, .inl ⟨_, _, rfl, run_takeDeferred hK, ?_⟩⟩
    have hg := grownBy_putObj' W5 D5 (.deferred none)
    have z0 : (W5.putObj D5 (.deferred none)).cell? ⟨w.heap.size, 0, none⟩ = some (.slice none 0 0) := (blk_same b0 (hg.block _ b0.lt (fun e => by injection e with e; omega))).cell 0
    have z1 : (W5.putObj D5 (.deferred none)).cell? ⟨w.heap.size + 1, 0, none⟩ = some (.int .i64 (a : Int)) := (blk_same b1 (hg.block _ b1.lt (fun e => by injection e with e; omega))).cell 0
    have z2 : (W5.putObj D5 (.deferred none)).cell? ⟨w.heap.size + 1 + 1, 0, none⟩ = some (.int .i64 212) := (blk_same b2 (hg.block _ b2.lt (fun e => by injection e with e; omega))).cell 0
    refine ⟨.tuple #[.agg #[.slice none 0 0], .int .i64 (a : Int), .int .i64 212], (by simp [results, Tryz.results10, go_sem, z0, z1, z2]), none, 0, 0, rfl, Lay.rd_nil none, Nat.le_refl _, by decide, q.grown hg q.size (fun k e => by injection e with e; omega)⟩
/-- catalog.Parse -/
theorem parse_any (s : ByteArray) (w : World) (hT : Tab w) : Calls Tryz.prog 10 #[.string s] w (PaO (parseT s) w) := by
  by_cases hs : s.size ≤ 1000
  · exact callsIn_wide.1 (parse_in s w hs hT)
  · exact parse_long s w (by omega)
end Go.Proofs.YthgcdilkkldgjaaGreatDoor
/- The law's small and wakes. Conditions: what the tables hold. -/
namespace Go.Proofs.YthgcdilkkldgjaaGreatDoor
open Go.RowKit
def tS : TC := ⟨⟨#[116]⟩, [⟨⟨#[97]⟩, 2⟩, ⟨⟨#[98]⟩, 3⟩], [0]⟩
def tSx : ByteArray := ⟨#[116, 97, 98, 108, 101, 32, 116, 32, 97, 32, 105, 110, 116, 32, 98, 32, 116, 101, 120, 116, 32, 98, 121, 32, 97, 10]⟩
theorem tS_tab : tabB tS = true := (tabB_iff tS).2 {
  nm := by decide +kernel
  lo := by decide
  hi := by decide
  ok := fun k c h => by
    match k, h with
    | 0, h => simp [tS] at h; subst h; decide +kernel
    | 1, h => simp [tS] at h; subst h; decide +kernel
    | k + 2, h => simp [tS] at h
  nd := fun i k a b hik h1 h2 => by
    match i, k, hik, h1, h2 with
    | 0, 1, _, h1, h2 => simp [tS] at h1 h2; subst h1 h2; decide
    | i, k + 2, _, _, h2 => simp [tS] at h2
    | i + 1, 1, h, _, _ => omega
  ks := by decide }
theorem nil_cat : catB [] = true := (catB_iff []).2 ⟨by simp, fun k t h => by simp at h, fun i k a b _ h => by simp at h⟩
theorem tS_cat : catB [tS] = true := (catB_iff [tS]).2 ⟨by simp, fun k t h => by
  match k, h with
  | 0, h => simp at h; subst h; exact tS_tab
  | k + 1, h => simp at h, fun i k a b hik h1 h2 => by
  match k, hik, h2 with
  | k + 1, _, h2 => simp at h2⟩
theorem tS_line : lineL tS = tSx.data.toList := by decide +kernel
theorem tS_pr : prS [tS] = tSx := by
  unfold prS
  rw [if_pos tS_cat]
  show (⟨(lineL tS ++ []).toArray⟩ : ByteArray) = _
  rw [List.append_nil, tS_line]
theorem tS_sz : Sz tS := ⟨by decide, fun k c h => by
  match k, h with
  | 0, h => simp [tS] at h; subst h; decide
  | 1, h => simp [tS] at h; subst h; decide
  | k + 2, h => simp [tS] at h⟩
set_option maxRecDepth 100000 in
set_option maxHeartbeats 4000000 in
theorem small_any (w : World) : Calls Tryz.prog 14 #[] w fun e w' => ∃ g1 g2, e = .returned (.agg (tS.cells (some ⟨g1, 0, none⟩) 2 2 (some ⟨g2, 0, none⟩) 1 1)) ∧ LCO.rd w' AllB (some ⟨g1, 0, none⟩) 2 tS.cols ∧ LK.rd w' AllB (some ⟨g2, 0, none⟩) 1 tS.keys ∧ Below w.heap.size w w' := by
  go_enter Tryz.func14, Tryz.ntmps14
  go_wp2
  have b0 := ((Blk.new w 41 (tS.cells (some ⟨w.heap.size + 1, 0, none⟩) 2 2 (some ⟨w.heap.size + 1 + 1, 0, none⟩) 1 1)).alloc (.cells #[.string ⟨#[97]⟩, .int .i64 2, .string ⟨#[98]⟩, .int .i64 3] 71)).alloc (.cells #[.int .i64 0] 3)
  have b1 := (Blk.new (w.alloc (.cells (tS.cells (some ⟨w.heap.size + 1, 0, none⟩) 2 2 (some ⟨w.heap.size + 1 + 1, 0, none⟩) 1 1) 41)) 71 #[.string ⟨#[97]⟩, .int .i64 2, .string ⟨#[98]⟩, .int .i64 3]).alloc (.cells #[.int .i64 0] 3)
  have b2 := Blk.new ((w.alloc (.cells (tS.cells (some ⟨w.heap.size + 1, 0, none⟩) 2 2 (some ⟨w.heap.size + 1 + 1, 0, none⟩) 1 1) 41)).alloc (.cells #[.string ⟨#[97]⟩, .int .i64 2, .string ⟨#[98]⟩, .int .i64 3] 71)) 3 #[.int .i64 0]
  rw [World.size_alloc] at b1
  rw [World.size_alloc, World.size_alloc] at b2
  exact bodyPost_ret (res1 Tryz.results14 rfl b0 Tryz.underlying41 rfl tableI) rfl ⟨w.heap.size + 1, w.heap.size + 1 + 1, rfl, Lay.rd_blk b1 rfl ⟨[.string ⟨#[97]⟩, .int .i64 2], _, rfl, rfl, [.string ⟨#[98]⟩, .int .i64 3], [], rfl, rfl, rfl⟩ trivial, Lay.rd_blk b2 rfl ⟨[.int .i64 0], [], rfl, rfl, rfl⟩ trivial, bl_al (bl_al (bl_al (Below.refl w.heap.size w) _) _) _⟩
set_option maxRecDepth 100000 in
set_option maxHeartbeats 4000000 in
theorem wakes_any (w : World) (hT : Tab w) : Calls Tryz.prog 4 #[] w fun e w' => e = .returned (.bool true) ∧ Below w.heap.size w w' := by
  have HTB := Lib.hid hT
  clear hT
  go_enter Tryz.func4, Tryz.ntmps4
  go_wp2_with fail
  refine (small_any w).mono ?_
  rintro e w1 ⟨g1, g2, rfl, hr, hk, q1⟩
  have HR := Lib.hid hr
  have HK := Lib.hid hk
  have HQ1 := Lib.hid q1
  clear hr hk q1
  go_wp2_with fail
  refine (add_any AllB [] none 0 0 tS _ 2 2 _ 1 1 w1 (Lay.rd_nil _) (by omega) (HTB.out.below HQ1.out) (fun k t h => by simp at h) HR.out HK.out tS_sz ⟨by decide, by decide⟩).mono ?_
  rintro e w2 ⟨A2, n2, c2, rfl, hr2, hn2, hc2, q2⟩
  have he : addE [] tS = 0 := by
    unfold addE
    rw [if_neg (by rw [nil_cat]; simp), if_neg (by rw [tS_tab]; simp), if_neg (by decide), if_neg (by decide)]
  have hR : addR [] tS = [tS] := by unfold addR; rw [if_pos he]; rfl
  rw [hR] at hr2
  rw [he]
  obtain rfl : n2 = 1 := (Lay.rd_len hr2).symm
  have HQ2 := Lib.hid (bl_ca HQ1.out q2)
  have HRC := Lib.hid hr2
  clear he hR hr2 q2
  have q3 := bl_al (Below.refl w2.heap.size w2) (.cells #[.slice A2 1 c2] 24)
  have HB3 := Lib.hid (Blk.new w2 24 #[.slice A2 1 c2])
  have y0 := HB3.out.cell 0
  have HRC3 := Lib.hid (Lay.rd_below HRC.out q3)
  have HQ3 := Lib.hid (bl_ca HQ2.out q3)
  clear q3
  go_wp2_with fail
  refine (print_any _ [tS] A2 1 c2 _ HRC3.out (by omega) (HTB.out.below HQ3.out) (fun k t h => by
    match k, h with
    | 0, h => simp at h; subst h; exact tS_sz
    | k + 1, h => simp at h)).mono ?_
  rintro e w4 ⟨rfl, q4⟩
  rw [tS_pr, tS_cat, show eC true = 0 from rfl]
  have HQ4 := Lib.hid (bl_ca HQ3.out q4)
  clear q4 y0
  go_wp2_with fail
  refine (small_any w4).mono ?_
  rintro e w5 ⟨g3, g4, rfl, hr, hk, q5⟩
  have HR5 := Lib.hid hr
  have HQ5 := Lib.hid (bl_ca HQ4.out q5)
  clear hr hk q5
  go_wp2_with fail
  refine (column_any AllB tS _ 2 2 _ 1 1 ⟨#[98]⟩ w5 HR5.out (by omega)).mono ?_
  rintro e w6 ⟨rfl, q6⟩
  rw [show idxL (fun t : CO => decide (t.name = (⟨#[98]⟩ : ByteArray))) tS.cols = 1 from by decide]
  have HQ6 := Lib.hid (bl_ca HQ5.out q6)
  clear q6
  have e1 : tSx.toList = [116, 97, 98, 108, 101, 32, 116, 32, 97, 32, 105, 110, 116, 32, 98, 32, 116, 101, 120, 116, 32, 98, 121, 32, 97, 10] := by decide +kernel
  rw [show fnd 1 = 1 from rfl]
  go_wp2
  all_goals (go_ret; exact ⟨rfl, HQ6.out⟩)
end Go.Proofs.YthgcdilkkldgjaaGreatDoor
/- The reference's Parse. Conditions: none. -/
namespace Go.Proofs.YthgcdilkkldgjaaGreatDoor
open Go.RowKit
section
variable {P : Program}
theorem res3 {fn : Func} {p q r : Tmp} {ty : TypeId} (h : fn.results = #[.cell p ty, .tmp q, .tmp r]) {tmps : Array Value} {w : World} {g : Nat} {t : TypeId} {cs : Array Value} {d : TypeDesc} {v x : Value}
    (hp : tmps.getD p undef = .pointer (some ⟨g, 0, none⟩)) (hq : tmps.getD q undef = v) (hr : tmps.getD r undef = x) (hg : Blk w g t cs) (hu : P.underlying ty = some d) (hd : (match d with | .struct _ | .array _ _ => true | _ => false) = true) (hi : (P.info? ty).map (·.size) = some cs.size) :
    (results fn tmps).run P w = .ok (.tuple #[.agg cs, v, x]) w := by
  have hp' : tmps[p]?.getD undef = .pointer (some ⟨g, 0, none⟩) := by simpa using hp
  have hq' : tmps[q]?.getD undef = v := by simpa using hq
  have hr' : tmps[r]?.getD undef = x := by simpa using hr
  simp [results, h, hp', hq', hr', asAddr, run_loadVar_row w g t ty cs (0, 0) d hg hu hd hi]
end
def RPO (r : List TC × Int × Int) (w : World) (e : Ending) (w' : World) : Prop := ∃ A n c, e = .returned (.tuple #[.agg #[.slice A n c], .int .i64 r.2.1, .int .i64 r.2.2]) ∧ LT3.rd w' AllB A n r.1 ∧ Below w.heap.size w w'
theorem RPO.bad {w w' : World} {a : Int} {e : Int} (q : Below w.heap.size w w') : RPO ([], a, e) w (.returned (.tuple #[.agg #[.slice none 0 0], .int .i64 a, .int .i64 e])) w' := ⟨none, 0, 0, rfl, Lay.rd_nil _, q⟩
theorem parseT_long {s : ByteArray} (h : 1000 < s.size) : parseT s = ([], 0, 3) := by unfold parseT; rw [if_pos h]
theorem parseT_short {s : ByteArray} (h : ¬ 1000 < s.size) : parseT s = fT 0 [] s.data.toList := by unfold parseT fT; rw [if_neg h]
/-- a line's end, found -/
theorem line_cut {T : List UInt8} {a e : Nat} (hae : a ≤ e) (hy : ∀ b ∈ (T.drop a).take (e - a), b ≠ 10) (he : T[e]? = some 10) : Lib.indexByte (T.drop a) 10 = ((e - a : Nat) : Int) ∧ (T.drop a).take (e - a + 1) = (T.drop a).take (e - a) ++ [10] ∧ (T.drop a).drop (e - a + 1) = T.drop (e + 1) := by
  have hlt : e < T.length := (List.getElem?_eq_some_iff.1 he).1
  have h1 : (T.drop a)[e - a]? = some 10 := by rw [List.getElem?_drop, show a + (e - a) = e from by omega]; exact he
  have h2 : (T.drop a).take (e - a + 1) = (T.drop a).take (e - a) ++ [10] := by rw [List.take_add_one, h1]; rfl
  have h3 : (T.drop a).drop (e - a + 1) = T.drop (e + 1) := by rw [List.drop_drop]; congr 1; omega
  refine ⟨?_, h2, h3⟩
  have h4 : T.drop a = (T.drop a).take (e - a) ++ 10 :: T.drop (e + 1) := by
    conv => lhs; rw [← List.take_append_drop (e - a + 1) (T.drop a), h2, h3, List.append_assoc]
    rfl
  have h5 := idx_pre ((T.drop a).take (e - a)) (T.drop (e + 1)) hy
  rw [← h4, List.length_take, List.length_drop, Nat.min_eq_left (by omega)] at h5
  exact h5
theorem no_cut {T : List UInt8} {a : Nat} (hy : ∀ b ∈ T.drop a, b ≠ 10) : Lib.indexByte (T.drop a) 10 = -1 := by
  rcases idxB_range (T.drop a) 10 with h | ⟨i, h, hi⟩
  · exact h
  · obtain ⟨h1, _⟩ := Lib.indexByte_some h
    exact absurd rfl (hy 10 (List.mem_of_getElem? h1))
set_option maxRecDepth 100000 in
set_option maxHeartbeats 16000000 in
theorem rparse_any (s : ByteArray) (w : World) : Calls Tryz.prog 11 #[.string s] w (RPO (parseT s) w) := by
  obtain ⟨T, hT⟩ : ∃ T, T = s.data.toList := ⟨_, rfl⟩
  have HTT := Lib.hid hT
  have HSL := Lib.hid (show T.length = s.size from by rw [hT]; exact Array.length_toList)
  clear hT
  have q1 := bl_al (Below.refl w.heap.size w) (.cells #[.slice none 0 0] 24)
  have HR1 := Lib.hid (Blk.new w 24 #[.slice none 0 0])
  have HQ1 := Lib.hid q1
  have hs1 : (w.alloc (.cells #[.slice none 0 0] 24)).heap.size = w.heap.size + 1 := World.size_alloc _ _
  go_enter Tryz.func11, Tryz.ntmps11
  by_cases hlong : (1000 : Int) < (s.size : Int)
  · rw [parseT_long (by omega)]
    have hz := HR1.out
    clear q1
    go_wp2
    exact bodyPost_ret (res3 Tryz.results11 rfl rfl rfl hz Tryz.underlying24 rfl catI) rfl (RPO.bad HQ1.out)
  rw [parseT_short (by omega), ← HTT.out]
  have q2 := bl_al (Below.refl (w.alloc (.cells #[.slice none 0 0] 24)).heap.size (w.alloc (.cells #[.slice none 0 0] 24))) (.cells #[.slice none 0 0] 24)
  have HR2 := Lib.hid (HR1.out.ca q2)
  have HC2 := Lib.hid (Blk.new (w.alloc (.cells #[.slice none 0 0] 24)) 24 #[.slice none 0 0])
  rw [hs1] at HC2
  have HQ2 := Lib.hid (bl_ca HQ1.out q2)
  have hs2 : ((w.alloc (.cells #[.slice none 0 0] 24)).alloc (.cells #[.slice none 0 0] 24)).heap.size = w.heap.size + 2 := by rw [World.size_alloc, hs1]
  clear q1 q2 HR1 HQ1
  obtain ⟨RR, hRR⟩ : ∃ RR, RR = fT 0 [] T := ⟨_, rfl⟩
  rw [← hRR]
  have HRR := Lib.hid hRR
  clear hRR
  go_wp2_with fail
  generalize (w.alloc (.cells #[.slice none 0 0] 24)).alloc (.cells #[.slice none 0 0] 24) = w2 at *
  clear hs1
  go_loopg [6] s.size (fun g v wr => ∃ (a : Nat) (c : List TC) (A : Option Addr) (n cc : Nat), a + g = s.size ∧ v = .int .i64 a ∧ Hid (RR = fT a c (T.drop a)) ∧ Hid (catB c = true) ∧ Hid (LT3.rd wr (fun b => w.heap.size + 2 ≤ b) A n c) ∧ Hid (Blk wr (w.heap.size + 1) 24 #[.slice A n cc]) ∧ Hid (Blk wr w.heap.size 24 #[.slice none 0 0]) ∧ Hid (Below w.heap.size w wr) ∧ w.heap.size + 2 ≤ wr.heap.size)
  case atStart => exact ⟨0, [], none, 0, 0, by omega, rfl, by rw [List.drop_zero]; exact HRR, Lib.hid nil_cat, Lib.hid (Lay.rd_nil _), HC2, HR2, HQ2, by omega⟩
  case round =>
    obtain ⟨a, c, A, n, cc, hag, rfl, HRX, HCB, HRD, HBC, HBR, HBL, hszr⟩ := hrel
    have hn4 : n ≤ 4 := by rw [← Lay.rd_len HRD.out]; exact ((catB_iff c).1 HCB.out).hi
    have hcl : c.length = n := Lay.rd_len HRD.out
    by_cases hlt : a < s.size
    · have hi1 : (a : Int) < (s.size : Int) := by omega
      obtain ⟨gi, hgi⟩ : ∃ gi, gi = gk := ⟨_, rfl⟩
      rw [← hgi] at hag
      go_wp2_with fail
      go_loopg [7] (s.size - a) (fun g v wq => ∃ e : Nat, e + g = s.size ∧ a ≤ e ∧ v = .int .i64 e ∧ Hid (∀ b ∈ (T.drop a).take (e - a), b ≠ 10) ∧ wr = wq)
      case atStart => exact ⟨a, by omega, Nat.le_refl _, rfl, Lib.hid (by rw [Nat.sub_self, List.take_zero]; intro b hb; cases hb), rfl⟩
      case round =>
        obtain ⟨e, heg, hae, rfl, HY, rfl⟩ := hrel
        by_cases hel : e < s.size
        · have hi2 : (e : Int) < (s.size : Int) := by omega
          have HE := Lib.hid (show T[e]? = some s[e] from by rw [HTT.out, List.getElem?_eq_getElem (by rw [Array.length_toList]; exact hel), Array.getElem_toList]; rfl)
          by_cases hb : s[e].toNat = 10
          · have hne : ¬ (e : Int) = (s.size : Int) := by omega
            have HE2 := Lib.hid (show T[e]? = some 10 from by rw [HE.out]; exact congrArg some (UInt8.toNat_inj.1 hb))
            obtain ⟨k1, k2, k3⟩ := line_cut hae HY.out HE2.out
            have HK1 := Lib.hid k1
            have HK2 := Lib.hid k2
            have HK3 := Lib.hid k3
            have HEX := Lib.hid (show (s.extract a e).data.toList = (T.drop a).take (e - a) from by rw [Lib.extract_data, ← HTT.out])
            have hxs : (s.extract a e).size ≤ 1000 := by rw [ByteArray.size_extract]; omega
            clear HE HE2 k1 k2 k3
            go_wp2_with fail
            refine (rRead_any _ wr hxs).mono ?_
            rintro e' w3 ⟨t, A1, n1, c1, K1, m1, d1, b, rfl, hTt, hF, q3⟩
            rw [HEX.out] at hTt hF
            have q4 := bl_al q3 (.cells (t.cells A1 n1 c1 K1 m1 d1) 41)
            have HBC4 := Lib.hid (HBC.out.ca q4)
            have HBR4 := Lib.hid (HBR.out.ca q4)
            have HBL4 := Lib.hid (bl_ca HBL.out q4)
            have HRD4 := Lib.hid (Lay.rd_below HRD.out q4)
            have HN4 := Lib.hid (Blk.new w3 41 (t.cells A1 n1 c1 K1 m1 d1))
            have hs3 := q3.size
            have hs4 : (w3.alloc (.cells (t.cells A1 n1 c1 K1 m1 d1) 41)).heap.size = w3.heap.size + 1 := World.size_alloc _ _
            have HQ34 := Lib.hid (bl_al (Below.refl w3.heap.size w3) (.cells (t.cells A1 n1 c1 K1 m1 d1) 41))
            have HTt := Lib.hid hTt
            have HFt := Lib.hid hF
            clear hTt hF q3 q4 HBC HBR HBL HRD
            cases b
            case false =>
              have HBAD := Lib.hid (show RR = ([], (a : Int), 212) from by
                rw [HRX.out]
                exact fT_bad a HK1.out (by rw [HK2.out]; exact goodL_no (HFt.out rfl)))
              clear HTt HFt
              go_wp2_with (first | (refine wpList_store_blk rfl 24 (.tmp 2) (.tmp 60) rfl (w.heap.size) 24 #[.slice none 0 0] #[.slice none 0 0] rfl rfl HBR4.out rfl catI (by simp [Value.oneCell']) ?_; intro w8 h8 g8))
              exact bodyPost_ret (res3 Tryz.results11 rfl rfl rfl h8 Tryz.underlying24 rfl catI) rfl (by rw [HBAD.out]; exact RPO.bad (bl_gr HBL4.out g8 (by omega)))
            case true =>
              obtain ⟨t1, t2, t3, t4, t5, t6, t7, t8⟩ := HTt.out rfl
              have HG := Lib.hid (goodL_of t1 t2 HCB.out)
              have HGR := Lib.hid (good_read t1 t2).1
              have HC1 := Lib.hid (Lay.rd_weak (G := fun b => w.heap.size + 2 ≤ b) (fun b hb _ => by omega) (Lay.rd_below t3 HQ34.out))
              have HC2' := Lib.hid (Lay.rd_weak (G := fun b => w.heap.size + 2 ≤ b) (fun b hb _ => by omega) (Lay.rd_below t4 HQ34.out))
              have HCP := Lib.hid (And.intro (And.intro t5 t6) (And.intro t7 t8))
              clear t1 t2 t3 t4 t5 t6 t7 t8 HTt HFt
              have y0 := HBC4.out.cell 0
              have z0 := HN4.out.cell 0
              go_wp2_with fail
              generalize w3.alloc (.cells (t.cells A1 n1 c1 K1 m1 d1) 41) = w4 at *
              refine (rfind_any _ A n cc c t.name w4 HRD4.out (by omega)).mono ?_
              rintro e' w5 ⟨rfl, q5⟩
              obtain ⟨z, hz⟩ : ∃ z, z = idxL (fun x : TC => decide (x.name = t.name)) c := ⟨_, rfl⟩
              rw [← hz] at HG ⊢
              clear hz
              have HBC5 := Lib.hid (HBC4.out.ca q5)
              have HBR5 := Lib.hid (HBR4.out.ca q5)
              have HBL5 := Lib.hid (bl_ca HBL4.out q5)
              have HRD5 := Lib.hid (Lay.rd_below HRD4.out q5)
              have HN5 := Lib.hid (HN4.out.ca q5)
              have HC15 := Lib.hid (Lay.rd_below HC1.out q5)
              have HC25 := Lib.hid (Lay.rd_below HC2'.out q5)
              have hs5 := q5.size
              clear q5 y0 z0 HBC4 HBR4 HBL4 HRD4 HN4 HC1 HC2'
              have y0 := HBC5.out.cell 0
              by_cases hzz : 0 ≤ z
              · have HBAD := Lib.hid (show RR = ([], (a : Int), 212) from by
                  rw [HRX.out]
                  exact fT_bad a HK1.out (by rw [HK2.out]; exact fun hg => by have := (HG.out.1 hg).1; omega))
                go_wp2_with (first | (refine wpList_store_blk rfl 24 (.tmp 2) (.tmp 60) rfl (w.heap.size) 24 #[.slice none 0 0] #[.slice none 0 0] rfl rfl HBR5.out rfl catI (by simp [Value.oneCell']) ?_; intro w8 h8 g8))
                exact bodyPost_ret (res3 Tryz.results11 rfl rfl rfl h8 Tryz.underlying24 rfl catI) rfl (by rw [HBAD.out]; exact RPO.bad (bl_gr HBL5.out g8 (by omega)))
              by_cases h4 : n = 4
              · have HBAD := Lib.hid (show RR = ([], (a : Int), 212) from by
                  rw [HRX.out]
                  exact fT_bad a HK1.out (by rw [HK2.out]; exact fun hg => (HG.out.1 hg).2 (hcl.trans h4)))
                subst h4
                go_wp2_with (first | (refine wpList_store_blk rfl 24 (.tmp 2) (.tmp 60) rfl (w.heap.size) 24 #[.slice none 0 0] #[.slice none 0 0] rfl rfl HBR5.out rfl catI (by simp [Value.oneCell']) ?_; intro w8 h8 g8))
                exact bodyPost_ret (res3 Tryz.results11 rfl rfl rfl h8 Tryz.underlying24 rfl catI) rfl (by rw [HBAD.out]; exact RPO.bad (bl_gr HBL5.out g8 (by omega)))
              have h4i : ((n : Int) == 4) = false := by simp; omega
              have HGG := Lib.hid (HG.out.2 ⟨by omega, by omega⟩)
              have HRX2 := Lib.hid (show RR = fT (e + 1) (c ++ [t]) (T.drop (e + 1)) from by
                rw [HRX.out, fT_good a HK1.out (by rw [HK2.out]; exact HGG.out), HK2.out, HGR.out, HK3.out, show a + (e - a + 1) = e + 1 from by omega])
              have HCB2 := Lib.hid (show catB (c ++ [t]) = true from (add_ok (by have := HGG.out.1; rw [HGR.out] at this; exact this)).cat)
              have z0 := HN5.out.cell 0
              have z1 := HN5.out.cell 1
              have z2 := HN5.out.cell 2
              clear HG HGG HGR
              go_wp2_with fail
              refine (with_any _ c A n cc t A1 n1 c1 K1 m1 d1 w5 HRD5.out (by omega) HC15.out HCP.out.1.1 HCP.out.1.2 HC25.out HCP.out.2.1 HCP.out.2.2).mono ?_
              rintro e' w6 ⟨A2, n2, c2, rfl, hr6, q6⟩
              have HBC6 := Lib.hid (HBC5.out.ca q6)
              have HBR6 := Lib.hid (HBR5.out.ca q6)
              have HBL6 := Lib.hid (bl_ca HBL5.out q6)
              have HRD6 := Lib.hid (Lay.rd_weak (G := fun b => w.heap.size + 2 ≤ b) (fun b hb _ => by omega) hr6)
              have hs6 := q6.size
              clear q6 hr6 y0 z0 z1 z2 HBC5 HBR5 HBL5 HRD5 HN5 HC15 HC25
              go_wp2_with (first | (refine wpList_store_blk rfl 24 (.tmp 5) (.tmp 64) rfl (w.heap.size + 1) 24 #[.slice A n cc] #[.slice A2 n2 c2] rfl rfl HBC6.out rfl catI (by simp [Value.oneCell']) ?_; intro w8 h8 g8))
              go_roundg (gi - (e + 1 - a))
              · exact ⟨e + 1, c ++ [t], A2, n2, c2, by omega, by go_num, HRX2, HCB2, Lib.hid (rd_grownH HRD6.out g8 (fun b hb => by omega)), Lib.hid h8, Lib.hid (HBR6.out.grown g8 (fun e => by injection e with e; omega)), Lib.hid (bl_gr HBL6.out g8 (by omega)), by have := g8.size; omega⟩
              · omega
          · have HY2 := Lib.hid (show ∀ b ∈ (T.drop a).take (e + 1 - a), b ≠ 10 from by
              intro b hbm
              rw [show e + 1 - a = (e - a) + 1 from by omega, List.take_add_one, List.getElem?_drop, show a + (e - a) = e from by omega, HE.out] at hbm
              rcases List.mem_append.1 hbm with h9 | h9
              · exact HY.out b h9
              · have h8 : b = s[e] := by simpa using h9
                rw [h8]; intro h7; exact hb (by rw [h7]; rfl))
            clear HE HY
            go_wp2_with fail
            go_roundg (gk - 1)
            · exact ⟨e + 1, by omega, by omega, by go_num, HY2, rfl⟩
            · omega
        · obtain rfl : e = s.size := by omega
          have hi2 : (s.size : Int) ≤ (s.size : Int) := by omega
          have HBAD := Lib.hid (show RR = ([], (a : Int), 212) from by
            rw [HRX.out]
            refine fT_last a c (fun h9 => by have := congrArg List.length h9; rw [List.length_drop, HSL.out] at this; simp at this; omega) (no_cut ?_)
            have h9 := HY.out
            rwa [List.take_of_length_le (by rw [List.length_drop, HSL.out]; exact Nat.le_refl _)] at h9)
          go_wp2_with (first | (refine wpList_store_blk rfl 24 (.tmp 2) (.tmp 35) rfl (w.heap.size) 24 #[.slice none 0 0] #[.slice none 0 0] rfl rfl HBR.out rfl catI (by simp [Value.oneCell']) ?_; intro w8 h8 g8))
          exact bodyPost_ret (res3 Tryz.results11 rfl rfl rfl h8 Tryz.underlying24 rfl catI) rfl (by rw [HBAD.out]; exact RPO.bad (bl_gr HBL.out g8 (by omega)))
    · obtain rfl : a = s.size := by omega
      have hi1 : (s.size : Int) ≤ (s.size : Int) := by omega
      have HEND := Lib.hid (show RR = (c, 0, 0) from by rw [HRX.out, List.drop_of_length_le (by rw [HSL.out]; exact Nat.le_refl _), fT_nil])
      have y0 := HBC.out.cell 0
      go_wp2_with (first | (refine wpList_store_blk rfl 24 (.tmp 2) (.tmp 67) rfl (w.heap.size) 24 #[.slice none 0 0] #[.slice A n cc] rfl rfl HBR.out rfl catI (by simp [Value.oneCell']) ?_; intro w8 h8 g8))
      exact bodyPost_ret (res3 Tryz.results11 rfl rfl rfl h8 Tryz.underlying24 rfl catI) rfl (by rw [HEND.out]; exact ⟨A, n, cc, rfl, Lay.rd_weak (fun _ _ _ => trivial) (rd_grownH HRD.out g8 (fun b hb => by omega)), bl_gr HBL.out g8 (by omega)⟩)
end Go.Proofs.YthgcdilkkldgjaaGreatDoor
