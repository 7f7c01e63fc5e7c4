/- bowspritref22.Tick. Conditions: the queue reads so; the sender's numbers are in their range. -/
import Derived.Test.YtojghgbaiiajfaaPkS21
namespace Go.Proofs.Ytojghgbaiiajfaa
open Go.RowKit
def sendsN (s : SC) (ag : Bool) (n : Int) : Bool := decide (n ≤ s.lim) && (ag || decide (s.sent < n))
def refP (s : SC) (ag : Bool) : Int → List BC → List PK
  | _, [] => []
  | n, x :: l => (if sendsN s ag n then [⟨1, s.ses, n, 0, x⟩] else []) ++ refP s ag (n + 1) l
def refS (s : SC) (ag : Bool) : Int → Int → List BC → Int
  | cur, _, [] => cur
  | cur, n, _ :: l => refS s ag (if sendsN s ag n then max cur n else cur) (n + 1) l
theorem refP_snoc (s : SC) (ag : Bool) : ∀ (l : List BC) (n : Int) (x : BC), refP s ag n (l ++ [x]) = refP s ag n l ++ (if sendsN s ag (n + (l.length : Int)) then [⟨1, s.ses, n + (l.length : Int), 0, x⟩] else [])
  | [], n, x => by simp [refP]
  | y :: l, n, x => by
    simp only [List.cons_append, refP]
    rw [refP_snoc s ag l (n + 1) x, List.append_assoc, List.length_cons, show n + 1 + (l.length : Int) = n + ((l.length + 1 : Nat) : Int) from by omega]
theorem refS_snoc (s : SC) (ag : Bool) : ∀ (l : List BC) (cur n : Int) (x : BC), refS s ag cur n (l ++ [x]) = (if sendsN s ag (n + (l.length : Int)) then max (refS s ag cur n l) (n + (l.length : Int)) else refS s ag cur n l)
  | [], cur, n, x => by simp [refS]
  | y :: l, cur, n, x => by
    simp only [List.cons_append, refS]
    rw [refS_snoc s ag l _ (n + 1) x, List.length_cons, show n + 1 + (l.length : Int) = n + ((l.length + 1 : Nat) : Int) from by omega]
theorem refP_len (s : SC) (ag : Bool) : ∀ (l : List BC) (n : Int), (refP s ag n l).length ≤ l.length
  | [], _ => by simp [refP]
  | x :: l, n => by
    have := refP_len s ag l (n + 1)
    simp only [refP, List.length_append, List.length_cons]
    split <;> simp <;> omega
theorem refP_off (s : SC) (ag : Bool) : ∀ (l : List BC) (n : Int), s.lim < n → refP s ag n l = []
  | [], _, _ => rfl
  | x :: l, n, h => by
    simp only [refP]
    rw [refP_off s ag l (n + 1) (by omega), if_neg (by unfold sendsN; simp; omega)]; rfl
theorem refS_off (s : SC) (ag : Bool) : ∀ (l : List BC) (cur n : Int), s.lim < n → refS s ag cur n l = cur
  | [], _, _, _ => rfl
  | x :: l, cur, n, h => by
    simp only [refS]
    rw [if_neg (by unfold sendsN; simp; omega), refS_off s ag l cur (n + 1) (by omega)]
/-- the reference's packets are the program's -/
theorem refP_eq (s : SC) (ag : Bool) : ∀ (l : List BC) (n : Int), 1 ≤ n → refP s ag n l = dataP s.ses s.lim (if ag then 0 else s.sent) n l
  | [], _, _ => rfl
  | x :: l, n, h => by
    simp only [refP, dataP]
    by_cases h1 : s.lim < n
    · rw [if_pos h1, refP_off s ag l (n + 1) (by omega), if_neg (by unfold sendsN; simp; omega)]; rfl
    · rw [if_neg h1, refP_eq s ag l (n + 1) (by omega)]
      congr 1
      cases ag
      · by_cases h2 : s.sent < n
        · rw [if_pos (by unfold sendsN; simp [h2]; omega), if_pos (by simpa using h2)]
        · rw [if_neg (by unfold sendsN; simp [h2]), if_neg (by simpa using h2)]
      · rw [if_pos (by unfold sendsN; simp; omega), if_pos (by simp; omega)]
theorem refS_last (s : SC) (ag : Bool) : ∀ (l : List BC) (cur n : Int), refS s ag cur n l = (match (refP s ag n l).getLast? with | none => cur | some x => max cur x.seq)
  | [], cur, n => by simp [refS, refP]
  | x :: l, cur, n => by
    simp only [refS, refP]
    rw [refS_last s ag l _ (n + 1)]
    cases hl : (refP s ag (n + 1) l).getLast? with
    | none =>
      rw [List.getLast?_eq_none_iff] at hl
      rw [hl, List.append_nil]
      cases sendsN s ag n <;> simp
    | some y =>
      have hseq : ∀ (l : List BC) (n : Int) (y : PK), y ∈ refP s ag n l → n ≤ y.seq := by
        intro l
        induction l with
        | nil => intro n y hy; cases hy
        | cons z l ih =>
          intro n y hy
          simp only [refP, List.mem_append] at hy
          rcases hy with hy | hy
          · split at hy
            · simp at hy; subst hy; exact Int.le_refl _
            · cases hy
          · have := ih _ _ hy; omega
      have hy := hseq _ _ _ (List.mem_of_getLast? hl)
      rw [List.getLast?_append, hl]
      cases sendsN s ag n
      · simp
      · simp only [if_true, Option.some_or]
        show max (max cur n) y.seq = max cur y.seq
        simp only [Int.max_def]
        repeat' split
        all_goals omega
def TickW (w0 : World) (Fr : Nat → Prop) (s : SC) (e : Ending) (w' : World) : Prop :=
  ∃ A2 n2 c2 PA pn pc, e = .returned (.tuple #[.agg ((tickR s).cells A2 n2 c2), .slice PA pn pc]) ∧ Below w0.heap.size w0 w' ∧ LB3.rd w' (fun k => Fr k ∨ w0.heap.size ≤ k) A2 n2 s.q ∧ n2 ≤ c2 ∧ c2 ≤ 9223372036854775807 ∧ LP7.rd w' (fun k => Fr k ∨ w0.heap.size ≤ k) PA pn (outP s) ∧ pn ≤ 9223372036854775807
set_option maxRecDepth 100000 in
set_option maxHeartbeats 32000000 in
theorem rtick_any (Fr : Nat → Prop) (s : SC) (A : Option Addr) (n c : Nat) (w : World) (h : LB3.rd w Fr A n s.q) (hn : n ≤ 100) (hnc : n ≤ c) (hc : c ≤ 9223372036854775807) (h1 : 1 ≤ s.base) (h2 : s.base ≤ 2000000000000) (h3 : 0 ≤ s.timer) (h4 : s.timer < 3) :
    Calls Try.prog 56 #[.agg (s.cells A n c)] w (TickW w Fr s) := by
  obtain ⟨T, hT⟩ : ∃ T, T = TickW w Fr s := ⟨_, rfl⟩
  rw [← hT]
  have HOU := Lib.hid (show outP s = refP s (againS s) s.base s.q from by unfold outP aboveS; rw [refP_eq s (againS s) s.q s.base h1])
  have HSE := Lib.hid (show sentS s = refS s (againS s) s.sent s.base s.q from by unfold sentS; rw [HOU.out, refS_last]; rfl)
  have HTR := Lib.hid (show tickR s = ⟨s.ses, s.base, s.q, sentS s, s.lim, if againS s || !underS s then 0 else s.timer + 1, s.ended⟩ from rfl)
  obtain ⟨ag, hag⟩ : ∃ ag, ag = againS s := ⟨_, rfl⟩
  rw [← hag] at HOU HSE HTR
  have HL := Lib.hid (Lay.rd_len h)
  have q1 := bl_al (Below.refl w.heap.size w) (.cells #[.int .u32 s.ses, .int .u64 s.base, .slice A n c, .int .u64 s.sent, .int .u64 s.lim, .int .i64 s.timer, .bool s.ended] 29)
  have q2 := bl_al q1 (.cells #[.int .u32 0, .int .u64 0, .slice none 0 0, .int .u64 0, .int .u64 0, .int .i64 0, .bool false] 29)
  have HRD := Lib.hid (Lay.rd_below (Lay.rd_weak (fun b hb hl => (show Fr b ∧ b < w.heap.size from ⟨hb, hl⟩)) h) q2)
  obtain ⟨sx, hsx⟩ : ∃ sx, sx = s := ⟨_, rfl⟩
  have HSX := Lib.hid hsx
  obtain ⟨ses, base, q, sent, lim, timer, ended⟩ := s
  dsimp only at h1 h2 h3 h4 HL HRD q1 q2 HSE HTR HOU
  have HK1 := Lib.hid ((Blk.new w 29 #[.int .u32 ses, .int .u64 base, .slice A n c, .int .u64 sent, .int .u64 lim, .int .i64 timer, .bool ended]).alloc (.cells #[.int .u32 0, .int .u64 0, .slice none 0 0, .int .u64 0, .int .u64 0, .int .i64 0, .bool false] 29))
  have HK2 := Lib.hid (show Blk ((w.alloc (.cells #[.int .u32 ses, .int .u64 base, .slice A n c, .int .u64 sent, .int .u64 lim, .int .i64 timer, .bool ended] 29)).alloc (.cells #[.int .u32 0, .int .u64 0, .slice none 0 0, .int .u64 0, .int .u64 0, .int .i64 0, .bool false] 29)) (w.heap.size + 1) 29 #[.int .u32 0, .int .u64 0, .slice none 0 0, .int .u64 0, .int .u64 0, .int .i64 0, .bool false] from by have := Blk.new (w.alloc (.cells #[.int .u32 ses, .int .u64 base, .slice A n c, .int .u64 sent, .int .u64 lim, .int .i64 timer, .bool ended] 29)) 29 #[.int .u32 0, .int .u64 0, .slice none 0 0, .int .u64 0, .int .u64 0, .int .i64 0, .bool false]; simp only [World.size_alloc] at this; exact this)
  have HQ2 := Lib.hid q2
  have hs2 : ((w.alloc (.cells #[.int .u32 ses, .int .u64 base, .slice A n c, .int .u64 sent, .int .u64 lim, .int .i64 timer, .bool ended] 29)).alloc (.cells #[.int .u32 0, .int .u64 0, .slice none 0 0, .int .u64 0, .int .u64 0, .int .i64 0, .bool false] 29)).heap.size = w.heap.size + 2 := by simp only [World.size_alloc]
  clear h q1 q2 hsx
  rw [← HSX.out] at HOU HSE HTR hag hT
  have HTT := Lib.hid hT
  clear hT
  by_cases hu : base ≤ sent
  · by_cases ht : timer = 2
    · obtain rfl : ag = true := by rw [hag, HSX.out]; unfold againS underS; simp [hu, ht]
      have HAU2 := Lib.hid (show (if (true || !underS sx) = true then (0 : Int) else timer + 1) = 0 from rfl)
      have du : decide (base ≤ sent) = true := by simpa using hu
      have dt : (timer == 2) = true := by simpa using ht
      clear hu ht hag
      have x0 := HK1.out.cell 0
      have x1 := HK1.out.cell 1
      have x2 := HK1.out.cell 2
      have x3 := HK1.out.cell 3
      have x4 := HK1.out.cell 4
      have x5 := HK1.out.cell 5
      have x6 := HK1.out.cell 6
      go_enter Try.func56, Try.ntmps56
      go_wp2_with fail
      clear x0 x1 x2 x3 x4 x5 x6
      generalize ((w.alloc (.cells #[.int .u32 ses, .int .u64 base, .slice A n c, .int .u64 sent, .int .u64 lim, .int .i64 timer, .bool ended] 29)).alloc (.cells #[.int .u32 0, .int .u64 0, .slice none 0 0, .int .u64 0, .int .u64 0, .int .i64 0, .bool false] 29)) = w2 at *
      go_loopg [6, 7, 27] n (fun g p6 p7 a wr => ∃ (i m2 c2 : Nat) (A2 : Option Addr), i + g = n ∧ a = .int .i64 i ∧ p6 = .slice A2 m2 c2 ∧ p7 = .int .u64 (refS sx true sent base (q.take i)) ∧ LP7.own 47 wr w2.heap.size (fun k => Fr k ∧ k < w.heap.size) A2 m2 c2 (refP sx true base (q.take i)) ∧ Below w2.heap.size w2 wr)
      case atStart => exact ⟨0, 0, 0, none, by omega, rfl, rfl, rfl, Lay.own_nil w2 w2.heap.size, Below.refl _ _⟩
      case round =>
        obtain ⟨i, m2, c2, A2, hig, rfl, rfl, rfl, ho, bb⟩ := hrel
        have HO := Lib.hid ho
        have HBW := Lib.hid bb
        have hsr := bb.size
        have HB1 := Lib.hid (HK1.out.ca bb)
        obtain ⟨cs, hcs⟩ : ∃ cs, cs = refS sx true sent base (q.take i) := ⟨_, rfl⟩
        rw [← hcs]
        have HCS := Lib.hid hcs
        clear hcs ho
        by_cases hlt : i < n
        · have hi1 : (i : Int) < (n : Int) := by omega
          obtain ⟨ad, ⟨rows, fin, cnt⟩, Br, nr, cr, rfl, hx, sb⟩ := LB3_at (Lay.rd_below HRD.out bb) hlt
          have e0 := sb.c0
          have e1 := sb.c1
          have e2 := sb.c2
          dsimp only at e0 e1 e2
          have htk : q.take (i + 1) = q.take i ++ [⟨rows, fin, cnt⟩] := by rw [List.take_add_one, hx]; rfl
          have hln : (q.take i).length = i := by rw [List.length_take, HL.out]; omega
          have HP := Lib.hid (show refP sx true base (q.take (i + 1)) = _ from by rw [htk, refP_snoc, hln])
          have HS := Lib.hid (show refS sx true sent base (q.take (i + 1)) = _ from by rw [htk, refS_snoc, hln, ← HCS.out])
          have hm2 : m2 ≤ 100 := by have h := refP_len sx true (q.take i) base; rw [Lay.own_len HO.out] at h; omega
          have q5 := bl_al (Below.refl wr.heap.size wr) (.cells #[.slice Br nr cr, .bool fin, .int .u64 cnt] 45)
          have HBW5 := Lib.hid (bl_ca HBW.out q5)
          have HB5 := Lib.hid (HB1.out.ca q5)
          have HO5 := Lib.hid (Lay.own_below HO.out q5)
          have HN := Lib.hid (Blk.new wr 45 #[.slice Br nr cr, .bool fin, .int .u64 cnt])
          have HR5 := Lib.hid (Lay.rd_below sb.rd q5)
          have hcap := And.intro sb.nc sb.cm
          have hw1 : IntKind.u64.wrap (i : Int) = (i : Int) := by simp [IntKind.wrap, IntKind.signed, IntKind.bits]; omega
          have hw2 : IntKind.u64.wrap (base + (i : Int)) = base + (i : Int) := by simp [IntKind.wrap, IntKind.signed, IntKind.bits]; omega
          have hsn : sendsN sx true (base + (i : Int)) = (decide (base + (i : Int) ≤ lim) && (true || decide (sent < base + (i : Int)))) := by unfold sendsN; rw [HSX.out]
          have HSN := Lib.hid hsn
          obtain ⟨nn, hnn⟩ : ∃ nn, nn = base + (i : Int) := ⟨_, rfl⟩
          rw [← hnn] at HP HS HSN hw2
          have HNN := Lib.hid hnn
          clear hx sb q5 htk hln bb hsn hnn
          go_upto_region 8 with fail
          clear e0 e1 e2
          generalize wr.alloc (.cells #[.slice Br nr cr, .bool fin, .int .u64 cnt] 45) = w5 at *
          have x1 := HB5.out.cell 1
          have x4 := HB5.out.cell 4
          have x3 := HB5.out.cell 3
          have x0 := HB5.out.cell 0
          have y0 := HN.out.cell 0
          have y1 := HN.out.cell 1
          have y2 := HN.out.cell 2
          rw [HNN.out] at hw2
          go_upto_region 9 with fail
          by_cases hc1 : base + (i : Int) ≤ lim
          · have d1 : decide (base + (i : Int) ≤ lim) = true := by simpa using hc1
            have hy : sendsN sx true nn = true := by rw [HSN.out, HNN.out]; simp [hc1]
            rw [if_pos hy] at HP HS
            clear hy
            go_upto_region 10 with fail
            have hgG : ∀ b, (Fr b ∧ b < w.heap.size) → b < w5.heap.size := fun b hb => by have h1 := hb.2; have h2 := HBW5.out.size; omega
            have hob : ∀ b, (Fr b ∧ b < w.heap.size) → (Value.slice A2 m2 c2).ownBlock ≠ some b := fun b hb e => by have h1 := (Lay.own_base HO5.out b e).1; have h2 := hb.2; omega
            have hrep : LP7.rep w5 (fun b => (Fr b ∧ b < w.heap.size) ∧ (Value.slice A2 m2 c2).ownBlock ≠ some b) ⟨1, ses, base + (i : Int), 0, ⟨rows, fin, cnt⟩⟩ #[.int .i64 1, .int .u32 ses, .int .u64 (base + (i : Int)), .int .u64 0, .slice Br nr cr, .bool fin, .int .u64 cnt].toList := ⟨Br, nr, cr, rfl, hcap.1, hcap.2, Lay.rd_weak (fun b hb _ => ⟨hb, hob b hb⟩) HR5.out⟩
            have hrep2 := LP7.keep (fun b hb hlt => Below.heap_alloc w5 (.cells #[.int .i64 1, .int .u32 ses, .int .u64 (base + (i : Int)), .int .u64 0, .slice Br nr cr, .bool fin, .int .u64 cnt] 47) b hlt) hrep
            have ho6 := Lay.own_alloc HO5.out (.cells #[.int .i64 1, .int .u32 ses, .int .u64 (base + (i : Int)), .int .u64 0, .slice Br nr cr, .bool fin, .int .u64 cnt] 47)
            have hb6 := Blk.new w5 47 #[.int .i64 1, .int .u32 ses, .int .u64 (base + (i : Int)), .int .u64 0, .slice Br nr cr, .bool fin, .int .u64 cnt]
            have hq6 := bl_al HBW5.out (.cells #[.int .i64 1, .int .u32 ses, .int .u64 (base + (i : Int)), .int .u64 0, .slice Br nr cr, .bool fin, .int .u64 cnt] 47)
            have hz6 := hq6.size
            have hG6 : ∀ b, (Fr b ∧ b < w.heap.size) → b < (w5.alloc (.cells #[.int .i64 1, .int .u32 ses, .int .u64 (base + (i : Int)), .int .u64 0, .slice Br nr cr, .bool fin, .int .u64 cnt] 47)).heap.size := fun b hb => by have := hgG b hb; simp only [World.size_alloc]; omega
            clear hrep hob hgG
            go_wp2_with (at_builtin; refine wpList_appL (L := LP7) rfl (.tmp 50) (.tmp 56) 50 rfl (.agg #[.int .i64 0, .int .u32 0, .int .u64 0, .int .u64 0, .slice none 0 0, .bool false, .int .u64 0]) 7 72 Try.underlying50 infoP rfl rfl (by omega) w2.heap.size (fun b => Fr b ∧ b < w.heap.size) A2 m2 c2 (refP sx true base (q.take i)) w5.heap.size 1 47 #[.int .i64 1, .int .u32 ses, .int .u64 (base + (i : Int)), .int .u64 0, .slice Br nr cr, .bool fin, .int .u64 cnt] ⟨1, ses, base + (i : Int), 0, ⟨rows, fin, cnt⟩⟩ rfl rfl ho6 hb6 hrep2 hG6 (by omega) (by simp only [maxLen]; omega) hz6 ?_; intro A4 c4 w4 ho4 b4)
            go_roundg (gk - 1)
            · exact ⟨i + 1, m2 + 1, c4, A4, by omega, by go_num, rfl, by rw [HS.out, HNN.out], by rw [HP.out, HNN.out, show sx.ses = ses from by rw [HSX.out]]; exact ho4, hq6.trans b4⟩
            · omega
          · have d1 : decide (base + (i : Int) ≤ lim) = false := by simpa using hc1
            have hy : ¬ sendsN sx true nn = true := by rw [HSN.out, HNN.out]; simp [hc1]
            rw [if_neg hy] at HP HS
            clear hy
            go_wp2
            go_roundg (gk - 1)
            · exact ⟨i + 1, m2, c2, A2, by omega, by go_num, rfl, by rw [HS.out], by rw [HP.out, List.append_nil]; exact HO5.out, HBW5.out⟩
            · omega
        · obtain rfl : i = n := by omega
          have hi1 : (i : Int) ≤ (i : Int) := by omega
          have htk : q.take i = q := List.take_of_length_le (by rw [HL.out]; exact Nat.le_refl _)
          have HCF := Lib.hid (show cs = sentS sx from by rw [HCS.out, htk, HSE.out])
          have ho := HO.out
          rw [htk] at ho
          have hm2 : m2 ≤ 100 := by have h := refP_len sx true q base; rw [Lay.own_len ho, HL.out] at h; omega
          have HOF := Lib.hid ho
          have b3 := HB1.out.set_ 3 (.int .u64 cs)
          have HZ1 := HK2.out.ca bb
          have hne : w.heap.size + 1 ≠ w.heap.size := by omega
          have hb3 : Blk (wr.setCell ⟨w.heap.size, 3, none⟩ (.int .u64 cs)) w.heap.size 29 #[.int .u32 ses, .int .u64 base, .slice A i c, .int .u64 cs, .int .u64 lim, .int .i64 timer, .bool ended] := by simpa using b3
          have hb5 : Blk ((wr.setCell ⟨w.heap.size, 3, none⟩ (.int .u64 cs)).setCell ⟨w.heap.size, 5, none⟩ (.int .i64 (0))) w.heap.size 29 #[.int .u32 ses, .int .u64 base, .slice A i c, .int .u64 cs, .int .u64 lim, .int .i64 (0), .bool ended] := by simpa using hb3.set_ 5 (.int .i64 (0))
          have hz5 := (HZ1.far (p := ⟨w.heap.size, 3, none⟩) hne (.int .u64 cs)).far (p := ⟨w.heap.size, 5, none⟩) hne (.int .i64 (0))
          have hq5 := ((bl_ca HQ2.out bb).setCell (p := ⟨w.heap.size, 3, none⟩) (Nat.le_refl _) (.int .u64 cs)).setCell (p := ⟨w.heap.size, 5, none⟩) (Nat.le_refl _) (.int .i64 (0))
          have hkp : ∀ b, b ≠ w.heap.size → ((wr.setCell ⟨w.heap.size, 3, none⟩ (.int .u64 cs)).setCell ⟨w.heap.size, 5, none⟩ (.int .i64 (0))).heap[b]? = wr.heap[b]? := fun b hb => (Below.heap_setCell _ ⟨w.heap.size, 5, none⟩ _ b hb).trans (Below.heap_setCell _ ⟨w.heap.size, 3, none⟩ _ b hb)
          have ho5 := Lay.own_same ho (fun k hk => hkp k (by have := (Lay.own_base ho k hk).1; omega)) (fun b hb _ _ => hkp b (by have := hb.2; omega))
          have hrd5 := Lay.rd_keep (fun b hb _ => hkp b (by have := hb.2; omega)) (Lay.rd_below HRD.out bb)
          have x0 := HB1.out.cell 0
          have x1 := HB1.out.cell 1
          have x2 := HB1.out.cell 2
          have x3 := HB1.out.cell 3
          have x4 := HB1.out.cell 4
          have x5 := HB1.out.cell 5
          have x6 := HB1.out.cell 6
          have z3 := HB1.out.frozen 3
          have z5 := HB1.out.frozen 5
          have HA5 := Lib.hid hb5
          have HA6 := Lib.hid hz5
          have HA7 := Lib.hid hq5
          have HA8 := Lib.hid ho5
          have HA9 := Lib.hid hrd5
          clear b3 hb3 hb5 hz5 hq5 hkp ho5 hrd5 ho htk bb HZ1
          go_upto_region 17 with fail
          clear x0 x1 x2 x3 x4 x5 x6 z3 z5
          generalize (wr.setCell ⟨w.heap.size, 3, none⟩ (.int .u64 cs)).setCell ⟨w.heap.size, 5, none⟩ (.int .i64 (0)) = w6 at *
          go_wp2_with (first | (refine wpList_load_blk rfl 29 (.tmp 1) rfl w.heap.size rfl 29 _ _ HA5.out Try.underlying29 rfl senderI ?_) | (refine wpList_store_blk rfl 29 (.tmp 2) (.tmp 74) rfl (w.heap.size + 1) 29 _ #[.int .u32 ses, .int .u64 base, .slice A i c, .int .u64 cs, .int .u64 lim, .int .i64 (0), .bool ended] rfl rfl HA6.out rfl senderI (by simp [Value.oneCell']) ?_; intro wz hZ gz))
          have hne1 : ∀ k : Nat, w2.heap.size ≤ k ∨ k < w.heap.size → k ≠ w.heap.size + 1 := fun k hk => by rcases hk with h | h <;> omega
          have hro := Lay.own_rd (F := fun k => Fr k ∨ w.heap.size ≤ k) (Lay.own_same HA8.out (fun k hk => gz.block k (Lay.own_base HA8.out k hk).2 (fun e => by injection e with e; exact hne1 k (.inl (Lay.own_base HA8.out k hk).1) e)) (fun k hk _ hl => gz.block k hl (fun e => by injection e with e; exact hne1 k (.inr hk.2) e))) (fun k h1 _ => .inr (by omega)) (fun k hk _ => .inl hk.1)
          have hrq := Lay.rd_keep (fun k hk hl => gz.block k hl (fun e => by injection e with e; exact hne1 k (.inr hk.2) e)) HA9.out
          exact bodyPost_ret (res2 Try.results56 rfl rfl hZ Try.underlying29 rfl senderI) rfl (by rw [HTT.out]; exact ⟨A, i, c, A2, m2, c2, by rw [HTR.out, HCF.out, HAU2.out]; rfl, bl_gr HA7.out gz (by omega), Lay.rd_weak (F := fun b => Fr b ∧ b < w.heap.size) (fun k hk _ => .inl hk.1) (by rw [show sx.q = q from by rw [HSX.out]]; exact hrq), hnc, hc, by rw [HOU.out]; exact hro, by omega⟩)
    · obtain rfl : ag = false := by rw [hag, HSX.out]; unfold againS; simp [ht]
      have HAU2 := Lib.hid (show (if (false || !underS sx) = true then (0 : Int) else timer + 1) = timer + 1 from by rw [HSX.out]; unfold underS; simp [hu])
      have du : decide (base ≤ sent) = true := by simpa using hu
      have dt : (timer == 2) = false := by simpa using ht
      have hti : IntKind.i64.wrap (timer + 1) = timer + 1 := by simp [IntKind.wrap, IntKind.signed, IntKind.bits]; omega
      clear hu ht hag
      have x0 := HK1.out.cell 0
      have x1 := HK1.out.cell 1
      have x2 := HK1.out.cell 2
      have x3 := HK1.out.cell 3
      have x4 := HK1.out.cell 4
      have x5 := HK1.out.cell 5
      have x6 := HK1.out.cell 6
      go_enter Try.func56, Try.ntmps56
      go_wp2_with fail
      clear x0 x1 x2 x3 x4 x5 x6
      generalize ((w.alloc (.cells #[.int .u32 ses, .int .u64 base, .slice A n c, .int .u64 sent, .int .u64 lim, .int .i64 timer, .bool ended] 29)).alloc (.cells #[.int .u32 0, .int .u64 0, .slice none 0 0, .int .u64 0, .int .u64 0, .int .i64 0, .bool false] 29)) = w2 at *
      go_loopg [6, 7, 27] n (fun g p6 p7 a wr => ∃ (i m2 c2 : Nat) (A2 : Option Addr), i + g = n ∧ a = .int .i64 i ∧ p6 = .slice A2 m2 c2 ∧ p7 = .int .u64 (refS sx false sent base (q.take i)) ∧ LP7.own 47 wr w2.heap.size (fun k => Fr k ∧ k < w.heap.size) A2 m2 c2 (refP sx false base (q.take i)) ∧ Below w2.heap.size w2 wr)
      case atStart => exact ⟨0, 0, 0, none, by omega, rfl, rfl, rfl, Lay.own_nil w2 w2.heap.size, Below.refl _ _⟩
      case round =>
        obtain ⟨i, m2, c2, A2, hig, rfl, rfl, rfl, ho, bb⟩ := hrel
        have HO := Lib.hid ho
        have HBW := Lib.hid bb
        have hsr := bb.size
        have HB1 := Lib.hid (HK1.out.ca bb)
        obtain ⟨cs, hcs⟩ : ∃ cs, cs = refS sx false sent base (q.take i) := ⟨_, rfl⟩
        rw [← hcs]
        have HCS := Lib.hid hcs
        clear hcs ho
        by_cases hlt : i < n
        · have hi1 : (i : Int) < (n : Int) := by omega
          obtain ⟨ad, ⟨rows, fin, cnt⟩, Br, nr, cr, rfl, hx, sb⟩ := LB3_at (Lay.rd_below HRD.out bb) hlt
          have e0 := sb.c0
          have e1 := sb.c1
          have e2 := sb.c2
          dsimp only at e0 e1 e2
          have htk : q.take (i + 1) = q.take i ++ [⟨rows, fin, cnt⟩] := by rw [List.take_add_one, hx]; rfl
          have hln : (q.take i).length = i := by rw [List.length_take, HL.out]; omega
          have HP := Lib.hid (show refP sx false base (q.take (i + 1)) = _ from by rw [htk, refP_snoc, hln])
          have HS := Lib.hid (show refS sx false sent base (q.take (i + 1)) = _ from by rw [htk, refS_snoc, hln, ← HCS.out])
          have hm2 : m2 ≤ 100 := by have h := refP_len sx false (q.take i) base; rw [Lay.own_len HO.out] at h; omega
          have q5 := bl_al (Below.refl wr.heap.size wr) (.cells #[.slice Br nr cr, .bool fin, .int .u64 cnt] 45)
          have HBW5 := Lib.hid (bl_ca HBW.out q5)
          have HB5 := Lib.hid (HB1.out.ca q5)
          have HO5 := Lib.hid (Lay.own_below HO.out q5)
          have HN := Lib.hid (Blk.new wr 45 #[.slice Br nr cr, .bool fin, .int .u64 cnt])
          have HR5 := Lib.hid (Lay.rd_below sb.rd q5)
          have hcap := And.intro sb.nc sb.cm
          have hw1 : IntKind.u64.wrap (i : Int) = (i : Int) := by simp [IntKind.wrap, IntKind.signed, IntKind.bits]; omega
          have hw2 : IntKind.u64.wrap (base + (i : Int)) = base + (i : Int) := by simp [IntKind.wrap, IntKind.signed, IntKind.bits]; omega
          have hsn : sendsN sx false (base + (i : Int)) = (decide (base + (i : Int) ≤ lim) && (false || decide (sent < base + (i : Int)))) := by unfold sendsN; rw [HSX.out]
          have HSN := Lib.hid hsn
          obtain ⟨nn, hnn⟩ : ∃ nn, nn = base + (i : Int) := ⟨_, rfl⟩
          rw [← hnn] at HP HS HSN hw2
          have HNN := Lib.hid hnn
          clear hx sb q5 htk hln bb hsn hnn
          go_upto_region 8 with fail
          clear e0 e1 e2
          generalize wr.alloc (.cells #[.slice Br nr cr, .bool fin, .int .u64 cnt] 45) = w5 at *
          have x1 := HB5.out.cell 1
          have x4 := HB5.out.cell 4
          have x3 := HB5.out.cell 3
          have x0 := HB5.out.cell 0
          have y0 := HN.out.cell 0
          have y1 := HN.out.cell 1
          have y2 := HN.out.cell 2
          rw [HNN.out] at hw2
          go_upto_region 9 with fail
          by_cases hc1 : base + (i : Int) ≤ lim
          · have d1 : decide (base + (i : Int) ≤ lim) = true := by simpa using hc1
            by_cases hc2 : sent < base + (i : Int)
            · have d2 : decide (sent < base + (i : Int)) = true := by simpa using hc2
              have hy : sendsN sx false nn = true := by rw [HSN.out, HNN.out]; simp [hc1, hc2]
              rw [if_pos hy] at HP HS
              clear hy
              go_upto_region 10 with fail
              have hgG : ∀ b, (Fr b ∧ b < w.heap.size) → b < w5.heap.size := fun b hb => by have h1 := hb.2; have h2 := HBW5.out.size; omega
              have hob : ∀ b, (Fr b ∧ b < w.heap.size) → (Value.slice A2 m2 c2).ownBlock ≠ some b := fun b hb e => by have h1 := (Lay.own_base HO5.out b e).1; have h2 := hb.2; omega
              have hrep : LP7.rep w5 (fun b => (Fr b ∧ b < w.heap.size) ∧ (Value.slice A2 m2 c2).ownBlock ≠ some b) ⟨1, ses, base + (i : Int), 0, ⟨rows, fin, cnt⟩⟩ #[.int .i64 1, .int .u32 ses, .int .u64 (base + (i : Int)), .int .u64 0, .slice Br nr cr, .bool fin, .int .u64 cnt].toList := ⟨Br, nr, cr, rfl, hcap.1, hcap.2, Lay.rd_weak (fun b hb _ => ⟨hb, hob b hb⟩) HR5.out⟩
              have hrep2 := LP7.keep (fun b hb hlt => Below.heap_alloc w5 (.cells #[.int .i64 1, .int .u32 ses, .int .u64 (base + (i : Int)), .int .u64 0, .slice Br nr cr, .bool fin, .int .u64 cnt] 47) b hlt) hrep
              have ho6 := Lay.own_alloc HO5.out (.cells #[.int .i64 1, .int .u32 ses, .int .u64 (base + (i : Int)), .int .u64 0, .slice Br nr cr, .bool fin, .int .u64 cnt] 47)
              have hb6 := Blk.new w5 47 #[.int .i64 1, .int .u32 ses, .int .u64 (base + (i : Int)), .int .u64 0, .slice Br nr cr, .bool fin, .int .u64 cnt]
              have hq6 := bl_al HBW5.out (.cells #[.int .i64 1, .int .u32 ses, .int .u64 (base + (i : Int)), .int .u64 0, .slice Br nr cr, .bool fin, .int .u64 cnt] 47)
              have hz6 := hq6.size
              have hG6 : ∀ b, (Fr b ∧ b < w.heap.size) → b < (w5.alloc (.cells #[.int .i64 1, .int .u32 ses, .int .u64 (base + (i : Int)), .int .u64 0, .slice Br nr cr, .bool fin, .int .u64 cnt] 47)).heap.size := fun b hb => by have := hgG b hb; simp only [World.size_alloc]; omega
              clear hrep hob hgG
              go_wp2_with (at_builtin; refine wpList_appL (L := LP7) rfl (.tmp 50) (.tmp 56) 50 rfl (.agg #[.int .i64 0, .int .u32 0, .int .u64 0, .int .u64 0, .slice none 0 0, .bool false, .int .u64 0]) 7 72 Try.underlying50 infoP rfl rfl (by omega) w2.heap.size (fun b => Fr b ∧ b < w.heap.size) A2 m2 c2 (refP sx false base (q.take i)) w5.heap.size 1 47 #[.int .i64 1, .int .u32 ses, .int .u64 (base + (i : Int)), .int .u64 0, .slice Br nr cr, .bool fin, .int .u64 cnt] ⟨1, ses, base + (i : Int), 0, ⟨rows, fin, cnt⟩⟩ rfl rfl ho6 hb6 hrep2 hG6 (by omega) (by simp only [maxLen]; omega) hz6 ?_; intro A4 c4 w4 ho4 b4)
              go_roundg (gk - 1)
              · exact ⟨i + 1, m2 + 1, c4, A4, by omega, by go_num, rfl, by rw [HS.out, HNN.out], by rw [HP.out, HNN.out, show sx.ses = ses from by rw [HSX.out]]; exact ho4, hq6.trans b4⟩
              · omega
            · have d2 : decide (sent < base + (i : Int)) = false := by simpa using hc2
              have hy : ¬ sendsN sx false nn = true := by rw [HSN.out, HNN.out]; simp [hc1, hc2]
              rw [if_neg hy] at HP HS
              clear hy
              go_wp2
              go_roundg (gk - 1)
              · exact ⟨i + 1, m2, c2, A2, by omega, by go_num, rfl, by rw [HS.out], by rw [HP.out, List.append_nil]; exact HO5.out, HBW5.out⟩
              · omega
          · have d1 : decide (base + (i : Int) ≤ lim) = false := by simpa using hc1
            have hy : ¬ sendsN sx false nn = true := by rw [HSN.out, HNN.out]; simp [hc1]
            rw [if_neg hy] at HP HS
            clear hy
            go_wp2
            go_roundg (gk - 1)
            · exact ⟨i + 1, m2, c2, A2, by omega, by go_num, rfl, by rw [HS.out], by rw [HP.out, List.append_nil]; exact HO5.out, HBW5.out⟩
            · omega
        · obtain rfl : i = n := by omega
          have hi1 : (i : Int) ≤ (i : Int) := by omega
          have htk : q.take i = q := List.take_of_length_le (by rw [HL.out]; exact Nat.le_refl _)
          have HCF := Lib.hid (show cs = sentS sx from by rw [HCS.out, htk, HSE.out])
          have ho := HO.out
          rw [htk] at ho
          have hm2 : m2 ≤ 100 := by have h := refP_len sx false q base; rw [Lay.own_len ho, HL.out] at h; omega
          have HOF := Lib.hid ho
          have b3 := HB1.out.set_ 3 (.int .u64 cs)
          have HZ1 := HK2.out.ca bb
          have hne : w.heap.size + 1 ≠ w.heap.size := by omega
          have hb3 : Blk (wr.setCell ⟨w.heap.size, 3, none⟩ (.int .u64 cs)) w.heap.size 29 #[.int .u32 ses, .int .u64 base, .slice A i c, .int .u64 cs, .int .u64 lim, .int .i64 timer, .bool ended] := by simpa using b3
          have hb5 : Blk ((wr.setCell ⟨w.heap.size, 3, none⟩ (.int .u64 cs)).setCell ⟨w.heap.size, 5, none⟩ (.int .i64 (timer + 1))) w.heap.size 29 #[.int .u32 ses, .int .u64 base, .slice A i c, .int .u64 cs, .int .u64 lim, .int .i64 (timer + 1), .bool ended] := by simpa using hb3.set_ 5 (.int .i64 (timer + 1))
          have hz5 := (HZ1.far (p := ⟨w.heap.size, 3, none⟩) hne (.int .u64 cs)).far (p := ⟨w.heap.size, 5, none⟩) hne (.int .i64 (timer + 1))
          have hq5 := ((bl_ca HQ2.out bb).setCell (p := ⟨w.heap.size, 3, none⟩) (Nat.le_refl _) (.int .u64 cs)).setCell (p := ⟨w.heap.size, 5, none⟩) (Nat.le_refl _) (.int .i64 (timer + 1))
          have hkp : ∀ b, b ≠ w.heap.size → ((wr.setCell ⟨w.heap.size, 3, none⟩ (.int .u64 cs)).setCell ⟨w.heap.size, 5, none⟩ (.int .i64 (timer + 1))).heap[b]? = wr.heap[b]? := fun b hb => (Below.heap_setCell _ ⟨w.heap.size, 5, none⟩ _ b hb).trans (Below.heap_setCell _ ⟨w.heap.size, 3, none⟩ _ b hb)
          have ho5 := Lay.own_same ho (fun k hk => hkp k (by have := (Lay.own_base ho k hk).1; omega)) (fun b hb _ _ => hkp b (by have := hb.2; omega))
          have hrd5 := Lay.rd_keep (fun b hb _ => hkp b (by have := hb.2; omega)) (Lay.rd_below HRD.out bb)
          have x0 := HB1.out.cell 0
          have x1 := HB1.out.cell 1
          have x2 := HB1.out.cell 2
          have x3 := HB1.out.cell 3
          have x4 := HB1.out.cell 4
          have x5 := HB1.out.cell 5
          have x6 := HB1.out.cell 6
          have z3 := HB1.out.frozen 3
          have z5 := HB1.out.frozen 5
          have HA5 := Lib.hid hb5
          have HA6 := Lib.hid hz5
          have HA7 := Lib.hid hq5
          have HA8 := Lib.hid ho5
          have HA9 := Lib.hid hrd5
          clear b3 hb3 hb5 hz5 hq5 hkp ho5 hrd5 ho htk bb HZ1
          go_upto_region 17 with fail
          clear x0 x1 x2 x3 x4 x5 x6 z3 z5
          generalize (wr.setCell ⟨w.heap.size, 3, none⟩ (.int .u64 cs)).setCell ⟨w.heap.size, 5, none⟩ (.int .i64 (timer + 1)) = w6 at *
          go_wp2_with (first | (refine wpList_load_blk rfl 29 (.tmp 1) rfl w.heap.size rfl 29 _ _ HA5.out Try.underlying29 rfl senderI ?_) | (refine wpList_store_blk rfl 29 (.tmp 2) (.tmp 74) rfl (w.heap.size + 1) 29 _ #[.int .u32 ses, .int .u64 base, .slice A i c, .int .u64 cs, .int .u64 lim, .int .i64 (timer + 1), .bool ended] rfl rfl HA6.out rfl senderI (by simp [Value.oneCell']) ?_; intro wz hZ gz))
          have hne1 : ∀ k : Nat, w2.heap.size ≤ k ∨ k < w.heap.size → k ≠ w.heap.size + 1 := fun k hk => by rcases hk with h | h <;> omega
          have hro := Lay.own_rd (F := fun k => Fr k ∨ w.heap.size ≤ k) (Lay.own_same HA8.out (fun k hk => gz.block k (Lay.own_base HA8.out k hk).2 (fun e => by injection e with e; exact hne1 k (.inl (Lay.own_base HA8.out k hk).1) e)) (fun k hk _ hl => gz.block k hl (fun e => by injection e with e; exact hne1 k (.inr hk.2) e))) (fun k h1 _ => .inr (by omega)) (fun k hk _ => .inl hk.1)
          have hrq := Lay.rd_keep (fun k hk hl => gz.block k hl (fun e => by injection e with e; exact hne1 k (.inr hk.2) e)) HA9.out
          exact bodyPost_ret (res2 Try.results56 rfl rfl hZ Try.underlying29 rfl senderI) rfl (by rw [HTT.out]; exact ⟨A, i, c, A2, m2, c2, by rw [HTR.out, HCF.out, HAU2.out]; rfl, bl_gr HA7.out gz (by omega), Lay.rd_weak (F := fun b => Fr b ∧ b < w.heap.size) (fun k hk _ => .inl hk.1) (by rw [show sx.q = q from by rw [HSX.out]]; exact hrq), hnc, hc, by rw [HOU.out]; exact hro, by omega⟩)
  · obtain rfl : ag = false := by rw [hag, HSX.out]; unfold againS underS; simp [hu]
    have HAU2 := Lib.hid (show (if (false || !underS sx) = true then (0 : Int) else timer + 1) = 0 from by rw [HSX.out]; unfold underS; simp [hu])
    have du : decide (base ≤ sent) = false := by simpa using hu
    clear hu hag
    have x0 := HK1.out.cell 0
    have x1 := HK1.out.cell 1
    have x2 := HK1.out.cell 2
    have x3 := HK1.out.cell 3
    have x4 := HK1.out.cell 4
    have x5 := HK1.out.cell 5
    have x6 := HK1.out.cell 6
    go_enter Try.func56, Try.ntmps56
    go_wp2_with fail
    clear x0 x1 x2 x3 x4 x5 x6
    generalize ((w.alloc (.cells #[.int .u32 ses, .int .u64 base, .slice A n c, .int .u64 sent, .int .u64 lim, .int .i64 timer, .bool ended] 29)).alloc (.cells #[.int .u32 0, .int .u64 0, .slice none 0 0, .int .u64 0, .int .u64 0, .int .i64 0, .bool false] 29)) = w2 at *
    go_loopg [6, 7, 27] n (fun g p6 p7 a wr => ∃ (i m2 c2 : Nat) (A2 : Option Addr), i + g = n ∧ a = .int .i64 i ∧ p6 = .slice A2 m2 c2 ∧ p7 = .int .u64 (refS sx false sent base (q.take i)) ∧ LP7.own 47 wr w2.heap.size (fun k => Fr k ∧ k < w.heap.size) A2 m2 c2 (refP sx false base (q.take i)) ∧ Below w2.heap.size w2 wr)
    case atStart => exact ⟨0, 0, 0, none, by omega, rfl, rfl, rfl, Lay.own_nil w2 w2.heap.size, Below.refl _ _⟩
    case round =>
      obtain ⟨i, m2, c2, A2, hig, rfl, rfl, rfl, ho, bb⟩ := hrel
      have HO := Lib.hid ho
      have HBW := Lib.hid bb
      have hsr := bb.size
      have HB1 := Lib.hid (HK1.out.ca bb)
      obtain ⟨cs, hcs⟩ : ∃ cs, cs = refS sx false sent base (q.take i) := ⟨_, rfl⟩
      rw [← hcs]
      have HCS := Lib.hid hcs
      clear hcs ho
      by_cases hlt : i < n
      · have hi1 : (i : Int) < (n : Int) := by omega
        obtain ⟨ad, ⟨rows, fin, cnt⟩, Br, nr, cr, rfl, hx, sb⟩ := LB3_at (Lay.rd_below HRD.out bb) hlt
        have e0 := sb.c0
        have e1 := sb.c1
        have e2 := sb.c2
        dsimp only at e0 e1 e2
        have htk : q.take (i + 1) = q.take i ++ [⟨rows, fin, cnt⟩] := by rw [List.take_add_one, hx]; rfl
        have hln : (q.take i).length = i := by rw [List.length_take, HL.out]; omega
        have HP := Lib.hid (show refP sx false base (q.take (i + 1)) = _ from by rw [htk, refP_snoc, hln])
        have HS := Lib.hid (show refS sx false sent base (q.take (i + 1)) = _ from by rw [htk, refS_snoc, hln, ← HCS.out])
        have hm2 : m2 ≤ 100 := by have h := refP_len sx false (q.take i) base; rw [Lay.own_len HO.out] at h; omega
        have q5 := bl_al (Below.refl wr.heap.size wr) (.cells #[.slice Br nr cr, .bool fin, .int .u64 cnt] 45)
        have HBW5 := Lib.hid (bl_ca HBW.out q5)
        have HB5 := Lib.hid (HB1.out.ca q5)
        have HO5 := Lib.hid (Lay.own_below HO.out q5)
        have HN := Lib.hid (Blk.new wr 45 #[.slice Br nr cr, .bool fin, .int .u64 cnt])
        have HR5 := Lib.hid (Lay.rd_below sb.rd q5)
        have hcap := And.intro sb.nc sb.cm
        have hw1 : IntKind.u64.wrap (i : Int) = (i : Int) := by simp [IntKind.wrap, IntKind.signed, IntKind.bits]; omega
        have hw2 : IntKind.u64.wrap (base + (i : Int)) = base + (i : Int) := by simp [IntKind.wrap, IntKind.signed, IntKind.bits]; omega
        have hsn : sendsN sx false (base + (i : Int)) = (decide (base + (i : Int) ≤ lim) && (false || decide (sent < base + (i : Int)))) := by unfold sendsN; rw [HSX.out]
        have HSN := Lib.hid hsn
        obtain ⟨nn, hnn⟩ : ∃ nn, nn = base + (i : Int) := ⟨_, rfl⟩
        rw [← hnn] at HP HS HSN hw2
        have HNN := Lib.hid hnn
        clear hx sb q5 htk hln bb hsn hnn
        go_upto_region 8 with fail
        clear e0 e1 e2
        generalize wr.alloc (.cells #[.slice Br nr cr, .bool fin, .int .u64 cnt] 45) = w5 at *
        have x1 := HB5.out.cell 1
        have x4 := HB5.out.cell 4
        have x3 := HB5.out.cell 3
        have x0 := HB5.out.cell 0
        have y0 := HN.out.cell 0
        have y1 := HN.out.cell 1
        have y2 := HN.out.cell 2
        rw [HNN.out] at hw2
        go_upto_region 9 with fail
        by_cases hc1 : base + (i : Int) ≤ lim
        · have d1 : decide (base + (i : Int) ≤ lim) = true := by simpa using hc1
          by_cases hc2 : sent < base + (i : Int)
          · have d2 : decide (sent < base + (i : Int)) = true := by simpa using hc2
            have hy : sendsN sx false nn = true := by rw [HSN.out, HNN.out]; simp [hc1, hc2]
            rw [if_pos hy] at HP HS
            clear hy
            go_upto_region 10 with fail
            have hgG : ∀ b, (Fr b ∧ b < w.heap.size) → b < w5.heap.size := fun b hb => by have h1 := hb.2; have h2 := HBW5.out.size; omega
            have hob : ∀ b, (Fr b ∧ b < w.heap.size) → (Value.slice A2 m2 c2).ownBlock ≠ some b := fun b hb e => by have h1 := (Lay.own_base HO5.out b e).1; have h2 := hb.2; omega
            have hrep : LP7.rep w5 (fun b => (Fr b ∧ b < w.heap.size) ∧ (Value.slice A2 m2 c2).ownBlock ≠ some b) ⟨1, ses, base + (i : Int), 0, ⟨rows, fin, cnt⟩⟩ #[.int .i64 1, .int .u32 ses, .int .u64 (base + (i : Int)), .int .u64 0, .slice Br nr cr, .bool fin, .int .u64 cnt].toList := ⟨Br, nr, cr, rfl, hcap.1, hcap.2, Lay.rd_weak (fun b hb _ => ⟨hb, hob b hb⟩) HR5.out⟩
            have hrep2 := LP7.keep (fun b hb hlt => Below.heap_alloc w5 (.cells #[.int .i64 1, .int .u32 ses, .int .u64 (base + (i : Int)), .int .u64 0, .slice Br nr cr, .bool fin, .int .u64 cnt] 47) b hlt) hrep
            have ho6 := Lay.own_alloc HO5.out (.cells #[.int .i64 1, .int .u32 ses, .int .u64 (base + (i : Int)), .int .u64 0, .slice Br nr cr, .bool fin, .int .u64 cnt] 47)
            have hb6 := Blk.new w5 47 #[.int .i64 1, .int .u32 ses, .int .u64 (base + (i : Int)), .int .u64 0, .slice Br nr cr, .bool fin, .int .u64 cnt]
            have hq6 := bl_al HBW5.out (.cells #[.int .i64 1, .int .u32 ses, .int .u64 (base + (i : Int)), .int .u64 0, .slice Br nr cr, .bool fin, .int .u64 cnt] 47)
            have hz6 := hq6.size
            have hG6 : ∀ b, (Fr b ∧ b < w.heap.size) → b < (w5.alloc (.cells #[.int .i64 1, .int .u32 ses, .int .u64 (base + (i : Int)), .int .u64 0, .slice Br nr cr, .bool fin, .int .u64 cnt] 47)).heap.size := fun b hb => by have := hgG b hb; simp only [World.size_alloc]; omega
            clear hrep hob hgG
            go_wp2_with (at_builtin; refine wpList_appL (L := LP7) rfl (.tmp 50) (.tmp 56) 50 rfl (.agg #[.int .i64 0, .int .u32 0, .int .u64 0, .int .u64 0, .slice none 0 0, .bool false, .int .u64 0]) 7 72 Try.underlying50 infoP rfl rfl (by omega) w2.heap.size (fun b => Fr b ∧ b < w.heap.size) A2 m2 c2 (refP sx false base (q.take i)) w5.heap.size 1 47 #[.int .i64 1, .int .u32 ses, .int .u64 (base + (i : Int)), .int .u64 0, .slice Br nr cr, .bool fin, .int .u64 cnt] ⟨1, ses, base + (i : Int), 0, ⟨rows, fin, cnt⟩⟩ rfl rfl ho6 hb6 hrep2 hG6 (by omega) (by simp only [maxLen]; omega) hz6 ?_; intro A4 c4 w4 ho4 b4)
            go_roundg (gk - 1)
            · exact ⟨i + 1, m2 + 1, c4, A4, by omega, by go_num, rfl, by rw [HS.out, HNN.out], by rw [HP.out, HNN.out, show sx.ses = ses from by rw [HSX.out]]; exact ho4, hq6.trans b4⟩
            · omega
          · have d2 : decide (sent < base + (i : Int)) = false := by simpa using hc2
            have hy : ¬ sendsN sx false nn = true := by rw [HSN.out, HNN.out]; simp [hc1, hc2]
            rw [if_neg hy] at HP HS
            clear hy
            go_wp2
            go_roundg (gk - 1)
            · exact ⟨i + 1, m2, c2, A2, by omega, by go_num, rfl, by rw [HS.out], by rw [HP.out, List.append_nil]; exact HO5.out, HBW5.out⟩
            · omega
        · have d1 : decide (base + (i : Int) ≤ lim) = false := by simpa using hc1
          have hy : ¬ sendsN sx false nn = true := by rw [HSN.out, HNN.out]; simp [hc1]
          rw [if_neg hy] at HP HS
          clear hy
          go_wp2
          go_roundg (gk - 1)
          · exact ⟨i + 1, m2, c2, A2, by omega, by go_num, rfl, by rw [HS.out], by rw [HP.out, List.append_nil]; exact HO5.out, HBW5.out⟩
          · omega
      · obtain rfl : i = n := by omega
        have hi1 : (i : Int) ≤ (i : Int) := by omega
        have htk : q.take i = q := List.take_of_length_le (by rw [HL.out]; exact Nat.le_refl _)
        have HCF := Lib.hid (show cs = sentS sx from by rw [HCS.out, htk, HSE.out])
        have ho := HO.out
        rw [htk] at ho
        have hm2 : m2 ≤ 100 := by have h := refP_len sx false q base; rw [Lay.own_len ho, HL.out] at h; omega
        have HOF := Lib.hid ho
        have b3 := HB1.out.set_ 3 (.int .u64 cs)
        have HZ1 := HK2.out.ca bb
        have hne : w.heap.size + 1 ≠ w.heap.size := by omega
        have hb3 : Blk (wr.setCell ⟨w.heap.size, 3, none⟩ (.int .u64 cs)) w.heap.size 29 #[.int .u32 ses, .int .u64 base, .slice A i c, .int .u64 cs, .int .u64 lim, .int .i64 timer, .bool ended] := by simpa using b3
        have hb5 : Blk ((wr.setCell ⟨w.heap.size, 3, none⟩ (.int .u64 cs)).setCell ⟨w.heap.size, 5, none⟩ (.int .i64 (0))) w.heap.size 29 #[.int .u32 ses, .int .u64 base, .slice A i c, .int .u64 cs, .int .u64 lim, .int .i64 (0), .bool ended] := by simpa using hb3.set_ 5 (.int .i64 (0))
        have hz5 := (HZ1.far (p := ⟨w.heap.size, 3, none⟩) hne (.int .u64 cs)).far (p := ⟨w.heap.size, 5, none⟩) hne (.int .i64 (0))
        have hq5 := ((bl_ca HQ2.out bb).setCell (p := ⟨w.heap.size, 3, none⟩) (Nat.le_refl _) (.int .u64 cs)).setCell (p := ⟨w.heap.size, 5, none⟩) (Nat.le_refl _) (.int .i64 (0))
        have hkp : ∀ b, b ≠ w.heap.size → ((wr.setCell ⟨w.heap.size, 3, none⟩ (.int .u64 cs)).setCell ⟨w.heap.size, 5, none⟩ (.int .i64 (0))).heap[b]? = wr.heap[b]? := fun b hb => (Below.heap_setCell _ ⟨w.heap.size, 5, none⟩ _ b hb).trans (Below.heap_setCell _ ⟨w.heap.size, 3, none⟩ _ b hb)
        have ho5 := Lay.own_same ho (fun k hk => hkp k (by have := (Lay.own_base ho k hk).1; omega)) (fun b hb _ _ => hkp b (by have := hb.2; omega))
        have hrd5 := Lay.rd_keep (fun b hb _ => hkp b (by have := hb.2; omega)) (Lay.rd_below HRD.out bb)
        have x0 := HB1.out.cell 0
        have x1 := HB1.out.cell 1
        have x2 := HB1.out.cell 2
        have x3 := HB1.out.cell 3
        have x4 := HB1.out.cell 4
        have x5 := HB1.out.cell 5
        have x6 := HB1.out.cell 6
        have z3 := HB1.out.frozen 3
        have z5 := HB1.out.frozen 5
        have HA5 := Lib.hid hb5
        have HA6 := Lib.hid hz5
        have HA7 := Lib.hid hq5
        have HA8 := Lib.hid ho5
        have HA9 := Lib.hid hrd5
        clear b3 hb3 hb5 hz5 hq5 hkp ho5 hrd5 ho htk bb HZ1
        go_upto_region 17 with fail
        clear x0 x1 x2 x3 x4 x5 x6 z3 z5
        generalize (wr.setCell ⟨w.heap.size, 3, none⟩ (.int .u64 cs)).setCell ⟨w.heap.size, 5, none⟩ (.int .i64 (0)) = w6 at *
        go_wp2_with (first | (refine wpList_load_blk rfl 29 (.tmp 1) rfl w.heap.size rfl 29 _ _ HA5.out Try.underlying29 rfl senderI ?_) | (refine wpList_store_blk rfl 29 (.tmp 2) (.tmp 74) rfl (w.heap.size + 1) 29 _ #[.int .u32 ses, .int .u64 base, .slice A i c, .int .u64 cs, .int .u64 lim, .int .i64 (0), .bool ended] rfl rfl HA6.out rfl senderI (by simp [Value.oneCell']) ?_; intro wz hZ gz))
        have hne1 : ∀ k : Nat, w2.heap.size ≤ k ∨ k < w.heap.size → k ≠ w.heap.size + 1 := fun k hk => by rcases hk with h | h <;> omega
        have hro := Lay.own_rd (F := fun k => Fr k ∨ w.heap.size ≤ k) (Lay.own_same HA8.out (fun k hk => gz.block k (Lay.own_base HA8.out k hk).2 (fun e => by injection e with e; exact hne1 k (.inl (Lay.own_base HA8.out k hk).1) e)) (fun k hk _ hl => gz.block k hl (fun e => by injection e with e; exact hne1 k (.inr hk.2) e))) (fun k h1 _ => .inr (by omega)) (fun k hk _ => .inl hk.1)
        have hrq := Lay.rd_keep (fun k hk hl => gz.block k hl (fun e => by injection e with e; exact hne1 k (.inr hk.2) e)) HA9.out
        exact bodyPost_ret (res2 Try.results56 rfl rfl hZ Try.underlying29 rfl senderI) rfl (by rw [HTT.out]; exact ⟨A, i, c, A2, m2, c2, by rw [HTR.out, HCF.out, HAU2.out]; rfl, bl_gr HA7.out gz (by omega), Lay.rd_weak (F := fun b => Fr b ∧ b < w.heap.size) (fun k hk _ => .inl hk.1) (by rw [show sx.q = q from by rw [HSX.out]]; exact hrq), hnc, hc, by rw [HOU.out]; exact hro, by omega⟩)
end Go.Proofs.Ytojghgbaiiajfaa
