/- The reference's Hear. Conditions: the rows read as these; the receiver may be. -/
import Derived.Test.YtojghgbaiiajfaaPkH22
import Derived.Lib.AppendZeros
namespace Go.Proofs.Ytojghgbaiiajfaa
open Go.RowKit
/-- in order from a number on -/
def incP : Int → List HC → Prop
 | _, [] => True
 | a, h :: l => a ≤ h.seq ∧ incP (h.seq + 1) l
theorem incP_less {a b : Int} : ∀ {l : List HC}, incP a l → b ≤ a → incP b l
 | [], _, _ => trivial
 | h :: l, e, hb => ⟨by have := e.1; omega, e.2⟩
theorem incP_of {lim : Int} : ∀ {l : List HC} {a : Int}, aheadB lim a l = true → incP (a + 1) l
 | [], _, _ => trivial
 | h :: l, a, e => by
  unfold aheadB at e
  simp only [Bool.and_eq_true, decide_eq_true_eq] at e
  obtain ⟨e1, _, _, _, e3⟩ := e
  exact ⟨by omega, incP_of e3⟩
theorem incP_all : ∀ {l : List HC} {a : Int} {k : Nat} {x : HC}, incP a l → l[k]? = some x → a ≤ x.seq
 | [], _, k, x, _, hx => by simp at hx
 | h :: l, a, k, x, e, hx => by
  cases k with
  | zero => simp at hx; subst hx; exact e.1
  | succ k => have := incP_all (l := l) (k := k) e.2 (by simpa using hx); have := e.1; omega
theorem insL_cons (y h : HC) (l : List HC) : insL y (h :: l) = if h.seq < y.seq then h :: insL y l else y :: h :: l := by
 unfold insL
 by_cases hl : h.seq < y.seq
 · have e : insP y.seq (h :: l) = insP y.seq l + 1 := by show (if _ then _ else _) = _; rw [if_pos hl]
   rw [if_pos hl, e]; simp
 · have e : insP y.seq (h :: l) = 0 := by show (if _ then _ else _) = _; rw [if_neg hl]
   rw [if_neg hl, e]; simp
theorem incP_ins {y : HC} : ∀ {l : List HC} {a : Int}, incP a l → a ≤ y.seq → (∀ x ∈ l, x.seq ≠ y.seq) → incP a (insL y l)
 | [], a, _, ha, _ => by unfold insL insP; exact ⟨ha, trivial⟩
 | h :: l, a, e, ha, hne => by
  rw [insL_cons]
  have hn := hne h (by simp)
  split
  · rename_i hl
    exact ⟨e.1, incP_ins e.2 (by omega) (fun x hx => hne x (by simp [hx]))⟩
  · exact ⟨ha, by omega, e.2⟩
theorem drainN_le : ∀ (l : List HC) (a : Int), drainN a l ≤ l.length
 | [], _ => Nat.le_refl _
 | h :: l, a => by
  unfold drainN
  split
  · have := drainN_le l (a + 1); simp; omega
  · omega
theorem drainN_lo : ∀ {l : List HC} {a : Int} {k : Nat} {x : HC}, k < drainN a l → l[k]? = some x → x.seq = a + (k : Int)
 | [], _, k, x, h, _ => by simp [drainN] at h
 | h :: l, a, k, x, hk, hx => by
  unfold drainN at hk
  split at hk
  · rename_i he
    cases k with
    | zero => simp at hx; subst hx; simpa using he
    | succ k => have := drainN_lo (l := l) (a := a + 1) (k := k) (by omega) (by simpa using hx); rw [this]; push_cast; omega
  · omega
theorem drainN_hi : ∀ {l : List HC} {a : Int} {k : Nat} {x : HC}, incP a l → drainN a l ≤ k → l[k]? = some x → x.seq ≠ a + (drainN a l : Int)
 | [], _, k, x, _, _, hx => by simp at hx
 | h :: l, a, k, x, e, hk, hx => by
  unfold drainN at hk ⊢
  split at hk
  · rename_i he
    rw [if_pos he]
    cases k with
    | zero => omega
    | succ k =>
     have := drainN_hi (l := l) (a := a + 1) (k := k) (incP_less e.2 (by omega)) (by omega) (by simpa using hx)
     push_cast
     intro h9
     exact this (by omega)
  · rename_i he
    rw [if_neg he]
    have h1 := e.1
    cases k with
    | zero => simp at hx; subst hx; simpa using he
    | succ k => have := incP_all (l := l) (k := k) e.2 (by simpa using hx); simp; omega
/-- what the first loop has gathered -/
def allL (y : HC) (l : List HC) (ps i : Nat) : List HC := if ps < i then l.take ps ++ y :: (l.drop ps).take (i - ps) else l.take i
theorem allL_step {y : HC} {l : List HC} {ps i : Nat} {x : HC} (hx : l[i]? = some x) (hne : i ≠ ps) : allL y l ps (i + 1) = allL y l ps i ++ [x] := by
 unfold allL
 rcases Nat.lt_or_ge ps i with h | h
 · rw [if_pos h, if_pos (by omega), show i + 1 - ps = (i - ps) + 1 from by omega, List.take_add_one, List.getElem?_drop, show ps + (i - ps) = i from by omega, hx]
   simp
 · rw [if_neg (by omega), if_neg (by omega), List.take_add_one, hx]
   rfl
theorem allL_ins {y : HC} {l : List HC} {ps : Nat} {x : HC} (hx : l[ps]? = some x) : allL y l ps (ps + 1) = (allL y l ps ps ++ [y]) ++ [x] := by
 unfold allL
 rw [if_pos (by omega), if_neg (by omega), show ps + 1 - ps = 0 + 1 from by omega, List.take_add_one, List.getElem?_drop, Nat.add_zero, hx]
 simp
def hearX (r : RC) (ins : List HC) (i : Nat) : RC := ⟨r.ses, r.next + ((min i (drainN r.next ins) : Nat) : Int), (ins.drop (drainN r.next ins)).take (i - drainN r.next ins), r.buf ++ (ins.take (min i (drainN r.next ins))).map HC.b, r.room, r.over⟩
theorem hearX_zero (r : RC) (ins : List HC) : hearX r ins 0 = ⟨r.ses, r.next, [], r.buf, r.room, r.over⟩ := by simp [hearX]
theorem hearX_lt {r : RC} {ins : List HC} {i : Nat} {x : HC} (hx : ins[i]? = some x) (h : i < drainN r.next ins) : (hearX r ins (i + 1)).next = (hearX r ins i).next + 1 ∧ (hearX r ins (i + 1)).ahead = (hearX r ins i).ahead ∧ (hearX r ins (i + 1)).buf = (hearX r ins i).buf ++ [x.b] := by
 unfold hearX
 rw [Nat.min_eq_left (show i + 1 ≤ drainN r.next ins by omega), Nat.min_eq_left (show i ≤ drainN r.next ins by omega), show i + 1 - drainN r.next ins = 0 from by omega, show i - drainN r.next ins = 0 from by omega, List.take_add_one, hx]
 exact ⟨by dsimp only; push_cast; omega, rfl, by simp⟩
theorem hearX_ge {r : RC} {ins : List HC} {i : Nat} {x : HC} (hx : ins[i]? = some x) (h : drainN r.next ins ≤ i) : (hearX r ins (i + 1)).next = (hearX r ins i).next ∧ (hearX r ins (i + 1)).ahead = (hearX r ins i).ahead ++ [x] ∧ (hearX r ins (i + 1)).buf = (hearX r ins i).buf := by
 unfold hearX
 rw [Nat.min_eq_right (show drainN r.next ins ≤ i + 1 by omega), Nat.min_eq_right h, show i + 1 - drainN r.next ins = (i - drainN r.next ins) + 1 from by omega, List.take_add_one, List.getElem?_drop, show drainN r.next ins + (i - drainN r.next ins) = i from by omega, hx]
 exact ⟨rfl, rfl, rfl⟩
theorem hearX_end {r : RC} {ins : List HC} {i : Nat} (h : ins.length = i) : hearX r ins i = drainR r ins := by
 have hd := drainN_le ins r.next
 unfold hearX drainR
 rw [Nat.min_eq_right (by omega), List.take_of_length_le (by rw [List.length_drop]; omega)]
theorem hearX_next {r : RC} {ins : List HC} {i : Nat} {x : HC} (hinc : incP r.next ins) (hx : ins[i]? = some x) : decide (x.seq = (hearX r ins i).next) = decide (i < drainN r.next ins) := by
 rcases Nat.lt_or_ge i (drainN r.next ins) with h | h
 · have h1 := drainN_lo h hx
   rw [decide_eq_true h, decide_eq_true]
   unfold hearX
   rw [Nat.min_eq_left (by omega)]
   exact h1
 · have h1 := drainN_hi hinc h hx
   have h2 : decide (i < drainN r.next ins) = false := decide_eq_false (by omega)
   rw [h2]
   refine decide_eq_false ?_
   unfold hearX
   rw [Nat.min_eq_right h]
   exact h1
set_option maxRecDepth 100000 in
set_option maxHeartbeats 64000000 in
theorem rhear_any (Fr : Nat → Prop) (r : RC) (A : Option Addr) (n c : Nat) (A2 : Option Addr) (m d : Nat) (pk : PK) (pA : Option Addr) (pn pc : Nat) (w : World) (hFr : ∀ k, Fr k → k < w.heap.size) (h : LH4.rd w Fr A n r.ahead) (h2 : LB3.rd w Fr A2 m r.buf) (hr : LR.rd w Fr pA pn pk.b.rows) (hnc : n ≤ c) (hcm : c ≤ 9223372036854775807) (hmd : m ≤ d) (hdm : d ≤ 9223372036854775807) (hpn : pn ≤ pc) (hpc : pc ≤ 9223372036854775807) (hok : recB r = true) :
 Calls Try.prog 37 #[.agg (r.cells A n c A2 m d), .agg (pk.cells pA pn pc)] w fun e w' => ∃ A3 n3 c3 A4 m4 d4, e = .returned (.agg ((hearR r pk).cells A3 n3 c3 A4 m4 d4)) ∧ LH4.rd w' (fun b => Fr b ∨ w.heap.size ≤ b) A3 n3 (hearR r pk).ahead ∧ n3 ≤ c3 ∧ c3 ≤ 9223372036854775807 ∧ LB3.rd w' (fun b => Fr b ∨ w.heap.size ≤ b) A4 m4 (hearR r pk).buf ∧ m4 ≤ d4 ∧ d4 ≤ 9223372036854775807 ∧ Below w.heap.size w w' := by
 have q1 := bl_al (Below.refl w.heap.size w) (.cells (r.cells A n c A2 m d) 36)
 have q2 := bl_al (Below.refl (w.alloc (.cells (r.cells A n c A2 m d) 36)).heap.size (w.alloc (.cells (r.cells A n c A2 m d) 36))) (.cells (pk.cells pA pn pc) 47)
 have q3 := bl_al (Below.refl ((w.alloc (.cells (r.cells A n c A2 m d) 36)).alloc (.cells (pk.cells pA pn pc) 47)).heap.size ((w.alloc (.cells (r.cells A n c A2 m d) 36)).alloc (.cells (pk.cells pA pn pc) 47))) (.cells #[.int .u32 0, .int .u64 0, .slice none 0 0, .slice none 0 0, .int .i64 0, .bool false] 36)
 have q23 := bl_ca q2 q3
 have HX := Lib.hid ((Blk.new w 36 (r.cells A n c A2 m d)).ca q23)
 have HP := Lib.hid (show Blk (((w.alloc (.cells (r.cells A n c A2 m d) 36)).alloc (.cells (pk.cells pA pn pc) 47)).alloc (.cells #[.int .u32 0, .int .u64 0, .slice none 0 0, .slice none 0 0, .int .i64 0, .bool false] 36)) (w.heap.size + 1) 47 (pk.cells pA pn pc) from Blk.ca (Blk.mk' (by simp only [World.size_alloc])) q3)
 have HZ := Lib.hid (show Blk (((w.alloc (.cells (r.cells A n c A2 m d) 36)).alloc (.cells (pk.cells pA pn pc) 47)).alloc (.cells #[.int .u32 0, .int .u64 0, .slice none 0 0, .slice none 0 0, .int .i64 0, .bool false] 36)) (w.heap.size + 2) 36 #[.int .u32 0, .int .u64 0, .slice none 0 0, .slice none 0 0, .int .i64 0, .bool false] from Blk.mk' (by simp only [World.size_alloc]))
 have HQ := Lib.hid (bl_ca q1 q23)
 have HRA := Lib.hid (Lay.rd_below (Lay.rd_below h q1) q23)
 have HRB := Lib.hid (Lay.rd_below (Lay.rd_below h2 q1) q23)
 have HRP := Lib.hid (Lay.rd_below (Lay.rd_below hr q1) q23)
 have hbl := Lay.rd_len h2
 have hal := Lay.rd_len h
 have hrs := recB_len hok
 have HAH := Lib.hid (recB_ahead hok)
 have HOK := Lib.hid hok
 have HFR := Lib.hid hFr
 have hsz : (((w.alloc (.cells (r.cells A n c A2 m d) 36)).alloc (.cells (pk.cells pA pn pc) 47)).alloc (.cells #[.int .u32 0, .int .u64 0, .slice none 0 0, .slice none 0 0, .int .i64 0, .bool false] 36)).heap.size = w.heap.size + 3 := by simp only [World.size_alloc]
 clear h h2 hr q1 q2 q3 q23 hok hFr
 have HCL := Lib.hid (rhears_any Fr Fr Fr r A n c A2 m d pk pA pn pc (((w.alloc (.cells (r.cells A n c A2 m d) 36)).alloc (.cells (pk.cells pA pn pc) 47)).alloc (.cells #[.int .u32 0, .int .u64 0, .slice none 0 0, .slice none 0 0, .int .i64 0, .bool false] 36)) HRA.out HRB.out HRP.out (by omega) (by omega) (by omega) HOK.out)
 obtain ⟨RR, hRR⟩ : ∃ RR, RR = hearR r pk := ⟨_, rfl⟩
 rw [← hRR]
 have HRR := Lib.hid hRR
 clear hRR
 obtain ⟨hb, hhb⟩ : ∃ hb, hb = hearB r pk := ⟨_, rfl⟩
 rw [← hhb] at HCL
 have HHB := Lib.hid hhb
 clear hhb
 have x0 : (((w.alloc (.cells (r.cells A n c A2 m d) 36)).alloc (.cells (pk.cells pA pn pc) 47)).alloc (.cells #[.int .u32 0, .int .u64 0, .slice none 0 0, .slice none 0 0, .int .i64 0, .bool false] 36)).cell? ⟨w.heap.size, 0, none⟩ = some (.int .u32 r.ses) := HX.out.cell 0
 have x1 : (((w.alloc (.cells (r.cells A n c A2 m d) 36)).alloc (.cells (pk.cells pA pn pc) 47)).alloc (.cells #[.int .u32 0, .int .u64 0, .slice none 0 0, .slice none 0 0, .int .i64 0, .bool false] 36)).cell? ⟨w.heap.size, 1, none⟩ = some (.int .u64 r.next) := HX.out.cell 1
 have x2 : (((w.alloc (.cells (r.cells A n c A2 m d) 36)).alloc (.cells (pk.cells pA pn pc) 47)).alloc (.cells #[.int .u32 0, .int .u64 0, .slice none 0 0, .slice none 0 0, .int .i64 0, .bool false] 36)).cell? ⟨w.heap.size, 2, none⟩ = some (.slice A n c) := HX.out.cell 2
 have x3 : (((w.alloc (.cells (r.cells A n c A2 m d) 36)).alloc (.cells (pk.cells pA pn pc) 47)).alloc (.cells #[.int .u32 0, .int .u64 0, .slice none 0 0, .slice none 0 0, .int .i64 0, .bool false] 36)).cell? ⟨w.heap.size, 3, none⟩ = some (.slice A2 m d) := HX.out.cell 3
 have x4 : (((w.alloc (.cells (r.cells A n c A2 m d) 36)).alloc (.cells (pk.cells pA pn pc) 47)).alloc (.cells #[.int .u32 0, .int .u64 0, .slice none 0 0, .slice none 0 0, .int .i64 0, .bool false] 36)).cell? ⟨w.heap.size, 4, none⟩ = some (.int .i64 r.room) := HX.out.cell 4
 have x5 : (((w.alloc (.cells (r.cells A n c A2 m d) 36)).alloc (.cells (pk.cells pA pn pc) 47)).alloc (.cells #[.int .u32 0, .int .u64 0, .slice none 0 0, .slice none 0 0, .int .i64 0, .bool false] 36)).cell? ⟨w.heap.size, 5, none⟩ = some (.bool r.over) := HX.out.cell 5
 have p0 : (((w.alloc (.cells (r.cells A n c A2 m d) 36)).alloc (.cells (pk.cells pA pn pc) 47)).alloc (.cells #[.int .u32 0, .int .u64 0, .slice none 0 0, .slice none 0 0, .int .i64 0, .bool false] 36)).cell? ⟨w.heap.size + 1, 0, none⟩ = some (.int .i64 pk.kind) := HP.out.cell 0
 have p1 : (((w.alloc (.cells (r.cells A n c A2 m d) 36)).alloc (.cells (pk.cells pA pn pc) 47)).alloc (.cells #[.int .u32 0, .int .u64 0, .slice none 0 0, .slice none 0 0, .int .i64 0, .bool false] 36)).cell? ⟨w.heap.size + 1, 1, none⟩ = some (.int .u32 pk.ses) := HP.out.cell 1
 have p2 : (((w.alloc (.cells (r.cells A n c A2 m d) 36)).alloc (.cells (pk.cells pA pn pc) 47)).alloc (.cells #[.int .u32 0, .int .u64 0, .slice none 0 0, .slice none 0 0, .int .i64 0, .bool false] 36)).cell? ⟨w.heap.size + 1, 2, none⟩ = some (.int .u64 pk.seq) := HP.out.cell 2
 have p3 : (((w.alloc (.cells (r.cells A n c A2 m d) 36)).alloc (.cells (pk.cells pA pn pc) 47)).alloc (.cells #[.int .u32 0, .int .u64 0, .slice none 0 0, .slice none 0 0, .int .i64 0, .bool false] 36)).cell? ⟨w.heap.size + 1, 3, none⟩ = some (.int .u64 pk.lim) := HP.out.cell 3
 have p4 : (((w.alloc (.cells (r.cells A n c A2 m d) 36)).alloc (.cells (pk.cells pA pn pc) 47)).alloc (.cells #[.int .u32 0, .int .u64 0, .slice none 0 0, .slice none 0 0, .int .i64 0, .bool false] 36)).cell? ⟨w.heap.size + 1, 4, none⟩ = some (.slice pA pn pc) := HP.out.cell 4
 have p5 : (((w.alloc (.cells (r.cells A n c A2 m d) 36)).alloc (.cells (pk.cells pA pn pc) 47)).alloc (.cells #[.int .u32 0, .int .u64 0, .slice none 0 0, .slice none 0 0, .int .i64 0, .bool false] 36)).cell? ⟨w.heap.size + 1, 5, none⟩ = some (.bool pk.b.fin) := HP.out.cell 5
 have p6 : (((w.alloc (.cells (r.cells A n c A2 m d) 36)).alloc (.cells (pk.cells pA pn pc) 47)).alloc (.cells #[.int .u32 0, .int .u64 0, .slice none 0 0, .slice none 0 0, .int .i64 0, .bool false] 36)).cell? ⟨w.heap.size + 1, 6, none⟩ = some (.int .u64 pk.b.cnt) := HP.out.cell 6
 go_enter Try.func37, Try.ntmps37
 go_wp2_with fail
 clear x0 x1 x2 x3 x4 x5 p0 p1 p2 p3 p4 p5 p6
 generalize (((w.alloc (.cells (r.cells A n c A2 m d) 36)).alloc (.cells (pk.cells pA pn pc) 47)).alloc (.cells #[.int .u32 0, .int .u64 0, .slice none 0 0, .slice none 0 0, .int .i64 0, .bool false] 36)) = w1 at *
 refine HCL.out.mono ?_
 clear HCL
 rintro e w2 ⟨rfl, q2⟩
 have HX2 := Lib.hid (HX.out.ca q2)
 have HP2 := Lib.hid (HP.out.ca q2)
 have HZ2 := Lib.hid (HZ.out.ca q2)
 have HRA2 := Lib.hid (Lay.rd_below HRA.out q2)
 have HRB2 := Lib.hid (Lay.rd_below HRB.out q2)
 have HRP2 := Lib.hid (Lay.rd_below HRP.out q2)
 have HQ2 := Lib.hid (bl_ca HQ.out q2)
 have hs2 := q2.size
 clear HX HP HZ HRA HRB HRP HQ q2
 cases hb
 · have HNO := Lib.hid (show RR = r from by rw [HRR.out]; unfold hearR; rw [← HHB.out]; rfl)
   have x0 : w2.cell? ⟨w.heap.size, 0, none⟩ = some (.int .u32 r.ses) := HX2.out.cell 0
   have x1 : w2.cell? ⟨w.heap.size, 1, none⟩ = some (.int .u64 r.next) := HX2.out.cell 1
   have x2 : w2.cell? ⟨w.heap.size, 2, none⟩ = some (.slice A n c) := HX2.out.cell 2
   have x3 : w2.cell? ⟨w.heap.size, 3, none⟩ = some (.slice A2 m d) := HX2.out.cell 3
   have x4 : w2.cell? ⟨w.heap.size, 4, none⟩ = some (.int .i64 r.room) := HX2.out.cell 4
   have x5 : w2.cell? ⟨w.heap.size, 5, none⟩ = some (.bool r.over) := HX2.out.cell 5
   go_wp2_with (first | (refine wpList_store_blk rfl 36 (.tmp 4) (.tmp 15) rfl (w.heap.size + 2) 36 #[.int .u32 0, .int .u64 0, .slice none 0 0, .slice none 0 0, .int .i64 0, .bool false] (r.cells A n c A2 m d) rfl rfl HZ2.out rfl receiverI (by simp [RC.cells, Value.oneCell']) ?_; intro w3 h3 g3; have HG3 := Lib.hid h3; have GG3 := Lib.hid g3; clear h3 g3))
   exact bodyPost_ret (res1 Try.results37 rfl HG3.out Try.underlying36 rfl receiverI) rfl ⟨A, n, c, A2, m, d, by rw [HNO.out], by rw [HNO.out]; exact Lay.rd_weak (fun b hb _ => .inl hb) (rd_grownH HRA2.out GG3.out (fun b hb => by have := HFR.out b hb; omega)), hnc, hcm, by rw [HNO.out]; exact Lay.rd_weak (fun b hb _ => .inl hb) (rd_grownH HRB2.out GG3.out (fun b hb => by have := HFR.out b hb; omega)), hmd, hdm, bl_gr HQ2.out GG3.out (by omega)⟩
 · obtain ⟨y, hy⟩ : ∃ y : HC, y = ⟨pk.seq, pk.b⟩ := ⟨_, rfl⟩
   obtain ⟨ps, hps⟩ : ∃ ps, ps = insP pk.seq r.ahead := ⟨_, rfl⟩
   obtain ⟨ins, hins⟩ : ∃ ins, ins = insL y r.ahead := ⟨_, rfl⟩
   have HYES := Lib.hid (show RR = drainR r ins from by rw [HRR.out]; unfold hearR; rw [← HHB.out, hins, hy]; rfl)
   have hh := HHB.out
   unfold hearB takesB at hh
   have htt : decide (pk.seq < r.next) = false ∧ r.ahead.any (againstB pk.b pk.seq) = false := by
    revert hh
    cases decide (pk.seq < r.next) <;> cases r.ahead.any (againstB pk.b pk.seq) <;> simp
   have hge : r.next ≤ pk.seq := by have := htt.1; simp at this; omega
   have hnes : ∀ x ∈ r.ahead, x.seq ≠ pk.seq := fun x hx e => by
    have h9 := List.any_eq_false.1 htt.2 x hx
    apply h9
    unfold againstB
    simp [e]
   have HNES := Lib.hid hnes
   have hpl : ps ≤ n := by rw [hps, ← hal]; exact insP_le _ _
   have HLO := Lib.hid (show ∀ (k : Nat) x, k < ps → r.ahead[k]? = some x → x.seq < pk.seq from fun k x hk hx => insP_lo (by rw [← hps]; exact hk) hx)
   have HHI := Lib.hid (show ∀ (k : Nat) x, ps ≤ k → r.ahead[k]? = some x → pk.seq ≤ x.seq from fun k x hk hx => insP_hi HAH.out (by rw [← hps]; exact hk) hx)
   have HINC := Lib.hid (show incP r.next ins from by rw [hins]; exact incP_ins (incP_less (incP_of HAH.out) (by omega)) (by rw [hy]; exact hge) (by rw [hy]; exact hnes))
   have HINS := Lib.hid (show ins = r.ahead.take ps ++ y :: r.ahead.drop ps from by rw [hins, hps, hy]; rfl)
   have HY := Lib.hid hy
   clear hh htt hnes hps hins hy HRR HHB HAH HOK
   have x2 := HX2.out.cell 2
   go_wp2_with fail
   clear x2
   go_loopg [19, 5, 6] n (fun gk a b dn wr => ∃ (i : Nat) (B3 : Option Addr) (k3 d3 : Nat), i + gk = n ∧ a = .int .i64 i ∧ b = .slice B3 k3 d3 ∧ dn = .bool (decide (ps < i)) ∧ LH4.own 81 wr w2.heap.size Fr B3 k3 d3 (allL y r.ahead ps i) ∧ Below w2.heap.size w2 wr)
   case atStart => exact ⟨0, none, 0, 0, by omega, rfl, rfl, by simp, by simpa [allL] using Lay.own_nil w2 w2.heap.size, Below.refl _ _⟩
   case round =>
    obtain ⟨i, B3, k3, d3, hig, rfl, rfl, rfl, hob, hbb⟩ := hrel
    have hk3 : k3 ≤ i + 1 := by
     rw [← Lay.own_len hob]
     unfold allL
     split <;> simp only [List.length_append, List.length_cons, List.length_take, List.length_drop] <;> omega
    have HOB := Lib.hid hob
    have HBB := Lib.hid hbb
    by_cases hlt : i < n
    · have hi1 : (i : Int) < (n : Int) := by omega
      obtain ⟨ad, x, Bx, kx, kc, rfl, hx, s1⟩ := LH4_at (Lay.rd_below HRA2.out hbb) hlt
      have e0 := s1.c0
      have e1 := s1.c1
      have e2 := s1.c2
      have e3 := s1.c3
      have HXX := Lib.hid hx
      have HXR := Lib.hid s1.rd
      have hk1 := s1.nc
      have hk2 := s1.cm
      have HN6 := Lib.hid (Blk.new wr 81 #[.int .u64 0, .slice none 0 0, .bool false, .int .u64 0])
      have HOBr := Lib.hid (show ∀ k, (Value.slice B3 k3 d3).ownBlock = some k → k < wr.heap.size from fun k e => (Lay.own_base hob k e).2)
      clear s1 hx hbb hob
      go_upto_region 8 with (first | (refine wpList_store_blk rfl 81 (.tmp 8) (.tmp 22) rfl wr.heap.size 81 #[.int .u64 0, .slice none 0 0, .bool false, .int .u64 0] #[.int .u64 x.seq, .slice Bx kx kc, .bool x.b.fin, .int .u64 x.b.cnt] rfl rfl HN6.out rfl heldI (by simp [Value.oneCell']) ?_; intro w11 h11 g11; have HT11 := Lib.hid h11; have HG11 := Lib.hid g11; clear h11 g11))
      have HBR := Lib.hid (bl_gr (bl_al (Below.refl wr.heap.size wr) (.cells #[.int .u64 0, .slice none 0 0, .bool false, .int .u64 0] 81)) HG11.out (Nat.le_refl _))
      have HB11 := Lib.hid (bl_ca HBB.out HBR.out)
      have HP11 := Lib.hid (HP2.out.ca HB11.out)
      have HO11 := Lib.hid (Lay.own_below HOB.out HBR.out)
      have HR11 := Lib.hid (Lay.rd_below HXR.out HBR.out)
      have hs11 := HB11.out.size
      have hsr := HBB.out.size
      clear e0 e1 e2 e3 HN6 HG11 HOB HXR HBB
      have z0 := HT11.out.cell 0
      have z1 := HT11.out.cell 1
      have z2 := HT11.out.cell 2
      have z3 := HT11.out.cell 3
      have p2 := HP11.out.cell 2
      have HOBs := Lib.hid (Lay.own_base HO11.out)
      have hlw : wr.heap.size < w11.heap.size := HT11.out.lt
      have hob11 : ∀ k, (Value.slice B3 k3 d3).ownBlock = some k → k < wr.heap.size := HOBr.out
      obtain ⟨dn, hdn⟩ : ∃ dn, dn = decide (ps < i) := ⟨_, rfl⟩
      rw [← hdn]
      have HDN := Lib.hid hdn
      clear hdn
      by_cases hpe : i = ps
      · obtain rfl : dn = false := by rw [HDN.out]; simp; omega
        have hlt2 : pk.seq < x.seq := by
         have h1 := HHI.out i x (by omega) HXX.out
         have h2 := HNES.out x (List.mem_of_getElem? HXX.out)
         omega
        have p4 := HP11.out.cell 4
        have p5 := HP11.out.cell 5
        have p6 := HP11.out.cell 6
        obtain ⟨A5, c5, w13, hrun, ho5, hg5, hat5⟩ := run_appL (P := Try.prog) (L := LH4) (e := 81) (w := w11.alloc (.cells #[.int .u64 pk.seq, .slice pA pn pc, .bool pk.b.fin, .int .u64 pk.b.cnt] 81)) 34 34 (.agg #[.int .u64 0, .slice none 0 0, .bool false, .int .u64 0]) 4 48 Try.underlying34 infoH rfl rfl (by omega) w2.heap.size Fr B3 k3 d3 (allL y r.ahead ps i) w11.heap.size 1 81 #[.int .u64 pk.seq, .slice pA pn pc, .bool pk.b.fin, .int .u64 pk.b.cnt] y (Lay.own_alloc HO11.out _) (Blk.new w11 81 #[.int .u64 pk.seq, .slice pA pn pc, .bool pk.b.fin, .int .u64 pk.b.cnt]) ⟨pA, pn, pc, by rw [HY.out], hpn, hpc, by rw [HY.out]; exact Lay.rd_weak (fun b hb _ => ⟨hb, fun e => by have := (HOBs.out b e).1; have := HFR.out b hb; omega⟩) (Lay.rd_below (Lay.rd_below HRP2.out HB11.out) (bl_al (Below.refl w11.heap.size w11) _))⟩ (fun b hb => by have := HFR.out b hb; simp only [World.size_alloc]; omega) (by omega) (by unfold maxLen; omega) (by simp only [World.size_alloc]; omega)
        have hs13 := hg5.size
        simp only [World.size_alloc] at hs13
        have HT13 := Lib.hid (((HT11.out.ca (bl_al (Below.refl w11.heap.size w11) (.cells #[.int .u64 pk.seq, .slice pA pn pc, .bool pk.b.fin, .int .u64 pk.b.cnt] 81))).grown hg5 (fun e => by have := hob11 _ e.symm; omega)))
        have HR13 := Lib.hid (Lay.rd_keep (fun b hb hl => hg5.block b hl (fun e => by have := (HOBs.out b e.symm).1; have := HFR.out b hb; omega)) (Lay.rd_below HR11.out (bl_al (Below.refl w11.heap.size w11) (.cells #[.int .u64 pk.seq, .slice pA pn pc, .bool pk.b.fin, .int .u64 pk.b.cnt] 81))))
        have HOBt := Lib.hid (Lay.own_base ho5)
        obtain ⟨A6, c6, w15, hrun2, ho6, hg6, _⟩ := run_appL (P := Try.prog) (L := LH4) (e := 81) (w := w13.alloc (.cells #[.int .u64 x.seq, .slice Bx kx kc, .bool x.b.fin, .int .u64 x.b.cnt] 81)) 34 34 (.agg #[.int .u64 0, .slice none 0 0, .bool false, .int .u64 0]) 4 48 Try.underlying34 infoH rfl rfl (by omega) w2.heap.size Fr A5 (k3 + 1) c5 (allL y r.ahead ps i ++ [y]) w13.heap.size 1 81 #[.int .u64 x.seq, .slice Bx kx kc, .bool x.b.fin, .int .u64 x.b.cnt] x (Lay.own_alloc ho5 _) (Blk.new w13 81 #[.int .u64 x.seq, .slice Bx kx kc, .bool x.b.fin, .int .u64 x.b.cnt]) ⟨Bx, kx, kc, rfl, hk1, hk2, Lay.rd_weak (fun b hb _ => ⟨hb, fun e => by have := (HOBt.out b e).1; have := HFR.out b hb; omega⟩) (Lay.rd_below HR13.out (bl_al (Below.refl w13.heap.size w13) _))⟩ (fun b hb => by have := HFR.out b hb; simp only [World.size_alloc]; omega) (by omega) (by unfold maxLen; omega) (by simp only [World.size_alloc]; omega)
        have HRUN := Lib.hid hrun
        have HRUN2 := Lib.hid hrun2
        have HO6 := Lib.hid ho6
        have HB15 := Lib.hid (((bl_al HB11.out (.cells #[.int .u64 pk.seq, .slice pA pn pc, .bool pk.b.fin, .int .u64 pk.b.cnt] 81)).grown hg5 (by simp only [World.size_alloc]; omega) (fun k e => (HOBs.out k e).1)).alloc (by omega) (.cells #[.int .u64 x.seq, .slice Bx kx kc, .bool x.b.fin, .int .u64 x.b.cnt] 81) |>.grown hg6 (by simp only [World.size_alloc]; omega) (fun k e => (HOBt.out k e).1))
        have zz0 := HT13.out.cell 0
        have zz1 := HT13.out.cell 1
        have zz2 := HT13.out.cell 2
        have zz3 := HT13.out.cell 3
        have HAL := Lib.hid (show allL y r.ahead ps (i + 1) = (allL y r.ahead ps i ++ [y]) ++ [x] from by rw [hpe]; exact allL_ins (by rw [← hpe]; exact HXX.out))
        clear hrun hrun2 ho5 ho6 hg5 hg6 hat5
        go_wp2_with (first
         | (at_builtin; refine Lib.wpList_append_run _ rfl _ _ _ _ rfl _ _ rfl rfl _ _ HRUN.out ?_)
         | (at_builtin; refine Lib.wpList_append_run _ rfl _ _ _ _ rfl _ _ rfl rfl _ _ HRUN2.out ?_))
        go_roundg (gk - 1)
        · exact ⟨i + 1, A6, k3 + 1 + 1, c6, by omega, by go_num, rfl, by rw [show decide (ps < i + 1) = true from by simp; omega], by rw [HAL.out]; exact HO6.out, HB15.out⟩
        · omega
      · have HAL := Lib.hid (allL_step (y := y) HXX.out hpe)
        obtain ⟨A6, c6, w15, hrun2, ho6, hg6, _⟩ := run_appL (P := Try.prog) (L := LH4) (e := 81) (w := w11.alloc (.cells #[.int .u64 x.seq, .slice Bx kx kc, .bool x.b.fin, .int .u64 x.b.cnt] 81)) 34 34 (.agg #[.int .u64 0, .slice none 0 0, .bool false, .int .u64 0]) 4 48 Try.underlying34 infoH rfl rfl (by omega) w2.heap.size Fr B3 k3 d3 (allL y r.ahead ps i) w11.heap.size 1 81 #[.int .u64 x.seq, .slice Bx kx kc, .bool x.b.fin, .int .u64 x.b.cnt] x (Lay.own_alloc HO11.out _) (Blk.new w11 81 #[.int .u64 x.seq, .slice Bx kx kc, .bool x.b.fin, .int .u64 x.b.cnt]) ⟨Bx, kx, kc, rfl, hk1, hk2, Lay.rd_weak (fun b hb _ => ⟨hb, fun e => by have := (HOBs.out b e).1; have := HFR.out b hb; omega⟩) (Lay.rd_below HR11.out (bl_al (Below.refl w11.heap.size w11) _))⟩ (fun b hb => by have := HFR.out b hb; simp only [World.size_alloc]; omega) (by omega) (by unfold maxLen; omega) (by simp only [World.size_alloc]; omega)
        have HRUN2 := Lib.hid hrun2
        have HO6 := Lib.hid ho6
        have HB15 := Lib.hid ((bl_al HB11.out (.cells #[.int .u64 x.seq, .slice Bx kx kc, .bool x.b.fin, .int .u64 x.b.cnt] 81)).grown hg6 (by simp only [World.size_alloc]; omega) (fun k e => (HOBs.out k e).1))
        clear hrun2 ho6 hg6
        rcases Nat.lt_or_ge i ps with h9 | h9
        · obtain rfl : dn = false := by rw [HDN.out]; simp; omega
          have hlt3 : x.seq < pk.seq := HLO.out i x h9 HXX.out
          have hlt4 : ¬ pk.seq < x.seq := by omega
          have hlt5 : x.seq ≤ pk.seq := by omega
          go_wp2_with (at_builtin; refine Lib.wpList_append_run _ rfl _ _ _ _ rfl _ _ rfl rfl _ _ HRUN2.out ?_)
          go_roundg (gk - 1)
          · exact ⟨i + 1, A6, k3 + 1, c6, by omega, by go_num, rfl, by rw [show decide (ps < i + 1) = false from by simp; omega], by rw [HAL.out]; exact HO6.out, HB15.out⟩
          · omega
        · obtain rfl : dn = true := by rw [HDN.out]; simp; omega
          go_wp2_with (at_builtin; refine Lib.wpList_append_run _ rfl _ _ _ _ rfl _ _ rfl rfl _ _ HRUN2.out ?_)
          go_roundg (gk - 1)
          · exact ⟨i + 1, A6, k3 + 1, c6, by omega, by go_num, rfl, by rw [show decide (ps < i + 1) = true from by simp; omega], by rw [HAL.out]; exact HO6.out, HB15.out⟩
          · omega
    · have hin : i = n := by omega
      have hi1 : (n : Int) ≤ (i : Int) := by omega
      obtain ⟨dn, hdn⟩ : ∃ dn, dn = decide (ps < i) := ⟨_, rfl⟩
      rw [← hdn]
      have HDN := Lib.hid hdn
      have hk4 : k3 = if ps < i then i + 1 else i := by
       rw [← Lay.own_len hob]
       unfold allL
       split <;> simp only [List.length_append, List.length_cons, List.length_take, List.length_drop] <;> omega
      have HP9 := Lib.hid (HP2.out.ca hbb)
      have HRP9 := Lib.hid (Lay.rd_below HRP2.out hbb)
      have hsr := hbb.size
      have HOBs := Lib.hid (Lay.own_base hob)
      clear hdn hob hbb
      go_upto_if 46 with fail
      go_cut [5, 6, 45, 46] (fun b _ _ _ wx => ∃ B4 d4, b = .slice B4 (n + 1) d4 ∧ LH4.own 81 wx w2.heap.size Fr B4 (n + 1) d4 ins ∧ Below w2.heap.size w2 wx)
      case first =>
       cases dn
       · have hpn2 : ps = n := by have h9 := HDN.out.symm; simp at h9; omega
         have hk5 : k3 = n := by rw [hk4, if_neg (by omega)]; omega
         have p2 := HP9.out.cell 2
         have p4 := HP9.out.cell 4
         have p5 := HP9.out.cell 5
         have p6 := HP9.out.cell 6
         obtain ⟨A5, c5, w13, hrun, ho5, hg5, _⟩ := run_appL (P := Try.prog) (L := LH4) (e := 81) (w := wr.alloc (.cells #[.int .u64 pk.seq, .slice pA pn pc, .bool pk.b.fin, .int .u64 pk.b.cnt] 81)) 34 34 (.agg #[.int .u64 0, .slice none 0 0, .bool false, .int .u64 0]) 4 48 Try.underlying34 infoH rfl rfl (by omega) w2.heap.size Fr B3 k3 d3 (allL y r.ahead ps i) wr.heap.size 1 81 #[.int .u64 pk.seq, .slice pA pn pc, .bool pk.b.fin, .int .u64 pk.b.cnt] y (Lay.own_alloc HOB.out _) (Blk.new wr 81 #[.int .u64 pk.seq, .slice pA pn pc, .bool pk.b.fin, .int .u64 pk.b.cnt]) ⟨pA, pn, pc, by rw [HY.out], hpn, hpc, by rw [HY.out]; exact Lay.rd_weak (fun b hb _ => ⟨hb, fun e => by have := (HOBs.out b e).1; have := HFR.out b hb; omega⟩) (Lay.rd_below HRP9.out (bl_al (Below.refl wr.heap.size wr) _))⟩ (fun b hb => by have := HFR.out b hb; simp only [World.size_alloc]; omega) (by omega) (by unfold maxLen; omega) (by simp only [World.size_alloc]; omega)
         have HRUN := Lib.hid hrun
         have HO5 := Lib.hid (show LH4.own 81 w13 w2.heap.size Fr A5 (n + 1) c5 ins from by
          rw [HINS.out, hpn2, List.drop_of_length_le (by omega)]
          rw [hk5] at ho5
          unfold allL at ho5
          rw [if_neg (by omega), hin, hpn2.symm, List.take_of_length_le (by omega)] at ho5
          rw [List.take_of_length_le (by omega)]
          rw [hpn2] at ho5
          exact ho5)
         have HB13 := Lib.hid ((bl_al HBB.out (.cells #[.int .u64 pk.seq, .slice pA pn pc, .bool pk.b.fin, .int .u64 pk.b.cnt] 81)).grown hg5 (by simp only [World.size_alloc]; omega) (fun k e => (HOBs.out k e).1))
         have HK5 := Lib.hid hk5
         clear hrun ho5 hg5 hin hk5 hpn2 hk4
         go_wp2_with (at_builtin; refine Lib.wpList_append_run _ rfl _ _ _ _ rfl _ _ rfl rfl _ _ HRUN.out ?_)
         go_meet
         exact ⟨A5, c5, by rw [HK5.out], HO5.out, HB13.out⟩
       · have hpn2 : ps < n := by have h9 := HDN.out.symm; simp at h9; omega
         have hk5 : k3 = n + 1 := by rw [hk4, if_pos (by omega)]; omega
         go_wp2_with fail
         go_meet
         refine ⟨B3, d3, by rw [hk5], ?_, HBB.out⟩
         have := HOB.out
         unfold allL at this
         have e1 : (r.ahead.drop ps).take (i - ps) = r.ahead.drop ps := List.take_of_length_le (by rw [List.length_drop]; omega)
         rw [if_pos (by omega), e1, hk5] at this
         rw [HINS.out]
         exact this
      case rest =>
       obtain ⟨B4, d4, rfl, hoi, hbi⟩ := hcut
       have HOI := Lib.hid hoi
       have HBI := Lib.hid hbi
       have hil : ins.length = n + 1 := Lay.own_len hoi
       have HXc := Lib.hid (HX2.out.ca hbi)
       have HZc := Lib.hid (HZ2.out.ca hbi)
       have HBT := Lib.hid (rbatches_any Fr A2 m d r.buf wc (Lay.rd_below HRB2.out hbi) (by omega))
       have HQc := Lib.hid (bl_ca HQ2.out hbi)
       have hsc := hbi.size
       clear hoi hbi HP9 HRP9 HOBs HOB HBB HDN hk4 hk3 HX2 HP2 HZ2 HRA2 HRB2 HRP2 HQ2 HLO HHI HNES HY
       have x3 := HXc.out.cell 3
       go_wp2_with fail
       clear x3
       refine HBT.out.mono ?_
       clear HBT
       rintro e w20 ⟨A5, c5, rfl, ho5, q5⟩
       have HX20 := Lib.hid (HXc.out.ca q5)
       have HZ20 := Lib.hid (HZc.out.ca q5)
       have HOI20 := Lib.hid (Lay.own_below HOI.out q5)
       have HOIB := Lib.hid (Lay.own_base HOI.out)
       have HO5 := Lib.hid (Lay.own_weak (G' := Fr) (fun b hb _ => hb.1) ho5)
       have HQ20 := Lib.hid (bl_ca HQc.out q5)
       have hs20 := q5.size
       clear q5 ho5 HXc HZc HOI HQc
       have y2 := HX20.out.cell 2
       have y3 := HX20.out.cell 3
       have f2 := HX20.out.frozen 2
       have f3 := HX20.out.frozen 3
       have hg22 : w20.grownBy ((w20.setCell ⟨w.heap.size, 3, none⟩ (.slice A5 m c5)).setCell ⟨w.heap.size, 2, none⟩ (.slice none 0 0)) (some w.heap.size) := only_setCell (show w20.grownBy (w20.setCell ⟨w.heap.size, 3, none⟩ (.slice A5 m c5)) (some w.heap.size) from only_setCell (World.grownBy.refl _ _) (.inl rfl) _) (.inl rfl) _
       have hx22 : Blk ((w20.setCell ⟨w.heap.size, 3, none⟩ (.slice A5 m c5)).setCell ⟨w.heap.size, 2, none⟩ (.slice none 0 0)) w.heap.size 36 #[.int .u32 r.ses, .int .u64 r.next, .slice none 0 0, .slice A5 m c5, .int .i64 r.room, .bool r.over] := by
        have := (HX20.out.set_ 3 (.slice A5 m c5)).set_ 2 (.slice none 0 0)
        simpa [RC.cells] using this
       go_wp2_with fail
       clear y2 y3 f2 f3
       have HX22 := Lib.hid hx22
       have HG22 := Lib.hid hg22
       clear hx22 hg22
       generalize (w20.setCell ⟨w.heap.size, 3, none⟩ (.slice A5 m c5)).setCell ⟨w.heap.size, 2, none⟩ (.slice none 0 0) = w22 at *
       have HZ22 := Lib.hid (HZ20.out.apart HG22.out (by omega))
       have HOI22 := Lib.hid (own_grownF HOI20.out HG22.out (by omega) (fun b hb => by have := HFR.out b hb; omega))
       have HO22 := Lib.hid (Lay.own_lessB (B' := w2.heap.size) (own_grownF HO5.out HG22.out (by omega) (fun b hb => by have := HFR.out b hb; omega)) hsc)
       have HOB5 := Lib.hid (Lay.own_base HO5.out)
       have HQ22 := Lib.hid (bl_gr HQ20.out HG22.out (Nat.le_refl _))
       have hs22 := HG22.out.size
       clear HX20 HZ20 HOI20 HO5 HG22 HQ20
       go_loopg [62] (n + 1) (fun gk a wr => ∃ (i : Nat) (A6 : Option Addr) (k6 c6 : Nat) (A7 : Option Addr) (k7 c7 : Nat), i + gk = n + 1 ∧ a = .int .i64 i ∧ Blk wr w.heap.size 36 #[.int .u32 r.ses, .int .u64 (hearX r ins i).next, .slice A6 k6 c6, .slice A7 k7 c7, .int .i64 r.room, .bool r.over] ∧ LH4.own 81 wr w2.heap.size Fr A6 k6 c6 (hearX r ins i).ahead ∧ LB3.own 45 wr w2.heap.size Fr A7 k7 c7 (hearX r ins i).buf ∧ LH4.own 81 wr w2.heap.size Fr B4 (n + 1) d4 ins ∧ (∀ k, (Value.slice B4 (n + 1) d4).ownBlock = some k → (Value.slice A6 k6 c6).ownBlock ≠ some k ∧ (Value.slice A7 k7 c7).ownBlock ≠ some k) ∧ (∀ k, (Value.slice A6 k6 c6).ownBlock = some k → (Value.slice A7 k7 c7).ownBlock ≠ some k) ∧ Blk wr (w.heap.size + 2) 36 #[.int .u32 0, .int .u64 0, .slice none 0 0, .slice none 0 0, .int .i64 0, .bool false] ∧ w2.heap.size ≤ wr.heap.size ∧ Below w.heap.size w wr)
       case atStart => exact ⟨0, none, 0, 0, A5, m, c5, by omega, rfl, by rw [hearX_zero]; exact HX22.out, by rw [hearX_zero]; exact Lay.own_nil _ _, by rw [hearX_zero]; exact HO22.out, HOI22.out, fun k e => ⟨by simp [Value.ownBlock], fun e2 => by have := (HOB5.out k e2).1; have := (HOIB.out k e).2; omega⟩, fun k e => by simp [Value.ownBlock] at e, HZ22.out, by omega, HQ22.out⟩
       case round =>
        obtain ⟨i, A6, k6, c6, A7, k7, c7, hig, rfl, hbx, hoa, hob, hoi, hd1, hd2, hbz, hw2, hbq⟩ := hrel
        have HBX := Lib.hid hbx
        have HOA := Lib.hid hoa
        have HOB := Lib.hid hob
        have HOI := Lib.hid hoi
        have HD1 := Lib.hid hd1
        have HD2 := Lib.hid hd2
        have HBZ := Lib.hid hbz
        have HBQ := Lib.hid hbq
        have hbqs := hbq.size
        have hlx : w.heap.size < wr.heap.size := hbx.lt
        have hk6 : k6 = (hearX r ins i).ahead.length := (Lay.own_len hoa).symm
        have hk7 : k7 = (hearX r ins i).buf.length := (Lay.own_len hob).symm
        have hlen9 : k6 ≤ 20 ∧ k7 ≤ 20 ∧ (hearX r ins i).next ≤ 1099511627777 + 20 ∧ 0 ≤ (hearX r ins i).next := by
         rw [hk6, hk7]
         unfold hearX
         have := drainN_le ins r.next
         simp only [List.length_take, List.length_drop, List.length_append, List.length_map]
         omega
        obtain ⟨cur, hcur⟩ : ∃ cur, cur = hearX r ins i := ⟨_, rfl⟩
        rw [← hcur] at HBX HOA HOB hlen9
        have HCUR := Lib.hid hcur
        clear hbx hoa hob hoi hd1 hd2 hbz hbq hk6 hk7 hcur HX22 HZ22 HOI22 HO22 HQ22
        by_cases hlt : i < n + 1
        · have hi1 : (i : Int) < ((n + 1 : Nat) : Int) := by omega
          have hi2 : (i : Int) < (n : Int) + 1 := by omega
          obtain ⟨x, hx⟩ : ∃ x, ins[i]? = some x := ⟨_, List.getElem?_eq_getElem (by omega)⟩
          have HXX := Lib.hid hx
          obtain ⟨ga, rfl, hgb, _⟩ := own_some HOI.out (by omega)
          obtain ⟨Bx, kx, kc, e0, e1, e2, e3, hk1, hk2, hxr⟩ := LH4_own_at HOI.out hx
          have HN6 := Lib.hid (Blk.new wr 81 #[.int .u64 0, .slice none 0 0, .bool false, .int .u64 0])
          have hdec := hearX_next HINC.out hx
          rw [← HCUR.out] at hdec
          have HDEC := Lib.hid hdec
          have HXR := Lib.hid hxr
          clear hx hxr hdec
          go_upto_region 18 with (first | (refine wpList_store_blk rfl 81 (.tmp 10) (.tmp 65) rfl wr.heap.size 81 #[.int .u64 0, .slice none 0 0, .bool false, .int .u64 0] #[.int .u64 x.seq, .slice Bx kx kc, .bool x.b.fin, .int .u64 x.b.cnt] rfl rfl HN6.out rfl heldI (by simp [Value.oneCell']) ?_; intro w31 h11 g11; have HT31 := Lib.hid h11; have HG31 := Lib.hid g11; clear h11 g11))
          have HBR := Lib.hid (bl_gr (bl_al (Below.refl wr.heap.size wr) (.cells #[.int .u64 0, .slice none 0 0, .bool false, .int .u64 0] 81)) HG31.out (Nat.le_refl _))
          have HBX31 := Lib.hid (HBX.out.ca HBR.out)
          have HOA31 := Lib.hid (Lay.own_below HOA.out HBR.out)
          have HOB31 := Lib.hid (Lay.own_below HOB.out HBR.out)
          have HOI31 := Lib.hid (Lay.own_below HOI.out HBR.out)
          have HBZ31 := Lib.hid (HBZ.out.ca HBR.out)
          have HBQ31 := Lib.hid (bl_ca HBQ.out HBR.out)
          have HXR31 := Lib.hid (Lay.rd_below HXR.out HBR.out)
          have HOAr := Lib.hid (Lay.own_base HOA.out)
          have HOBr := Lib.hid (Lay.own_base HOB.out)
          have HOIr := Lib.hid (Lay.own_base HOI.out)
          have hs31 := HBR.out.size
          have hlw : wr.heap.size < w31.heap.size := HT31.out.lt
          clear e0 e1 e2 e3 HN6 HG31 HBR HBX HOA HOB HOI HBZ HBQ HXR
          have z0 := HT31.out.cell 0
          have z1 := HT31.out.cell 1
          have z2 := HT31.out.cell 2
          have z3 := HT31.out.cell 3
          have b1 := HBX31.out.cell 1
          have b2 := HBX31.out.cell 2
          have b3 := HBX31.out.cell 3
          have fb1 := HBX31.out.frozen 1
          have fb2 := HBX31.out.frozen 2
          have fb3 := HBX31.out.frozen 3
          by_cases hd : i < drainN r.next ins
          · have hq : x.seq = cur.next := by
             have h9 := HDEC.out
             rw [decide_eq_true hd] at h9
             simpa using h9
            obtain ⟨A8, c8, w33, hrun, ho8, hg8, hat8⟩ := run_appL (P := Try.prog) (L := LB3) (e := 45) (w := w31.alloc (.cells #[.slice Bx kx kc, .bool x.b.fin, .int .u64 x.b.cnt] 45)) 27 27 (.agg #[.slice none 0 0, .bool false, .int .u64 0]) 3 40 Try.underlying27 infoB rfl rfl (by omega) w2.heap.size Fr A7 k7 c7 cur.buf w31.heap.size 1 45 #[.slice Bx kx kc, .bool x.b.fin, .int .u64 x.b.cnt] x.b (Lay.own_alloc HOB31.out _) (Blk.new w31 45 #[.slice Bx kx kc, .bool x.b.fin, .int .u64 x.b.cnt]) ⟨Bx, kx, kc, rfl, hk1, hk2, Lay.rd_weak (fun b hb _ => ⟨hb, fun e => by have := (HOBr.out b e).1; have := HFR.out b hb; omega⟩) (Lay.rd_below HXR31.out (bl_al (Below.refl w31.heap.size w31) _))⟩ (fun b hb => by have := HFR.out b hb; simp only [World.size_alloc]; omega) (by omega) (by unfold maxLen; omega) (by simp only [World.size_alloc]; omega)
            have HRUN := Lib.hid hrun
            have hs33 := hg8.size
            simp only [World.size_alloc] at hs33
            have qal := bl_al (Below.refl w31.heap.size w31) (.cells #[.slice Bx kx kc, .bool x.b.fin, .int .u64 x.b.cnt] 45)
            have HBX33 := Lib.hid ((HBX31.out.ca qal).grown hg8 (fun e => by have := (HOBr.out _ e.symm).1; omega))
            have HBZ33 := Lib.hid ((HBZ31.out.ca qal).grown hg8 (fun e => by have := (HOBr.out _ e.symm).1; omega))
            have HOI33 := Lib.hid (Lay.own_same (Lay.own_below HOI31.out qal) (fun k e => hg8.block k (by have := (HOIr.out k e).2; simp only [World.size_alloc]; omega) (fun e2 => (HD1.out k e).2 e2.symm)) (fun b hb _ hl => hg8.block b hl (fun e2 => by have := (HOBr.out b e2.symm).1; have := HFR.out b hb; omega)))
            have HOA33 := Lib.hid (Lay.own_same (Lay.own_below HOA31.out qal) (fun k e => hg8.block k (by have := (HOAr.out k e).2; simp only [World.size_alloc]; omega) (fun e2 => HD2.out k e e2.symm)) (fun b hb _ hl => hg8.block b hl (fun e2 => by have := (HOBr.out b e2.symm).1; have := HFR.out b hb; omega)))
            have HO8 := Lib.hid ho8
            have HAT8 := Lib.hid (show ∀ k, (Value.slice A8 (k7 + 1) c8).ownBlock = some k → (Value.slice A7 k7 c7).ownBlock = some k ∨ w31.heap.size < k + 1 from fun k e => hat8.elim (fun h => .inl (h ▸ e)) (fun h => .inr (by rw [h] at e; injection e with e; simp only [World.size_alloc] at e; omega)))
            have HBQ33 := Lib.hid ((bl_ca HBQ31.out qal).grown hg8 (by simp only [World.size_alloc]; omega) (fun k e => by have := (HOBr.out k e).1; omega))
            clear hrun ho8 hg8 hat8 qal
            have hw : IntKind.u64.wrap (cur.next + 1) = cur.next + 1 := u64_in (by omega) (by omega)
            have hgF : w33.grownBy ((w33.setCell ⟨w.heap.size, 3, none⟩ (.slice A8 (k7 + 1) c8)).setCell ⟨w.heap.size, 1, none⟩ (.int .u64 (cur.next + 1))) (some w.heap.size) := only_setCell (show w33.grownBy (w33.setCell ⟨w.heap.size, 3, none⟩ (.slice A8 (k7 + 1) c8)) (some w.heap.size) from only_setCell (World.grownBy.refl _ _) (.inl rfl) _) (.inl rfl) _
            have hbF : Blk ((w33.setCell ⟨w.heap.size, 3, none⟩ (.slice A8 (k7 + 1) c8)).setCell ⟨w.heap.size, 1, none⟩ (.int .u64 (cur.next + 1))) w.heap.size 36 #[.int .u32 r.ses, .int .u64 (cur.next + 1), .slice A6 k6 c6, .slice A8 (k7 + 1) c8, .int .i64 r.room, .bool r.over] := by simpa using (HBX33.out.set_ 3 (.slice A8 (k7 + 1) c8)).set_ 1 (.int .u64 (cur.next + 1))
            have HGF := Lib.hid hgF
            have HBF := Lib.hid hbF
            have c1 := HBX33.out.cell 1
            have c2 := HBX33.out.cell 2
            have c3 := HBX33.out.cell 3
            have g1 := HBX33.out.frozen 1
            have g2 := HBX33.out.frozen 2
            have g3 := HBX33.out.frozen 3
            clear hgF hbF
            go_wp2_with (at_builtin; refine Lib.wpList_append_run _ rfl _ _ _ _ rfl _ _ rfl rfl _ _ HRUN.out ?_)
            have hst := hearX_lt (r := r) HXX.out hd
            rw [← HCUR.out] at hst
            have hsF := HGF.out.size
            go_roundg (gk - 1)
            · exact ⟨i + 1, A6, k6, c6, A8, k7 + 1, c8, by omega, by go_num, by rw [hst.1]; exact HBF.out, by rw [hst.2.1]; exact own_grownF HOA33.out HGF.out (by omega) (fun b hb => by have := HFR.out b hb; omega), by rw [hst.2.2]; exact own_grownF HO8.out HGF.out (by omega) (fun b hb => by have := HFR.out b hb; omega), own_grownF HOI33.out HGF.out (by omega) (fun b hb => by have := HFR.out b hb; omega), fun k e => ⟨(HD1.out k e).1, fun e2 => (HAT8.out k e2).elim (fun h => (HD1.out k e).2 h) (fun h => by have := (HOIr.out k e).2; omega)⟩, fun k e e2 => (HAT8.out k e2).elim (fun h => HD2.out k e h) (fun h => by have := (HOAr.out k e).2; omega), HBZ33.out.apart HGF.out (by omega), by omega, bl_gr HBQ33.out HGF.out (Nat.le_refl _)⟩
            · omega
          · have hq : ¬ x.seq = cur.next := by
             have h9 := HDEC.out
             rw [decide_eq_false hd] at h9
             simpa using h9
            obtain ⟨A8, c8, w33, hrun, ho8, hg8, hat8⟩ := run_appL (P := Try.prog) (L := LH4) (e := 81) (w := w31.alloc (.cells #[.int .u64 x.seq, .slice Bx kx kc, .bool x.b.fin, .int .u64 x.b.cnt] 81)) 34 34 (.agg #[.int .u64 0, .slice none 0 0, .bool false, .int .u64 0]) 4 48 Try.underlying34 infoH rfl rfl (by omega) w2.heap.size Fr A6 k6 c6 cur.ahead w31.heap.size 1 81 #[.int .u64 x.seq, .slice Bx kx kc, .bool x.b.fin, .int .u64 x.b.cnt] x (Lay.own_alloc HOA31.out _) (Blk.new w31 81 #[.int .u64 x.seq, .slice Bx kx kc, .bool x.b.fin, .int .u64 x.b.cnt]) ⟨Bx, kx, kc, rfl, hk1, hk2, Lay.rd_weak (fun b hb _ => ⟨hb, fun e => by have := (HOAr.out b e).1; have := HFR.out b hb; omega⟩) (Lay.rd_below HXR31.out (bl_al (Below.refl w31.heap.size w31) _))⟩ (fun b hb => by have := HFR.out b hb; simp only [World.size_alloc]; omega) (by omega) (by unfold maxLen; omega) (by simp only [World.size_alloc]; omega)
            have HRUN := Lib.hid hrun
            have hs33 := hg8.size
            simp only [World.size_alloc] at hs33
            have qal := bl_al (Below.refl w31.heap.size w31) (.cells #[.int .u64 x.seq, .slice Bx kx kc, .bool x.b.fin, .int .u64 x.b.cnt] 81)
            have HBX33 := Lib.hid ((HBX31.out.ca qal).grown hg8 (fun e => by have := (HOAr.out _ e.symm).1; omega))
            have HBZ33 := Lib.hid ((HBZ31.out.ca qal).grown hg8 (fun e => by have := (HOAr.out _ e.symm).1; omega))
            have HOI33 := Lib.hid (Lay.own_same (Lay.own_below HOI31.out qal) (fun k e => hg8.block k (by have := (HOIr.out k e).2; simp only [World.size_alloc]; omega) (fun e2 => (HD1.out k e).1 e2.symm)) (fun b hb _ hl => hg8.block b hl (fun e2 => by have := (HOAr.out b e2.symm).1; have := HFR.out b hb; omega)))
            have HOB33 := Lib.hid (Lay.own_same (Lay.own_below HOB31.out qal) (fun k e => hg8.block k (by have := (HOBr.out k e).2; simp only [World.size_alloc]; omega) (fun e2 => HD2.out k e2.symm e)) (fun b hb _ hl => hg8.block b hl (fun e2 => by have := (HOAr.out b e2.symm).1; have := HFR.out b hb; omega)))
            have HO8 := Lib.hid ho8
            have HAT8 := Lib.hid (show ∀ k, (Value.slice A8 (k6 + 1) c8).ownBlock = some k → (Value.slice A6 k6 c6).ownBlock = some k ∨ w31.heap.size < k + 1 from fun k e => hat8.elim (fun h => .inl (h ▸ e)) (fun h => .inr (by rw [h] at e; injection e with e; simp only [World.size_alloc] at e; omega)))
            have HBQ33 := Lib.hid ((bl_ca HBQ31.out qal).grown hg8 (by simp only [World.size_alloc]; omega) (fun k e => by have := (HOAr.out k e).1; omega))
            clear hrun ho8 hg8 hat8 qal
            have hgF : w33.grownBy (w33.setCell ⟨w.heap.size, 2, none⟩ (.slice A8 (k6 + 1) c8)) (some w.heap.size) := only_setCell (World.grownBy.refl _ _) (.inl rfl) _
            have hbF : Blk (w33.setCell ⟨w.heap.size, 2, none⟩ (.slice A8 (k6 + 1) c8)) w.heap.size 36 #[.int .u32 r.ses, .int .u64 cur.next, .slice A8 (k6 + 1) c8, .slice A7 k7 c7, .int .i64 r.room, .bool r.over] := by simpa using HBX33.out.set_ 2 (.slice A8 (k6 + 1) c8)
            have HGF := Lib.hid hgF
            have HBF := Lib.hid hbF
            have c1 := HBX33.out.cell 1
            have c2 := HBX33.out.cell 2
            have c3 := HBX33.out.cell 3
            have g1 := HBX33.out.frozen 1
            have g2 := HBX33.out.frozen 2
            have g3 := HBX33.out.frozen 3
            clear hgF hbF
            go_wp2_with (at_builtin; refine Lib.wpList_append_run _ rfl _ _ _ _ rfl _ _ rfl rfl _ _ HRUN.out ?_)
            have hst := hearX_ge (r := r) HXX.out (by omega)
            rw [← HCUR.out] at hst
            have hsF := HGF.out.size
            go_roundg (gk - 1)
            · exact ⟨i + 1, A8, k6 + 1, c8, A7, k7, c7, by omega, by go_num, by rw [hst.1]; exact HBF.out, by rw [hst.2.1]; exact own_grownF HO8.out HGF.out (by omega) (fun b hb => by have := HFR.out b hb; omega), by rw [hst.2.2]; exact own_grownF HOB33.out HGF.out (by omega) (fun b hb => by have := HFR.out b hb; omega), own_grownF HOI33.out HGF.out (by omega) (fun b hb => by have := HFR.out b hb; omega), fun k e => ⟨fun e2 => (HAT8.out k e2).elim (fun h => (HD1.out k e).1 h) (fun h => by have := (HOIr.out k e).2; omega), (HD1.out k e).2⟩, fun k e e2 => (HAT8.out k e).elim (fun h => HD2.out k h e2) (fun h => by have := (HOBr.out k e2).2; omega), HBZ33.out.apart HGF.out (by omega), by omega, bl_gr HBQ33.out HGF.out (Nat.le_refl _)⟩
            · omega
        · have hin : i = n + 1 := by omega
          have hi1 : ((n + 1 : Nat) : Int) ≤ (i : Int) := by omega
          have hi2 : (n : Int) + 1 ≤ (i : Int) := by omega
          have HEND := Lib.hid (show RR = cur from by rw [HYES.out, HCUR.out]; exact (hearX_end (by omega)).symm)
          have hcr : cur.ses = r.ses ∧ cur.room = r.room ∧ cur.over = r.over := by rw [HCUR.out]; exact ⟨rfl, rfl, rfl⟩
          have HBXc := Lib.hid (show Blk wr w.heap.size 36 (cur.cells A6 k6 c6 A7 k7 c7) from by
           have := HBX.out
           rw [← hcr.1, ← hcr.2.1, ← hcr.2.2] at this
           exact this)
          have hca := Lay.own_caps HOA.out
          have hcb := Lay.own_caps HOB.out
          have b0 := HBXc.out.cell 0
          have b1 := HBXc.out.cell 1
          have b2 := HBXc.out.cell 2
          have b3 := HBXc.out.cell 3
          have b4 := HBXc.out.cell 4
          have b5 := HBXc.out.cell 5
          clear HBX hcr hin
          go_wp2_with (first | (refine wpList_store_blk rfl 36 (.tmp 4) (.tmp 89) rfl (w.heap.size + 2) 36 #[.int .u32 0, .int .u64 0, .slice none 0 0, .slice none 0 0, .int .i64 0, .bool false] (cur.cells A6 k6 c6 A7 k7 c7) rfl rfl HBZ.out rfl receiverI (by simp [RC.cells, Value.oneCell']) ?_; intro w3 h3 g3; have HG3 := Lib.hid h3; have GG3 := Lib.hid g3; clear h3 g3))
          exact bodyPost_ret (res1 Try.results37 rfl HG3.out Try.underlying36 rfl receiverI) rfl ⟨A6, k6, c6, A7, k7, c7, by rw [HEND.out], by rw [HEND.out]; exact Lay.own_rd (own_grownF HOA.out GG3.out (by omega) (fun b hb => by have := HFR.out b hb; omega)) (fun b hb _ => .inr (by omega)) (fun b hb _ => .inl hb), hca.1, hca.2, by rw [HEND.out]; exact Lay.own_rd (own_grownF HOB.out GG3.out (by omega) (fun b hb => by have := HFR.out b hb; omega)) (fun b hb _ => .inr (by omega)) (fun b hb _ => .inl hb), hcb.1, hcb.2, bl_gr HBQ.out GG3.out (by omega)⟩
end Go.Proofs.Ytojghgbaiiajfaa
