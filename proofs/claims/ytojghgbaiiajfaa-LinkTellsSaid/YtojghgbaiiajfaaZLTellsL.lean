/- LinkTells, walked. Conditions: the slices read as these senders, receivers and packets. -/
import Derived.Test.YtojghgbaiiajfaaPkT20
import Derived.Deep.DeepCutAuto
import Derived.Deep.CutBlock
namespace Go.Proofs.Ytojghgbaiiajfaa
open Go.RowKit
def SC.rng (s : SC) : Prop := 0 ≤ s.base ∧ 0 ≤ s.sent ∧ 0 ≤ s.lim ∧ s.lim ≤ 18446744073709551615 ∧ s.base ≤ 18446744073709551615
def RC.rng (r : RC) : Prop := 0 ≤ r.next ∧ r.next ≤ 18446744073709551615
def PK.rng (p : PK) : Prop := 0 ≤ p.seq ∧ p.seq ≤ 18446744073709551615 ∧ 0 ≤ p.lim ∧ p.lim ≤ 18446744073709551615
def LSN : Lay SC where
  size := 7
  rep := fun w F s cs => ∃ A n c, cs = [.int .u32 s.ses, .int .u64 s.base, .slice A n c, .int .u64 s.sent, .int .u64 s.lim, .int .i64 s.timer, .bool s.ended] ∧ n ≤ c ∧ c ≤ 9223372036854775807 ∧ LB3.rd w F A n s.q
  len := fun h => by obtain ⟨A, n, c, rfl, _⟩ := h; rfl
  one := fun h u hu => by obtain ⟨A, n, c, rfl, _⟩ := h; simp at hu; rcases hu with rfl | rfl | rfl | rfl | rfl | rfl | rfl <;> rfl
  keep := fun hk h => by obtain ⟨A, n, c, e, h1, h2, hr⟩ := h; exact ⟨A, n, c, e, h1, h2, Lay.rd_keep hk hr⟩
  weak := fun hk h => by obtain ⟨A, n, c, e, h1, h2, hr⟩ := h; exact ⟨A, n, c, e, h1, h2, Lay.rd_weak hk hr⟩
def LRV : Lay RC where
  size := 6
  rep := fun w F s cs => ∃ A n c B m d, cs = [.int .u32 s.ses, .int .u64 s.next, .slice A n c, .slice B m d, .int .i64 s.room, .bool s.over] ∧ n ≤ c ∧ c ≤ 9223372036854775807 ∧ m ≤ d ∧ d ≤ 9223372036854775807 ∧ LH4.rd w F A n s.ahead ∧ LB3.rd w F B m s.buf
  len := fun h => by obtain ⟨A, n, c, B, m, d, rfl, _⟩ := h; rfl
  one := fun h u hu => by obtain ⟨A, n, c, B, m, d, rfl, _⟩ := h; simp at hu; rcases hu with rfl | rfl | rfl | rfl | rfl | rfl <;> rfl
  keep := fun hk h => by obtain ⟨A, n, c, B, m, d, e, h1, h2, h3, h4, hr, hr2⟩ := h; exact ⟨A, n, c, B, m, d, e, h1, h2, h3, h4, Lay.rd_keep hk hr, Lay.rd_keep hk hr2⟩
  weak := fun hk h => by obtain ⟨A, n, c, B, m, d, e, h1, h2, h3, h4, hr, hr2⟩ := h; exact ⟨A, n, c, B, m, d, e, h1, h2, h3, h4, Lay.rd_weak hk hr, Lay.rd_weak hk hr2⟩
structure SSP (w : World) (F : Nat → Prop) (p : Addr) (s : SC) (A : Option Addr) (n c : Nat) : Prop where
  c0 : w.cell? p = some (.int .u32 s.ses)
  c1 : w.cell? ⟨p.block, p.off + 1, none⟩ = some (.int .u64 s.base)
  c2 : w.cell? ⟨p.block, p.off + 2, none⟩ = some (.slice A n c)
  c3 : w.cell? ⟨p.block, p.off + 3, none⟩ = some (.int .u64 s.sent)
  c4 : w.cell? ⟨p.block, p.off + 4, none⟩ = some (.int .u64 s.lim)
  c5 : w.cell? ⟨p.block, p.off + 5, none⟩ = some (.int .i64 s.timer)
  c6 : w.cell? ⟨p.block, p.off + 6, none⟩ = some (.bool s.ended)
  nc : n ≤ c
  cm : c ≤ 9223372036854775807
  rd : LB3.rd w F A n s.q
structure SRP (w : World) (F : Nat → Prop) (p : Addr) (s : RC) (A : Option Addr) (n c : Nat) (B : Option Addr) (m d : Nat) : Prop where
  c0 : w.cell? p = some (.int .u32 s.ses)
  c1 : w.cell? ⟨p.block, p.off + 1, none⟩ = some (.int .u64 s.next)
  c2 : w.cell? ⟨p.block, p.off + 2, none⟩ = some (.slice A n c)
  c3 : w.cell? ⟨p.block, p.off + 3, none⟩ = some (.slice B m d)
  c4 : w.cell? ⟨p.block, p.off + 4, none⟩ = some (.int .i64 s.room)
  c5 : w.cell? ⟨p.block, p.off + 5, none⟩ = some (.bool s.over)
  nc : n ≤ c
  cm : c ≤ 9223372036854775807
  nc2 : m ≤ d
  cm2 : d ≤ 9223372036854775807
  rd : LH4.rd w F A n s.ahead
  rd2 : LB3.rd w F B m s.buf
structure SPP (w : World) (F : Nat → Prop) (p : Addr) (s : PK) (A : Option Addr) (n c : Nat) : Prop where
  c0 : w.cell? p = some (.int .i64 s.kind)
  c1 : w.cell? ⟨p.block, p.off + 1, none⟩ = some (.int .u32 s.ses)
  c2 : w.cell? ⟨p.block, p.off + 2, none⟩ = some (.int .u64 s.seq)
  c3 : w.cell? ⟨p.block, p.off + 3, none⟩ = some (.int .u64 s.lim)
  c4 : w.cell? ⟨p.block, p.off + 4, none⟩ = some (.slice A n c)
  c5 : w.cell? ⟨p.block, p.off + 5, none⟩ = some (.bool s.b.fin)
  c6 : w.cell? ⟨p.block, p.off + 6, none⟩ = some (.int .u64 s.b.cnt)
  nc : n ≤ c
  cm : c ≤ 9223372036854775807
  rd : LR.rd w F A n s.b.rows
theorem LSN_at {w : World} {F : Nat → Prop} {A : Option Addr} {n i : Nat} {xs : List SC} (h : LSN.rd w F A n xs) (hi : i < n) : ∃ ad s B k c, A = some ad ∧ xs[i]? = some s ∧ (ad.add (i * 7)).block < w.heap.size ∧ SSP w F (ad.add (i * 7)) s B k c := by
  obtain ⟨ad, s, cs, e, hx, hb, _, ⟨B, k, c, rfl, h1, h2, hr⟩, hc⟩ := Lay.rd_at h hi
  exact ⟨ad, s, B, k, c, e, hx, by rw [block_of_add]; exact hb, ⟨hc 0 _ rfl, (by rw [← addr_more _ _ 1 (by omega)]; exact hc 1 _ rfl), (by rw [← addr_more _ _ 2 (by omega)]; exact hc 2 _ rfl), (by rw [← addr_more _ _ 3 (by omega)]; exact hc 3 _ rfl), (by rw [← addr_more _ _ 4 (by omega)]; exact hc 4 _ rfl), (by rw [← addr_more _ _ 5 (by omega)]; exact hc 5 _ rfl), (by rw [← addr_more _ _ 6 (by omega)]; exact hc 6 _ rfl), h1, h2, hr⟩⟩
theorem LRV_at {w : World} {F : Nat → Prop} {A : Option Addr} {n i : Nat} {xs : List RC} (h : LRV.rd w F A n xs) (hi : i < n) : ∃ ad s B k c B2 k2 c2, A = some ad ∧ xs[i]? = some s ∧ (ad.add (i * 6)).block < w.heap.size ∧ SRP w F (ad.add (i * 6)) s B k c B2 k2 c2 := by
  obtain ⟨ad, s, cs, e, hx, hb, _, ⟨B, k, c, B2, k2, c2, rfl, h1, h2, h3, h4, hr, hr2⟩, hc⟩ := Lay.rd_at h hi
  exact ⟨ad, s, B, k, c, B2, k2, c2, e, hx, by rw [block_of_add]; exact hb, ⟨hc 0 _ rfl, (by rw [← addr_more _ _ 1 (by omega)]; exact hc 1 _ rfl), (by rw [← addr_more _ _ 2 (by omega)]; exact hc 2 _ rfl), (by rw [← addr_more _ _ 3 (by omega)]; exact hc 3 _ rfl), (by rw [← addr_more _ _ 4 (by omega)]; exact hc 4 _ rfl), (by rw [← addr_more _ _ 5 (by omega)]; exact hc 5 _ rfl), h1, h2, h3, h4, hr, hr2⟩⟩
theorem LP7_at {w : World} {F : Nat → Prop} {A : Option Addr} {n i : Nat} {xs : List PK} (h : LP7.rd w F A n xs) (hi : i < n) : ∃ ad s B k c, A = some ad ∧ xs[i]? = some s ∧ (ad.add (i * 7)).block < w.heap.size ∧ SPP w F (ad.add (i * 7)) s B k c := by
  obtain ⟨ad, s, cs, e, hx, hb, _, ⟨B, k, c, rfl, h1, h2, hr⟩, hc⟩ := Lay.rd_at h hi
  exact ⟨ad, s, B, k, c, e, hx, by rw [block_of_add]; exact hb, ⟨hc 0 _ rfl, (by rw [← addr_more _ _ 1 (by omega)]; exact hc 1 _ rfl), (by rw [← addr_more _ _ 2 (by omega)]; exact hc 2 _ rfl), (by rw [← addr_more _ _ 3 (by omega)]; exact hc 3 _ rfl), (by rw [← addr_more _ _ 4 (by omega)]; exact hc 4 _ rfl), (by rw [← addr_more _ _ 5 (by omega)]; exact hc 5 _ rfl), (by rw [← addr_more _ _ 6 (by omega)]; exact hc 6 _ rfl), h1, h2, hr⟩⟩
theorem res_rdS {F : Nat → Prop} {w : World} {s : SC} {A : Option Addr} {m c : Nat} (h : LRes LSN (fun a => a = s) (.agg (s.cells A m c)) F w) : LB3.rd w AllB A m s.q := by
  obtain ⟨a, cs, e, ⟨B, n, d, hcs, _, _, hr⟩, rfl⟩ := h
  injection e with e
  subst e
  simp at hcs
  obtain ⟨rfl, rfl, rfl⟩ := hcs
  exact Lay.rd_weak (fun _ _ _ => trivial) hr
theorem res_capS {F : Nat → Prop} {w : World} {s : SC} {A : Option Addr} {m c : Nat} (h : LRes LSN (fun a => a = s) (.agg (s.cells A m c)) F w) : m ≤ 9223372036854775807 := by
  obtain ⟨a, cs, e, ⟨B, n, d, hcs, h1, h2, hr⟩, rfl⟩ := h
  injection e with e
  subst e
  simp at hcs
  obtain ⟨rfl, rfl, rfl⟩ := hcs
  exact Nat.le_trans h1 h2
theorem res_rdR {F : Nat → Prop} {w : World} {s : RC} {A : Option Addr} {m c : Nat} {B : Option Addr} {k d : Nat} (h : LRes LRV (fun a => a = s) (.agg (s.cells A m c B k d)) F w) : LH4.rd w AllB A m s.ahead ∧ LB3.rd w AllB B k s.buf := by
  obtain ⟨a, cs, e, ⟨A1, m1, c1, B1, k1, d1, hcs, _, _, _, _, hr, hr2⟩, rfl⟩ := h
  injection e with e
  subst e
  simp at hcs
  obtain ⟨⟨rfl, rfl, rfl⟩, rfl, rfl, rfl⟩ := hcs
  exact ⟨Lay.rd_weak (fun _ _ _ => trivial) hr, Lay.rd_weak (fun _ _ _ => trivial) hr2⟩
theorem res_capR {F : Nat → Prop} {w : World} {s : RC} {A : Option Addr} {m c : Nat} {B : Option Addr} {k d : Nat} (h : LRes LRV (fun a => a = s) (.agg (s.cells A m c B k d)) F w) : m ≤ 9223372036854775807 ∧ k ≤ 9223372036854775807 := by
  obtain ⟨a, cs, e, ⟨A1, m1, c1, B1, k1, d1, hcs, h1, h2, h3, h4, hr, hr2⟩, rfl⟩ := h
  injection e with e
  subst e
  simp at hcs
  obtain ⟨⟨rfl, rfl, rfl⟩, rfl, rfl, rfl⟩ := hcs
  exact ⟨Nat.le_trans h1 h2, Nat.le_trans h3 h4⟩
theorem SeqN.move {ks : List Nat} {B : Nat → (Nat → Value) → World → Prop} {L : Array Bool} {m : Nat → Value} {w w' : World} {i : Nat} (h : (ks.all fun k => k != i) = true) (hB : ∀ j m, B j m w → B j m w') (hS : SeqN ks B L m w) : SeqN ks B (L.setIfInBounds i true) m w' := by
  have := SeqN.pass h L m w hS
  exact hB _ _ this
theorem SeqN.after24 {B : Nat → (Nat → Value) → World → Prop} {L : Array Bool} {m : Nat → Value} {w : World} {k : Nat} (hd : Dn L k = true) (hS : SeqN [k] B L m w) : B 1 m w := by
  unfold SeqN cntD cntD at hS
  rw [hd] at hS
  exact hS
set_option maxRecDepth 100000 in
set_option maxHeartbeats 64000000 in
theorem tells_law (sA : Option Addr) (sn sc : Nat) (ss : List SC) (rA : Option Addr) (rn rc : Nat) (rs : List RC) (pA : Option Addr) (pn pc : Nat) (ps : List PK) (w : World) (h : LSN.rd w AllB sA sn ss) (hm : sn ≤ 9223372036854775807) (hps : ∀ s ∈ ss, SC.rng s) (h2 : LRV.rd w AllB rA rn rs) (hm2 : rn ≤ 9223372036854775807) (_hr2 : ∀ s ∈ rs, RC.rng s) (h3 : LP7.rd w AllB pA pn ps) (hm3 : pn ≤ 9223372036854775807) (_hr3 : ∀ s ∈ ps, PK.rng s) :
    Calls Try.prog 5 #[.slice sA sn sc, .slice rA rn rc, .slice pA pn pc] w fun e w' => e = .returned (.bool true) ∧ Below w.heap.size w w' := by
  have HLS := Lib.hid h
  have HLR := Lib.hid h2
  have HLP := Lib.hid h3
  have HPS := Lib.hid (fun s hs => (hps s hs).1)
  clear h h2 h3 hps _hr2 _hr3
  go_enter Try.func5, Try.ntmps5
  go_wp2_with fail
  refine (wakes_any _).mono ?_
  rintro e w2 ⟨rfl, q2⟩
  have HB2 := Lib.hid q2
  clear q2
  go_upto_block 0 with fail
  go_cut [23] (fun rs wx => rs = .bool true ∧ Below w.heap.size w wx)
  case first =>
    go_wp2_with fail
    go_loopg [27] sn (fun g a wr => ∃ i : Nat, i + g = sn ∧ i ≤ 6 ∧ a = .int .i64 i ∧ Below w.heap.size w wr)
    case atStart => exact ⟨0, by omega, by omega, rfl, HB2.out⟩
    case round =>
      obtain ⟨i, hig, hi6, rfl, hbw⟩ := hrel
      have HBW := Lib.hid hbw
      clear HB2
      by_cases hlt : i < sn
      · have hi1 : (i : Int) < (sn : Int) := by omega
        obtain ⟨ad, s1, xA, xn, xc, rfl, hxs1, hbs1, Ps1⟩ := LSN_at (Lay.rd_below HLS.out hbw) hlt
        have e0 := Ps1.c0
        have e1 := Ps1.c1
        have e2 := Ps1.c2
        have e3 := Ps1.c3
        have e4 := Ps1.c4
        have e5 := Ps1.c5
        have e6 := Ps1.c6
        by_cases hie : i = 6
        · have hi2 : ((i : Int) == 6) = true := by simp; omega
          clear hbw hxs1 hie hbs1 Ps1
          have HBE := Lib.hid (bl_al HBW.out (.cells #[.int .u32 s1.ses, .int .u64 s1.base, .slice xA xn xc, .int .u64 s1.sent, .int .u64 s1.lim, .int .i64 s1.timer, .bool s1.ended] 29))
          go_wp2_with fail
          go_meet
          exact ⟨rfl, HBE.out⟩
        · have hi2 : ((i : Int) == 6) = false := by simp; omega
          have hi7 : i < 6 := by omega
          have q5 := bl_al (Below.refl wr.heap.size wr) (.cells #[.int .u32 s1.ses, .int .u64 s1.base, .slice xA xn xc, .int .u64 s1.sent, .int .u64 s1.lim, .int .i64 s1.timer, .bool s1.ended] 29)
          have hX8 := Blk.new wr 29 #[.int .u32 s1.ses, .int .u64 s1.base, .slice xA xn xc, .int .u64 s1.sent, .int .u64 s1.lim, .int .i64 s1.timer, .bool s1.ended]
          obtain ⟨ad0, s0, yA, yn, yc, had, hxs0, hbs0, Ps0⟩ := LSN_at (Lay.rd_below (Lay.rd_below HLS.out hbw) q5) (show 0 < sn by omega)
          injection had with had
          subst had
          rw [show ad.add (0 * 7) = ad from by rw [Nat.zero_mul]; rfl] at Ps0 hbs0
          have HF0 := Lib.hid Ps0.c0
          have HF1 := Lib.hid Ps0.c1
          have HF2 := Lib.hid Ps0.c2
          have HF3 := Lib.hid Ps0.c3
          have HF4 := Lib.hid Ps0.c4
          have HF5 := Lib.hid Ps0.c5
          have HF6 := Lib.hid Ps0.c6
          have hfl := hbs0
          have hRX : LB3.rd (wr.alloc (.cells #[.int .u32 s1.ses, .int .u64 s1.base, .slice xA xn xc, .int .u64 s1.sent, .int .u64 s1.lim, .int .i64 s1.timer, .bool s1.ended] 29)) (fun b => b < (wr.alloc (.cells #[.int .u32 s1.ses, .int .u64 s1.base, .slice xA xn xc, .int .u64 s1.sent, .int .u64 s1.lim, .int .i64 s1.timer, .bool s1.ended] 29)).heap.size) xA xn s1.q := Lay.rd_weak (fun _ _ h => h) (Lay.rd_below Ps1.rd q5)
          have hRY : LB3.rd (wr.alloc (.cells #[.int .u32 s1.ses, .int .u64 s1.base, .slice xA xn xc, .int .u64 s1.sent, .int .u64 s1.lim, .int .i64 s1.timer, .bool s1.ended] 29)) (fun b => b < (wr.alloc (.cells #[.int .u32 s1.ses, .int .u64 s1.base, .slice xA xn xc, .int .u64 s1.sent, .int .u64 s1.lim, .int .i64 s1.timer, .bool s1.ended] 29)).heap.size) yA yn s0.q := Lay.rd_weak (fun _ _ h => h) Ps0.rd
          have HRX := Lib.hid hRX
          have HRY := Lib.hid hRY
          have hxm := And.intro Ps1.nc Ps1.cm
          have hym := And.intro Ps0.nc Ps0.cm
          have HP1 := Lib.hid (HPS.out s1 (List.mem_of_getElem? hxs1))
          clear hRX hRY
          obtain ⟨g8, hg8⟩ : ∃ g, g = wr.heap.size := ⟨_, rfl⟩
          have HX8 := Lib.hid hX8
          have HBW5 := Lib.hid (bl_ca HBW.out q5)
          clear hX8 q5 hbw hxs1 hbs1 Ps1 hxs0 Ps0 hbs0 hie
          go_upto_region 7 with fail
          clear e0 e1 e2 e3 e4 e5 e6
          generalize wr.alloc (.cells #[.int .u32 s1.ses, .int .u64 s1.base, .slice xA xn xc, .int .u64 s1.sent, .int .u64 s1.lim, .int .i64 s1.timer, .bool s1.ended] 29) = w5 at *
          rw [← hg8] at HX8 ⊢
          clear hg8
          refine wp_region_psF (F := fun a a' w' => ∃ g6 g7 uA un uc vA vn vc, a' = ((((((((a.put (some 34) (.agg #[.int .u32 s1.ses, .int .u64 s1.base, .slice xA xn xc, .int .u64 s1.sent, .int .u64 s1.lim, .int .i64 s1.timer, .bool s1.ended])).put (some 35) (.agg #[.int .u32 (senC s1).ses, .int .u64 (senC s1).base, .slice uA un uc, .int .u64 (senC s1).sent, .int .u64 (senC s1).lim, .int .i64 (senC s1).timer, .bool (senC s1).ended])).put (some 36) (.slice (some ad) sn sc)).put (some 37) (.pointer (some ad))).put (some 38) (.agg #[.int .u32 s0.ses, .int .u64 s0.base, .slice yA yn yc, .int .u64 s0.sent, .int .u64 s0.lim, .int .i64 s0.timer, .bool s0.ended])).put (some 39) (.agg #[.int .u32 (senC s0).ses, .int .u64 (senC s0).base, .slice vA vn vc, .int .u64 (senC s0).sent, .int .u64 (senC s0).lim, .int .i64 (senC s0).timer, .bool (senC s0).ended])).put (some 9) (.pointer (some ⟨g6, 0, none⟩))).put (some 10) (.pointer (some ⟨g7, 0, none⟩))) ∧ Blk w' g6 29 #[.int .u32 (senC s1).ses, .int .u64 (senC s1).base, .slice uA un uc, .int .u64 (senC s1).sent, .int .u64 (senC s1).lim, .int .i64 (senC s1).timer, .bool (senC s1).ended] ∧ Blk w' g7 29 #[.int .u32 (senC s0).ses, .int .u64 (senC s0).base, .slice vA vn vc, .int .u64 (senC s0).sent, .int .u64 (senC s0).lim, .int .i64 (senC s0).timer, .bool (senC s0).ended] ∧ (LB3.rd w' AllB uA un (senC s1).q ∧ LB3.rd w' AllB vA vn (senC s0).q) ∧ Below w5.heap.size w5 w' ∧ (un ≤ 9223372036854775807 ∧ vn ≤ 9223372036854775807)) (S := TwoS w5 1000 1 5 6 7 29 29 #[.int .u32 0, .int .u64 0, .slice none 0 0, .int .u64 0, .int .u64 0, .int .i64 0, .bool false] #[.int .u32 0, .int .u64 0, .slice none 0 0, .int .u64 0, .int .u64 0, .int .i64 0, .bool false] NoRes (LRes LSN (fun a => a = senC s1)) (LRes LSN (fun a => a = senC s0)) 8 9) (by kernel_rfl) ?spsw7q ?ppsw7q ?kpsw7q
          case spsw7q =>
            exact TwoS.start (by rfl) (.inr rfl)
          case ppsw7q =>
            refine Ps.step (i := 0) (d := some 34) (u := ?uw7q_1) rfl rfl (by kernel_rfl) (by kernel_rfl) (by kernel_rfl) (by kernel_rfl) ?yw7q_1 ?rw7q_1
            case yw7q_1 =>
              refine StepS.read [] (by kernel_rfl) (TwoS.pass (by decide)) (by rfl) (fun L9 m9 w9 hSh hAt hDn hS => ?_)
              have hT := TwoS.any hS
              have x0 : w9.cell? ⟨g8, 0, none⟩ = some (.int .u32 s1.ses) := (HX8.out.ca hT).cell 0
              have x1 : w9.cell? ⟨g8, 1, none⟩ = some (.int .u64 s1.base) := (HX8.out.ca hT).cell 1
              have x2 : w9.cell? ⟨g8, 2, none⟩ = some (.slice xA xn xc) := (HX8.out.ca hT).cell 2
              have x3 : w9.cell? ⟨g8, 3, none⟩ = some (.int .u64 s1.sent) := (HX8.out.ca hT).cell 3
              have x4 : w9.cell? ⟨g8, 4, none⟩ = some (.int .u64 s1.lim) := (HX8.out.ca hT).cell 4
              have x5 : w9.cell? ⟨g8, 5, none⟩ = some (.int .i64 s1.timer) := (HX8.out.ca hT).cell 5
              have x6 : w9.cell? ⟨g8, 6, none⟩ = some (.bool s1.ended) := (HX8.out.ca hT).cell 6
              clear hT hS
              go_simp
              try rfl
            try simp only [Act.put, List.setIfInBounds_toArray, List.set_cons_zero, List.set_cons_succ]
            refine Ps.step (i := 2) (d := some 36) (u := ?uw7q_2) rfl rfl (by kernel_rfl) (by kernel_rfl) (by kernel_rfl) (by kernel_rfl) ?yw7q_2 ?rw7q_2
            case yw7q_2 =>
              refine StepS.pure (TwoS.pass (by decide)) (by rfl) (fun w9 => ?_)
              go_simp
              try rfl
            try simp only [Act.put, List.setIfInBounds_toArray, List.set_cons_zero, List.set_cons_succ]
            refine Ps.step (i := 3) (d := some 37) (u := ?uw7q_3) rfl rfl (by kernel_rfl) (by kernel_rfl) (by kernel_rfl) (by kernel_rfl) ?yw7q_3 ?rw7q_3
            case yw7q_3 =>
              refine StepS.pure (TwoS.pass (by decide)) (by rfl) (fun w9 => ?_)
              have h8 : 0 < sn := by omega
              go_simp
              try rfl
            try simp only [Act.put, List.setIfInBounds_toArray, List.set_cons_zero, List.set_cons_succ]
            refine Ps.step (i := 4) (d := some 38) (u := ?uw7q_4) rfl rfl (by kernel_rfl) (by kernel_rfl) (by kernel_rfl) (by kernel_rfl) ?yw7q_4 ?rw7q_4
            case yw7q_4 =>
              refine StepS.read [] (by kernel_rfl) (TwoS.pass (by decide)) (by rfl) (fun L9 m9 w9 hSh hAt hDn hS => ?_)
              have hT := TwoS.any hS
              have k0 := cell_ca HF0.out hfl hT
              have k1 := cell_ca HF1.out hfl hT
              have k2 := cell_ca HF2.out hfl hT
              have k3 := cell_ca HF3.out hfl hT
              have k4 := cell_ca HF4.out hfl hT
              have k5 := cell_ca HF5.out hfl hT
              have k6 := cell_ca HF6.out hfl hT
              clear hT hS
              go_simp
              try rfl
            try simp only [Act.put, List.setIfInBounds_toArray, List.set_cons_zero, List.set_cons_succ]
            refine Ps.some3 (i := 1) (j := 6) (k := 7) (by kernel_rfl) ?tw7q_5_1 ?tw7q_5_6 ?tw7q_5_7
            case tw7q_5_1 =>
              refine Turns.mk (d := some 35) rfl rfl (TurnS.call (V := fun v => ∃ zA zn zc, v = .agg #[.int .u32 (senC s1).ses, .int .u64 (senC s1).base, .slice zA zn zc, .int .u64 (senC s1).sent, .int .u64 (senC s1).lim, .int .i64 (senC s1).timer, .bool (senC s1).ended]) ?fw7q_5_1 ?aw7q_5_1 [] (by kernel_rfl) (by rfl) (fun w9 => ?hw7q_5_1) (fun L9 m9 w9 hSh hAt hDn hS => ?cw7q_5_1)) (fun v1 hVv1 => ?rw7q_5_1)
              case hw7q_5_1 => go_simp; refine ⟨?_, ?_⟩ <;> rfl
              case cw7q_5_1 =>
                have hs1 := reach_no hSh (f := 10) (j := 8) (d := 1) (by kernel_rfl) hDn
                have hs2 := reach_no hSh (f := 10) (j := 9) (d := 1) (by kernel_rfl) hDn
                have hT := TwoS.any hS
                have hsz := hT.size
                refine (senderC_any (fun b => b < w5.heap.size) s1 xA xn xc w9 (Lay.rd_below HRX.out hT) hxm.1 hxm.2).mono ?_
                rintro e w8 ⟨zA, zn, zc, rfl, hr, h1, h2, q8⟩
                have rd : LB3.rd w8 (Av 6 7 m9) zA zn (senC s1).q := Lay.rd_weak (fun b hb _ => (hS.at0 hs1).avoid (.inr hb.1)) hr
                exact ⟨_, rfl, ⟨zA, zn, zc, rfl⟩, TwoS.call hS NoRes.res (LRes.res _ _) (LRes.res _ _) hs1 hs2 (by decide) q8 (fun e => absurd e (by decide)) (fun _ => ⟨senC s1, _, rfl, ⟨zA, zn, zc, rfl, h1, h2, rd⟩, rfl⟩) (fun e => absurd e (by decide))⟩
              try simp only [Act.put, List.setIfInBounds_toArray, List.set_cons_zero, List.set_cons_succ]
              obtain ⟨uA, un, uc, rfl⟩ := hVv1
              refine Ps.some3 (i := 5) (j := 6) (k := 7) (by kernel_rfl) ?tw7q_6_5 ?tw7q_6_6 ?tw7q_6_7
              case tw7q_6_5 =>
                refine Turns.mk (d := some 39) rfl rfl (TurnS.call (V := fun v => ∃ zA zn zc, v = .agg #[.int .u32 (senC s0).ses, .int .u64 (senC s0).base, .slice zA zn zc, .int .u64 (senC s0).sent, .int .u64 (senC s0).lim, .int .i64 (senC s0).timer, .bool (senC s0).ended]) ?fw7q_6_5 ?aw7q_6_5 [] (by kernel_rfl) (by rfl) (fun w9 => ?hw7q_6_5) (fun L9 m9 w9 hSh hAt hDn hS => ?cw7q_6_5)) (fun v5 hVv5 => ?rw7q_6_5)
                case hw7q_6_5 => go_simp; refine ⟨?_, ?_⟩ <;> rfl
                case cw7q_6_5 =>
                  have hs1 := reach_no hSh (f := 10) (j := 8) (d := 5) (by kernel_rfl) hDn
                  have hs2 := reach_no hSh (f := 10) (j := 9) (d := 5) (by kernel_rfl) hDn
                  have hT := TwoS.any hS
                  have hsz := hT.size
                  refine (senderC_any (fun b => b < w5.heap.size) s0 yA yn yc w9 (Lay.rd_below HRY.out hT) hym.1 hym.2).mono ?_
                  rintro e w8 ⟨zA, zn, zc, rfl, hr, h1, h2, q8⟩
                  have rd : LB3.rd w8 (Av 6 7 m9) zA zn (senC s0).q := Lay.rd_weak (fun b hb _ => (hS.at0 hs1).avoid (.inr hb.1)) hr
                  exact ⟨_, rfl, ⟨zA, zn, zc, rfl⟩, TwoS.call hS NoRes.res (LRes.res _ _) (LRes.res _ _) hs1 hs2 (by decide) q8 (fun e => absurd e (by decide)) (fun e => absurd e (by decide)) (fun _ => ⟨senC s0, _, rfl, ⟨zA, zn, zc, rfl, h1, h2, rd⟩, rfl⟩)⟩
                try simp only [Act.put, List.setIfInBounds_toArray, List.set_cons_zero, List.set_cons_succ]
                obtain ⟨vA, vn, vc, rfl⟩ := hVv5
                refine Ps.some2 (i := 6) (j := 7) (by kernel_rfl) ?tw7q_7_6 ?tw7q_7_7
                case tw7q_7_6 =>
                  refine Turns.mk (d := some 9) rfl rfl (TurnS.value (V := fun v => ∃ g, v = .pointer (some ⟨g, 0, none⟩)) [] (by kernel_rfl) (by rfl) (fun L9 m9 w9 hSh hAt hDn hS => ?cw7q_7_6)) (fun v6 hVv6 => ?rw7q_7_6)
                  case cw7q_7_6 =>
                    have hs1 := reach_no hSh (f := 10) (j := 8) (d := 6) (by kernel_rfl) hDn
                    have hs2 := reach_no hSh (f := 10) (j := 9) (d := 6) (by kernel_rfl) hDn
                    refine ⟨.pointer (some ⟨w9.heap.size, 0, none⟩), w9.alloc (.cells #[.int .u32 0, .int .u64 0, .slice none 0 0, .int .u64 0, .int .u64 0, .int .i64 0, .bool false] 29), ?_, ⟨_, rfl⟩, TwoS.make1 hS NoRes.res (LRes.res _ _) (LRes.res _ _) hs1 hs2 (by decide)⟩
                    clear hS
                    go_simp
                    try rfl
                  try simp only [Act.put, List.setIfInBounds_toArray, List.set_cons_zero, List.set_cons_succ]
                  obtain ⟨g6, rfl⟩ := hVv6
                  refine Ps.some1 (i := 7) (by kernel_rfl) ?tw7q_8_7
                  case tw7q_8_7 =>
                    refine Turns.mk (d := some 10) rfl rfl (TurnS.value (V := fun v => ∃ g, v = .pointer (some ⟨g, 0, none⟩)) [] (by kernel_rfl) (by rfl) (fun L9 m9 w9 hSh hAt hDn hS => ?cw7q_8_7)) (fun v7 hVv7 => ?rw7q_8_7)
                    case cw7q_8_7 =>
                      have hs1 := reach_no hSh (f := 10) (j := 8) (d := 7) (by kernel_rfl) hDn
                      have hs2 := reach_no hSh (f := 10) (j := 9) (d := 7) (by kernel_rfl) hDn
                      refine ⟨.pointer (some ⟨w9.heap.size, 0, none⟩), w9.alloc (.cells #[.int .u32 0, .int .u64 0, .slice none 0 0, .int .u64 0, .int .u64 0, .int .i64 0, .bool false] 29), ?_, ⟨_, rfl⟩, TwoS.make2 hS NoRes.res (LRes.res _ _) (LRes.res _ _) hs1 hs2 (by decide)⟩
                      clear hS
                      go_simp
                      try rfl
                    try simp only [Act.put, List.setIfInBounds_toArray, List.set_cons_zero, List.set_cons_succ]
                    obtain ⟨g7, rfl⟩ := hVv7
                    refine Ps.step (i := 8) (d := none) (u := undef) rfl rfl (by kernel_rfl) (by kernel_rfl) (by kernel_rfl) (by kernel_rfl) ?yw7q_9 ?rw7q_9
                    case yw7q_9 =>
                      refine StepS.store [1, 5, 6, 7] (by kernel_rfl) (by rfl) (fun L9 m9 w9 hSh hAt hDn hS => ?_)
                      have hs2 := reach_no hSh (f := 10) (j := 9) (d := 8) (by kernel_rfl) hDn
                      obtain ⟨p1, p2, hB⟩ := TwoS.ready1 hS hDn (hAt 6 (by simp)).1 (hAt 7 (by simp)).1 (hAt 1 (by simp)).1 (hAt 5 (by simp)).1
                      obtain rfl : g6 = p1 := pt_inj ((hAt 6 (by simp)).2.symm.trans hB.e1)
                      refine (exec_store_blk (w := w9) 29 (.tmp 9) (.tmp 35) (by rfl) g6 29 #[.int .u32 0, .int .u64 0, .slice none 0 0, .int .u64 0, .int .u64 0, .int .i64 0, .bool false] #[.int .u32 (senC s1).ses, .int .u64 (senC s1).base, .slice uA un uc, .int .u64 (senC s1).sent, .int .u64 (senC s1).lim, .int .i64 (senC s1).timer, .bool (senC s1).ended] (by rfl) (by rfl) hB.b1 rfl senderI (by simp [Value.oneCell'])).imp fun w7 hx => ⟨hx.1, TwoS.set1 hs2 (by decide) (hAt 1 (by simp)).2 (hB.store1 (LRes.res _ _) (LRes.res _ _) hx.2.1 hx.2.2)⟩
                    try simp only [Act.put]
                    refine Ps.step (i := 9) (d := none) (u := undef) rfl rfl (by kernel_rfl) (by kernel_rfl) (by kernel_rfl) (by kernel_rfl) ?yw7q_10 ?rw7q_10
                    case yw7q_10 =>
                      refine StepS.store [1, 5, 6, 7, 8] (by kernel_rfl) (by rfl) (fun L9 m9 w9 hSh hAt hDn hS => ?_)
                      obtain ⟨p1, p2, cc, hk, hB⟩ := TwoS.at1 hS (hAt 8 (by simp)).1 hDn
                      obtain rfl : g7 = p2 := pt_inj ((hAt 7 (by simp)).2.symm.trans hB.e2)
                      refine (exec_store_blk (w := w9) 29 (.tmp 10) (.tmp 39) (by rfl) g7 29 #[.int .u32 0, .int .u64 0, .slice none 0 0, .int .u64 0, .int .u64 0, .int .i64 0, .bool false] #[.int .u32 (senC s0).ses, .int .u64 (senC s0).base, .slice vA vn vc, .int .u64 (senC s0).sent, .int .u64 (senC s0).lim, .int .i64 (senC s0).timer, .bool (senC s0).ended] (by rfl) (by rfl) hB.b2 rfl senderI (by simp [Value.oneCell'])).imp fun w7 hx => ⟨hx.1, TwoS.set2 (by decide) (hAt 8 (by simp)).1 hk (hAt 5 (by simp)).2 (hB.store2 (LRes.res _ _) (LRes.res _ _) hx.2.1 hx.2.2)⟩
                    try simp only [Act.put]
                    refine Ps.done (by kernel_rfl) (fun w7q hS => ?_) _
                    obtain ⟨p1, p2, d1, d2, hk1, hk2, hB⟩ := TwoS.fin hS (by rfl)
                    clear hS
                    obtain rfl : g6 = p1 := pt_inj hB.e1
                    obtain rfl : g7 = p2 := pt_inj hB.e2
                    have hk1 : Value.agg #[.int .u32 (senC s1).ses, .int .u64 (senC s1).base, .slice uA un uc, .int .u64 (senC s1).sent, .int .u64 (senC s1).lim, .int .i64 (senC s1).timer, .bool (senC s1).ended] = .agg d1 := hk1
                    have hk2 : Value.agg #[.int .u32 (senC s0).ses, .int .u64 (senC s0).base, .slice vA vn vc, .int .u64 (senC s0).sent, .int .u64 (senC s0).lim, .int .i64 (senC s0).timer, .bool (senC s0).ended] = .agg d2 := hk2
                    injection hk1 with hk1
                    injection hk2 with hk2
                    subst hk1 hk2
                    refine ⟨g6, g7, uA, un, uc, vA, vn, vc, ?_, hB.b1, hB.b2, ⟨res_rdS hB.r1, res_rdS hB.r2⟩, hB.bel, ⟨res_capS hB.r1, res_capS hB.r2⟩⟩
                    simp only
                case tw7q_7_7 =>
                  refine Turns.mk (d := some 10) rfl rfl (TurnS.value (V := fun v => ∃ g, v = .pointer (some ⟨g, 0, none⟩)) [] (by kernel_rfl) (by rfl) (fun L9 m9 w9 hSh hAt hDn hS => ?cw7q_7_7)) (fun v7 hVv7 => ?rw7q_7_7)
                  case cw7q_7_7 =>
                    have hs1 := reach_no hSh (f := 10) (j := 8) (d := 7) (by kernel_rfl) hDn
                    have hs2 := reach_no hSh (f := 10) (j := 9) (d := 7) (by kernel_rfl) hDn
                    refine ⟨.pointer (some ⟨w9.heap.size, 0, none⟩), w9.alloc (.cells #[.int .u32 0, .int .u64 0, .slice none 0 0, .int .u64 0, .int .u64 0, .int .i64 0, .bool false] 29), ?_, ⟨_, rfl⟩, TwoS.make2 hS NoRes.res (LRes.res _ _) (LRes.res _ _) hs1 hs2 (by decide)⟩
                    clear hS
                    go_simp
                    try rfl
                  try simp only [Act.put, List.setIfInBounds_toArray, List.set_cons_zero, List.set_cons_succ]
                  obtain ⟨g7, rfl⟩ := hVv7
                  refine Ps.some1 (i := 6) (by kernel_rfl) ?tw7q_11_6
                  case tw7q_11_6 =>
                    refine Turns.mk (d := some 9) rfl rfl (TurnS.value (V := fun v => ∃ g, v = .pointer (some ⟨g, 0, none⟩)) [] (by kernel_rfl) (by rfl) (fun L9 m9 w9 hSh hAt hDn hS => ?cw7q_11_6)) (fun v6 hVv6 => ?rw7q_11_6)
                    case cw7q_11_6 =>
                      have hs1 := reach_no hSh (f := 10) (j := 8) (d := 6) (by kernel_rfl) hDn
                      have hs2 := reach_no hSh (f := 10) (j := 9) (d := 6) (by kernel_rfl) hDn
                      refine ⟨.pointer (some ⟨w9.heap.size, 0, none⟩), w9.alloc (.cells #[.int .u32 0, .int .u64 0, .slice none 0 0, .int .u64 0, .int .u64 0, .int .i64 0, .bool false] 29), ?_, ⟨_, rfl⟩, TwoS.make1 hS NoRes.res (LRes.res _ _) (LRes.res _ _) hs1 hs2 (by decide)⟩
                      clear hS
                      go_simp
                      try rfl
                    try simp only [Act.put, List.setIfInBounds_toArray, List.set_cons_zero, List.set_cons_succ]
                    obtain ⟨g6, rfl⟩ := hVv6
                    refine Ps.step (i := 8) (d := none) (u := undef) rfl rfl (by kernel_rfl) (by kernel_rfl) (by kernel_rfl) (by kernel_rfl) ?yw7q_12 ?rw7q_12
                    case yw7q_12 =>
                      refine StepS.store [1, 5, 6, 7] (by kernel_rfl) (by rfl) (fun L9 m9 w9 hSh hAt hDn hS => ?_)
                      have hs2 := reach_no hSh (f := 10) (j := 9) (d := 8) (by kernel_rfl) hDn
                      obtain ⟨p1, p2, hB⟩ := TwoS.ready1 hS hDn (hAt 6 (by simp)).1 (hAt 7 (by simp)).1 (hAt 1 (by simp)).1 (hAt 5 (by simp)).1
                      obtain rfl : g6 = p1 := pt_inj ((hAt 6 (by simp)).2.symm.trans hB.e1)
                      refine (exec_store_blk (w := w9) 29 (.tmp 9) (.tmp 35) (by rfl) g6 29 #[.int .u32 0, .int .u64 0, .slice none 0 0, .int .u64 0, .int .u64 0, .int .i64 0, .bool false] #[.int .u32 (senC s1).ses, .int .u64 (senC s1).base, .slice uA un uc, .int .u64 (senC s1).sent, .int .u64 (senC s1).lim, .int .i64 (senC s1).timer, .bool (senC s1).ended] (by rfl) (by rfl) hB.b1 rfl senderI (by simp [Value.oneCell'])).imp fun w7 hx => ⟨hx.1, TwoS.set1 hs2 (by decide) (hAt 1 (by simp)).2 (hB.store1 (LRes.res _ _) (LRes.res _ _) hx.2.1 hx.2.2)⟩
                    try simp only [Act.put]
                    refine Ps.step (i := 9) (d := none) (u := undef) rfl rfl (by kernel_rfl) (by kernel_rfl) (by kernel_rfl) (by kernel_rfl) ?yw7q_13 ?rw7q_13
                    case yw7q_13 =>
                      refine StepS.store [1, 5, 6, 7, 8] (by kernel_rfl) (by rfl) (fun L9 m9 w9 hSh hAt hDn hS => ?_)
                      obtain ⟨p1, p2, cc, hk, hB⟩ := TwoS.at1 hS (hAt 8 (by simp)).1 hDn
                      obtain rfl : g7 = p2 := pt_inj ((hAt 7 (by simp)).2.symm.trans hB.e2)
                      refine (exec_store_blk (w := w9) 29 (.tmp 10) (.tmp 39) (by rfl) g7 29 #[.int .u32 0, .int .u64 0, .slice none 0 0, .int .u64 0, .int .u64 0, .int .i64 0, .bool false] #[.int .u32 (senC s0).ses, .int .u64 (senC s0).base, .slice vA vn vc, .int .u64 (senC s0).sent, .int .u64 (senC s0).lim, .int .i64 (senC s0).timer, .bool (senC s0).ended] (by rfl) (by rfl) hB.b2 rfl senderI (by simp [Value.oneCell'])).imp fun w7 hx => ⟨hx.1, TwoS.set2 (by decide) (hAt 8 (by simp)).1 hk (hAt 5 (by simp)).2 (hB.store2 (LRes.res _ _) (LRes.res _ _) hx.2.1 hx.2.2)⟩
                    try simp only [Act.put]
                    refine Ps.done (by kernel_rfl) (fun w7q hS => ?_) _
                    obtain ⟨p1, p2, d1, d2, hk1, hk2, hB⟩ := TwoS.fin hS (by rfl)
                    clear hS
                    obtain rfl : g6 = p1 := pt_inj hB.e1
                    obtain rfl : g7 = p2 := pt_inj hB.e2
                    have hk1 : Value.agg #[.int .u32 (senC s1).ses, .int .u64 (senC s1).base, .slice uA un uc, .int .u64 (senC s1).sent, .int .u64 (senC s1).lim, .int .i64 (senC s1).timer, .bool (senC s1).ended] = .agg d1 := hk1
                    have hk2 : Value.agg #[.int .u32 (senC s0).ses, .int .u64 (senC s0).base, .slice vA vn vc, .int .u64 (senC s0).sent, .int .u64 (senC s0).lim, .int .i64 (senC s0).timer, .bool (senC s0).ended] = .agg d2 := hk2
                    injection hk1 with hk1
                    injection hk2 with hk2
                    subst hk1 hk2
                    refine ⟨g6, g7, uA, un, uc, vA, vn, vc, ?_, hB.b1, hB.b2, ⟨res_rdS hB.r1, res_rdS hB.r2⟩, hB.bel, ⟨res_capS hB.r1, res_capS hB.r2⟩⟩
                    simp only
              case tw7q_6_6 =>
                refine Turns.mk (d := some 9) rfl rfl (TurnS.value (V := fun v => ∃ g, v = .pointer (some ⟨g, 0, none⟩)) [] (by kernel_rfl) (by rfl) (fun L9 m9 w9 hSh hAt hDn hS => ?cw7q_6_6)) (fun v6 hVv6 => ?rw7q_6_6)
                case cw7q_6_6 =>
                  have hs1 := reach_no hSh (f := 10) (j := 8) (d := 6) (by kernel_rfl) hDn
                  have hs2 := reach_no hSh (f := 10) (j := 9) (d := 6) (by kernel_rfl) hDn
                  refine ⟨.pointer (some ⟨w9.heap.size, 0, none⟩), w9.alloc (.cells #[.int .u32 0, .int .u64 0, .slice none 0 0, .int .u64 0, .int .u64 0, .int .i64 0, .bool false] 29), ?_, ⟨_, rfl⟩, TwoS.make1 hS NoRes.res (LRes.res _ _) (LRes.res _ _) hs1 hs2 (by decide)⟩
                  clear hS
                  go_simp
                  try rfl
                try simp only [Act.put, List.setIfInBounds_toArray, List.set_cons_zero, List.set_cons_succ]
                obtain ⟨g6, rfl⟩ := hVv6
                refine Ps.some2 (i := 5) (j := 7) (by kernel_rfl) ?tw7q_14_5 ?tw7q_14_7
                case tw7q_14_5 =>
                  refine Turns.mk (d := some 39) rfl rfl (TurnS.call (V := fun v => ∃ zA zn zc, v = .agg #[.int .u32 (senC s0).ses, .int .u64 (senC s0).base, .slice zA zn zc, .int .u64 (senC s0).sent, .int .u64 (senC s0).lim, .int .i64 (senC s0).timer, .bool (senC s0).ended]) ?fw7q_14_5 ?aw7q_14_5 [] (by kernel_rfl) (by rfl) (fun w9 => ?hw7q_14_5) (fun L9 m9 w9 hSh hAt hDn hS => ?cw7q_14_5)) (fun v5 hVv5 => ?rw7q_14_5)
                  case hw7q_14_5 => go_simp; refine ⟨?_, ?_⟩ <;> rfl
                  case cw7q_14_5 =>
                    have hs1 := reach_no hSh (f := 10) (j := 8) (d := 5) (by kernel_rfl) hDn
                    have hs2 := reach_no hSh (f := 10) (j := 9) (d := 5) (by kernel_rfl) hDn
                    have hT := TwoS.any hS
                    have hsz := hT.size
                    refine (senderC_any (fun b => b < w5.heap.size) s0 yA yn yc w9 (Lay.rd_below HRY.out hT) hym.1 hym.2).mono ?_
                    rintro e w8 ⟨zA, zn, zc, rfl, hr, h1, h2, q8⟩
                    have rd : LB3.rd w8 (Av 6 7 m9) zA zn (senC s0).q := Lay.rd_weak (fun b hb _ => (hS.at0 hs1).avoid (.inr hb.1)) hr
                    exact ⟨_, rfl, ⟨zA, zn, zc, rfl⟩, TwoS.call hS NoRes.res (LRes.res _ _) (LRes.res _ _) hs1 hs2 (by decide) q8 (fun e => absurd e (by decide)) (fun e => absurd e (by decide)) (fun _ => ⟨senC s0, _, rfl, ⟨zA, zn, zc, rfl, h1, h2, rd⟩, rfl⟩)⟩
                  try simp only [Act.put, List.setIfInBounds_toArray, List.set_cons_zero, List.set_cons_succ]
                  obtain ⟨vA, vn, vc, rfl⟩ := hVv5
                  refine Ps.some1 (i := 7) (by kernel_rfl) ?tw7q_15_7
                  case tw7q_15_7 =>
                    refine Turns.mk (d := some 10) rfl rfl (TurnS.value (V := fun v => ∃ g, v = .pointer (some ⟨g, 0, none⟩)) [] (by kernel_rfl) (by rfl) (fun L9 m9 w9 hSh hAt hDn hS => ?cw7q_15_7)) (fun v7 hVv7 => ?rw7q_15_7)
                    case cw7q_15_7 =>
                      have hs1 := reach_no hSh (f := 10) (j := 8) (d := 7) (by kernel_rfl) hDn
                      have hs2 := reach_no hSh (f := 10) (j := 9) (d := 7) (by kernel_rfl) hDn
                      refine ⟨.pointer (some ⟨w9.heap.size, 0, none⟩), w9.alloc (.cells #[.int .u32 0, .int .u64 0, .slice none 0 0, .int .u64 0, .int .u64 0, .int .i64 0, .bool false] 29), ?_, ⟨_, rfl⟩, TwoS.make2 hS NoRes.res (LRes.res _ _) (LRes.res _ _) hs1 hs2 (by decide)⟩
                      clear hS
                      go_simp
                      try rfl
                    try simp only [Act.put, List.setIfInBounds_toArray, List.set_cons_zero, List.set_cons_succ]
                    obtain ⟨g7, rfl⟩ := hVv7
                    refine Ps.step (i := 8) (d := none) (u := undef) rfl rfl (by kernel_rfl) (by kernel_rfl) (by kernel_rfl) (by kernel_rfl) ?yw7q_16 ?rw7q_16
                    case yw7q_16 =>
                      refine StepS.store [1, 5, 6, 7] (by kernel_rfl) (by rfl) (fun L9 m9 w9 hSh hAt hDn hS => ?_)
                      have hs2 := reach_no hSh (f := 10) (j := 9) (d := 8) (by kernel_rfl) hDn
                      obtain ⟨p1, p2, hB⟩ := TwoS.ready1 hS hDn (hAt 6 (by simp)).1 (hAt 7 (by simp)).1 (hAt 1 (by simp)).1 (hAt 5 (by simp)).1
                      obtain rfl : g6 = p1 := pt_inj ((hAt 6 (by simp)).2.symm.trans hB.e1)
                      refine (exec_store_blk (w := w9) 29 (.tmp 9) (.tmp 35) (by rfl) g6 29 #[.int .u32 0, .int .u64 0, .slice none 0 0, .int .u64 0, .int .u64 0, .int .i64 0, .bool false] #[.int .u32 (senC s1).ses, .int .u64 (senC s1).base, .slice uA un uc, .int .u64 (senC s1).sent, .int .u64 (senC s1).lim, .int .i64 (senC s1).timer, .bool (senC s1).ended] (by rfl) (by rfl) hB.b1 rfl senderI (by simp [Value.oneCell'])).imp fun w7 hx => ⟨hx.1, TwoS.set1 hs2 (by decide) (hAt 1 (by simp)).2 (hB.store1 (LRes.res _ _) (LRes.res _ _) hx.2.1 hx.2.2)⟩
                    try simp only [Act.put]
                    refine Ps.step (i := 9) (d := none) (u := undef) rfl rfl (by kernel_rfl) (by kernel_rfl) (by kernel_rfl) (by kernel_rfl) ?yw7q_17 ?rw7q_17
                    case yw7q_17 =>
                      refine StepS.store [1, 5, 6, 7, 8] (by kernel_rfl) (by rfl) (fun L9 m9 w9 hSh hAt hDn hS => ?_)
                      obtain ⟨p1, p2, cc, hk, hB⟩ := TwoS.at1 hS (hAt 8 (by simp)).1 hDn
                      obtain rfl : g7 = p2 := pt_inj ((hAt 7 (by simp)).2.symm.trans hB.e2)
                      refine (exec_store_blk (w := w9) 29 (.tmp 10) (.tmp 39) (by rfl) g7 29 #[.int .u32 0, .int .u64 0, .slice none 0 0, .int .u64 0, .int .u64 0, .int .i64 0, .bool false] #[.int .u32 (senC s0).ses, .int .u64 (senC s0).base, .slice vA vn vc, .int .u64 (senC s0).sent, .int .u64 (senC s0).lim, .int .i64 (senC s0).timer, .bool (senC s0).ended] (by rfl) (by rfl) hB.b2 rfl senderI (by simp [Value.oneCell'])).imp fun w7 hx => ⟨hx.1, TwoS.set2 (by decide) (hAt 8 (by simp)).1 hk (hAt 5 (by simp)).2 (hB.store2 (LRes.res _ _) (LRes.res _ _) hx.2.1 hx.2.2)⟩
                    try simp only [Act.put]
                    refine Ps.done (by kernel_rfl) (fun w7q hS => ?_) _
                    obtain ⟨p1, p2, d1, d2, hk1, hk2, hB⟩ := TwoS.fin hS (by rfl)
                    clear hS
                    obtain rfl : g6 = p1 := pt_inj hB.e1
                    obtain rfl : g7 = p2 := pt_inj hB.e2
                    have hk1 : Value.agg #[.int .u32 (senC s1).ses, .int .u64 (senC s1).base, .slice uA un uc, .int .u64 (senC s1).sent, .int .u64 (senC s1).lim, .int .i64 (senC s1).timer, .bool (senC s1).ended] = .agg d1 := hk1
                    have hk2 : Value.agg #[.int .u32 (senC s0).ses, .int .u64 (senC s0).base, .slice vA vn vc, .int .u64 (senC s0).sent, .int .u64 (senC s0).lim, .int .i64 (senC s0).timer, .bool (senC s0).ended] = .agg d2 := hk2
                    injection hk1 with hk1
                    injection hk2 with hk2
                    subst hk1 hk2
                    refine ⟨g6, g7, uA, un, uc, vA, vn, vc, ?_, hB.b1, hB.b2, ⟨res_rdS hB.r1, res_rdS hB.r2⟩, hB.bel, ⟨res_capS hB.r1, res_capS hB.r2⟩⟩
                    simp only
                case tw7q_14_7 =>
                  refine Turns.mk (d := some 10) rfl rfl (TurnS.value (V := fun v => ∃ g, v = .pointer (some ⟨g, 0, none⟩)) [] (by kernel_rfl) (by rfl) (fun L9 m9 w9 hSh hAt hDn hS => ?cw7q_14_7)) (fun v7 hVv7 => ?rw7q_14_7)
                  case cw7q_14_7 =>
                    have hs1 := reach_no hSh (f := 10) (j := 8) (d := 7) (by kernel_rfl) hDn
                    have hs2 := reach_no hSh (f := 10) (j := 9) (d := 7) (by kernel_rfl) hDn
                    refine ⟨.pointer (some ⟨w9.heap.size, 0, none⟩), w9.alloc (.cells #[.int .u32 0, .int .u64 0, .slice none 0 0, .int .u64 0, .int .u64 0, .int .i64 0, .bool false] 29), ?_, ⟨_, rfl⟩, TwoS.make2 hS NoRes.res (LRes.res _ _) (LRes.res _ _) hs1 hs2 (by decide)⟩
                    clear hS
                    go_simp
                    try rfl
                  try simp only [Act.put, List.setIfInBounds_toArray, List.set_cons_zero, List.set_cons_succ]
                  obtain ⟨g7, rfl⟩ := hVv7
                  refine Ps.some1 (i := 5) (by kernel_rfl) ?tw7q_18_5
                  case tw7q_18_5 =>
                    refine Turns.mk (d := some 39) rfl rfl (TurnS.call (V := fun v => ∃ zA zn zc, v = .agg #[.int .u32 (senC s0).ses, .int .u64 (senC s0).base, .slice zA zn zc, .int .u64 (senC s0).sent, .int .u64 (senC s0).lim, .int .i64 (senC s0).timer, .bool (senC s0).ended]) ?fw7q_18_5 ?aw7q_18_5 [] (by kernel_rfl) (by rfl) (fun w9 => ?hw7q_18_5) (fun L9 m9 w9 hSh hAt hDn hS => ?cw7q_18_5)) (fun v5 hVv5 => ?rw7q_18_5)
                    case hw7q_18_5 => go_simp; refine ⟨?_, ?_⟩ <;> rfl
                    case cw7q_18_5 =>
                      have hs1 := reach_no hSh (f := 10) (j := 8) (d := 5) (by kernel_rfl) hDn
                      have hs2 := reach_no hSh (f := 10) (j := 9) (d := 5) (by kernel_rfl) hDn
                      have hT := TwoS.any hS
                      have hsz := hT.size
                      refine (senderC_any (fun b => b < w5.heap.size) s0 yA yn yc w9 (Lay.rd_below HRY.out hT) hym.1 hym.2).mono ?_
                      rintro e w8 ⟨zA, zn, zc, rfl, hr, h1, h2, q8⟩
                      have rd : LB3.rd w8 (Av 6 7 m9) zA zn (senC s0).q := Lay.rd_weak (fun b hb _ => (hS.at0 hs1).avoid (.inr hb.1)) hr
                      exact ⟨_, rfl, ⟨zA, zn, zc, rfl⟩, TwoS.call hS NoRes.res (LRes.res _ _) (LRes.res _ _) hs1 hs2 (by decide) q8 (fun e => absurd e (by decide)) (fun e => absurd e (by decide)) (fun _ => ⟨senC s0, _, rfl, ⟨zA, zn, zc, rfl, h1, h2, rd⟩, rfl⟩)⟩
                    try simp only [Act.put, List.setIfInBounds_toArray, List.set_cons_zero, List.set_cons_succ]
                    obtain ⟨vA, vn, vc, rfl⟩ := hVv5
                    refine Ps.step (i := 8) (d := none) (u := undef) rfl rfl (by kernel_rfl) (by kernel_rfl) (by kernel_rfl) (by kernel_rfl) ?yw7q_19 ?rw7q_19
                    case yw7q_19 =>
                      refine StepS.store [1, 5, 6, 7] (by kernel_rfl) (by rfl) (fun L9 m9 w9 hSh hAt hDn hS => ?_)
                      have hs2 := reach_no hSh (f := 10) (j := 9) (d := 8) (by kernel_rfl) hDn
                      obtain ⟨p1, p2, hB⟩ := TwoS.ready1 hS hDn (hAt 6 (by simp)).1 (hAt 7 (by simp)).1 (hAt 1 (by simp)).1 (hAt 5 (by simp)).1
                      obtain rfl : g6 = p1 := pt_inj ((hAt 6 (by simp)).2.symm.trans hB.e1)
                      refine (exec_store_blk (w := w9) 29 (.tmp 9) (.tmp 35) (by rfl) g6 29 #[.int .u32 0, .int .u64 0, .slice none 0 0, .int .u64 0, .int .u64 0, .int .i64 0, .bool false] #[.int .u32 (senC s1).ses, .int .u64 (senC s1).base, .slice uA un uc, .int .u64 (senC s1).sent, .int .u64 (senC s1).lim, .int .i64 (senC s1).timer, .bool (senC s1).ended] (by rfl) (by rfl) hB.b1 rfl senderI (by simp [Value.oneCell'])).imp fun w7 hx => ⟨hx.1, TwoS.set1 hs2 (by decide) (hAt 1 (by simp)).2 (hB.store1 (LRes.res _ _) (LRes.res _ _) hx.2.1 hx.2.2)⟩
                    try simp only [Act.put]
                    refine Ps.step (i := 9) (d := none) (u := undef) rfl rfl (by kernel_rfl) (by kernel_rfl) (by kernel_rfl) (by kernel_rfl) ?yw7q_20 ?rw7q_20
                    case yw7q_20 =>
                      refine StepS.store [1, 5, 6, 7, 8] (by kernel_rfl) (by rfl) (fun L9 m9 w9 hSh hAt hDn hS => ?_)
                      obtain ⟨p1, p2, cc, hk, hB⟩ := TwoS.at1 hS (hAt 8 (by simp)).1 hDn
                      obtain rfl : g7 = p2 := pt_inj ((hAt 7 (by simp)).2.symm.trans hB.e2)
                      refine (exec_store_blk (w := w9) 29 (.tmp 10) (.tmp 39) (by rfl) g7 29 #[.int .u32 0, .int .u64 0, .slice none 0 0, .int .u64 0, .int .u64 0, .int .i64 0, .bool false] #[.int .u32 (senC s0).ses, .int .u64 (senC s0).base, .slice vA vn vc, .int .u64 (senC s0).sent, .int .u64 (senC s0).lim, .int .i64 (senC s0).timer, .bool (senC s0).ended] (by rfl) (by rfl) hB.b2 rfl senderI (by simp [Value.oneCell'])).imp fun w7 hx => ⟨hx.1, TwoS.set2 (by decide) (hAt 8 (by simp)).1 hk (hAt 5 (by simp)).2 (hB.store2 (LRes.res _ _) (LRes.res _ _) hx.2.1 hx.2.2)⟩
                    try simp only [Act.put]
                    refine Ps.done (by kernel_rfl) (fun w7q hS => ?_) _
                    obtain ⟨p1, p2, d1, d2, hk1, hk2, hB⟩ := TwoS.fin hS (by rfl)
                    clear hS
                    obtain rfl : g6 = p1 := pt_inj hB.e1
                    obtain rfl : g7 = p2 := pt_inj hB.e2
                    have hk1 : Value.agg #[.int .u32 (senC s1).ses, .int .u64 (senC s1).base, .slice uA un uc, .int .u64 (senC s1).sent, .int .u64 (senC s1).lim, .int .i64 (senC s1).timer, .bool (senC s1).ended] = .agg d1 := hk1
                    have hk2 : Value.agg #[.int .u32 (senC s0).ses, .int .u64 (senC s0).base, .slice vA vn vc, .int .u64 (senC s0).sent, .int .u64 (senC s0).lim, .int .i64 (senC s0).timer, .bool (senC s0).ended] = .agg d2 := hk2
                    injection hk1 with hk1
                    injection hk2 with hk2
                    subst hk1 hk2
                    refine ⟨g6, g7, uA, un, uc, vA, vn, vc, ?_, hB.b1, hB.b2, ⟨res_rdS hB.r1, res_rdS hB.r2⟩, hB.bel, ⟨res_capS hB.r1, res_capS hB.r2⟩⟩
                    simp only
              case tw7q_6_7 =>
                refine Turns.mk (d := some 10) rfl rfl (TurnS.value (V := fun v => ∃ g, v = .pointer (some ⟨g, 0, none⟩)) [] (by kernel_rfl) (by rfl) (fun L9 m9 w9 hSh hAt hDn hS => ?cw7q_6_7)) (fun v7 hVv7 => ?rw7q_6_7)
                case cw7q_6_7 =>
                  have hs1 := reach_no hSh (f := 10) (j := 8) (d := 7) (by kernel_rfl) hDn
                  have hs2 := reach_no hSh (f := 10) (j := 9) (d := 7) (by kernel_rfl) hDn
                  refine ⟨.pointer (some ⟨w9.heap.size, 0, none⟩), w9.alloc (.cells #[.int .u32 0, .int .u64 0, .slice none 0 0, .int .u64 0, .int .u64 0, .int .i64 0, .bool false] 29), ?_, ⟨_, rfl⟩, TwoS.make2 hS NoRes.res (LRes.res _ _) (LRes.res _ _) hs1 hs2 (by decide)⟩
                  clear hS
                  go_simp
                  try rfl
                try simp only [Act.put, List.setIfInBounds_toArray, List.set_cons_zero, List.set_cons_succ]
                obtain ⟨g7, rfl⟩ := hVv7
                refine Ps.some2 (i := 5) (j := 6) (by kernel_rfl) ?tw7q_21_5 ?tw7q_21_6
                case tw7q_21_5 =>
                  refine Turns.mk (d := some 39) rfl rfl (TurnS.call (V := fun v => ∃ zA zn zc, v = .agg #[.int .u32 (senC s0).ses, .int .u64 (senC s0).base, .slice zA zn zc, .int .u64 (senC s0).sent, .int .u64 (senC s0).lim, .int .i64 (senC s0).timer, .bool (senC s0).ended]) ?fw7q_21_5 ?aw7q_21_5 [] (by kernel_rfl) (by rfl) (fun w9 => ?hw7q_21_5) (fun L9 m9 w9 hSh hAt hDn hS => ?cw7q_21_5)) (fun v5 hVv5 => ?rw7q_21_5)
                  case hw7q_21_5 => go_simp; refine ⟨?_, ?_⟩ <;> rfl
                  case cw7q_21_5 =>
                    have hs1 := reach_no hSh (f := 10) (j := 8) (d := 5) (by kernel_rfl) hDn
                    have hs2 := reach_no hSh (f := 10) (j := 9) (d := 5) (by kernel_rfl) hDn
                    have hT := TwoS.any hS
                    have hsz := hT.size
                    refine (senderC_any (fun b => b < w5.heap.size) s0 yA yn yc w9 (Lay.rd_below HRY.out hT) hym.1 hym.2).mono ?_
                    rintro e w8 ⟨zA, zn, zc, rfl, hr, h1, h2, q8⟩
                    have rd : LB3.rd w8 (Av 6 7 m9) zA zn (senC s0).q := Lay.rd_weak (fun b hb _ => (hS.at0 hs1).avoid (.inr hb.1)) hr
                    exact ⟨_, rfl, ⟨zA, zn, zc, rfl⟩, TwoS.call hS NoRes.res (LRes.res _ _) (LRes.res _ _) hs1 hs2 (by decide) q8 (fun e => absurd e (by decide)) (fun e => absurd e (by decide)) (fun _ => ⟨senC s0, _, rfl, ⟨zA, zn, zc, rfl, h1, h2, rd⟩, rfl⟩)⟩
                  try simp only [Act.put, List.setIfInBounds_toArray, List.set_cons_zero, List.set_cons_succ]
                  obtain ⟨vA, vn, vc, rfl⟩ := hVv5
                  refine Ps.some1 (i := 6) (by kernel_rfl) ?tw7q_22_6
                  case tw7q_22_6 =>
                    refine Turns.mk (d := some 9) rfl rfl (TurnS.value (V := fun v => ∃ g, v = .pointer (some ⟨g, 0, none⟩)) [] (by kernel_rfl) (by rfl) (fun L9 m9 w9 hSh hAt hDn hS => ?cw7q_22_6)) (fun v6 hVv6 => ?rw7q_22_6)
                    case cw7q_22_6 =>
                      have hs1 := reach_no hSh (f := 10) (j := 8) (d := 6) (by kernel_rfl) hDn
                      have hs2 := reach_no hSh (f := 10) (j := 9) (d := 6) (by kernel_rfl) hDn
                      refine ⟨.pointer (some ⟨w9.heap.size, 0, none⟩), w9.alloc (.cells #[.int .u32 0, .int .u64 0, .slice none 0 0, .int .u64 0, .int .u64 0, .int .i64 0, .bool false] 29), ?_, ⟨_, rfl⟩, TwoS.make1 hS NoRes.res (LRes.res _ _) (LRes.res _ _) hs1 hs2 (by decide)⟩
                      clear hS
                      go_simp
                      try rfl
                    try simp only [Act.put, List.setIfInBounds_toArray, List.set_cons_zero, List.set_cons_succ]
                    obtain ⟨g6, rfl⟩ := hVv6
                    refine Ps.step (i := 8) (d := none) (u := undef) rfl rfl (by kernel_rfl) (by kernel_rfl) (by kernel_rfl) (by kernel_rfl) ?yw7q_23 ?rw7q_23
                    case yw7q_23 =>
                      refine StepS.store [1, 5, 6, 7] (by kernel_rfl) (by rfl) (fun L9 m9 w9 hSh hAt hDn hS => ?_)
                      have hs2 := reach_no hSh (f := 10) (j := 9) (d := 8) (by kernel_rfl) hDn
                      obtain ⟨p1, p2, hB⟩ := TwoS.ready1 hS hDn (hAt 6 (by simp)).1 (hAt 7 (by simp)).1 (hAt 1 (by simp)).1 (hAt 5 (by simp)).1
                      obtain rfl : g6 = p1 := pt_inj ((hAt 6 (by simp)).2.symm.trans hB.e1)
                      refine (exec_store_blk (w := w9) 29 (.tmp 9) (.tmp 35) (by rfl) g6 29 #[.int .u32 0, .int .u64 0, .slice none 0 0, .int .u64 0, .int .u64 0, .int .i64 0, .bool false] #[.int .u32 (senC s1).ses, .int .u64 (senC s1).base, .slice uA un uc, .int .u64 (senC s1).sent, .int .u64 (senC s1).lim, .int .i64 (senC s1).timer, .bool (senC s1).ended] (by rfl) (by rfl) hB.b1 rfl senderI (by simp [Value.oneCell'])).imp fun w7 hx => ⟨hx.1, TwoS.set1 hs2 (by decide) (hAt 1 (by simp)).2 (hB.store1 (LRes.res _ _) (LRes.res _ _) hx.2.1 hx.2.2)⟩
                    try simp only [Act.put]
                    refine Ps.step (i := 9) (d := none) (u := undef) rfl rfl (by kernel_rfl) (by kernel_rfl) (by kernel_rfl) (by kernel_rfl) ?yw7q_24 ?rw7q_24
                    case yw7q_24 =>
                      refine StepS.store [1, 5, 6, 7, 8] (by kernel_rfl) (by rfl) (fun L9 m9 w9 hSh hAt hDn hS => ?_)
                      obtain ⟨p1, p2, cc, hk, hB⟩ := TwoS.at1 hS (hAt 8 (by simp)).1 hDn
                      obtain rfl : g7 = p2 := pt_inj ((hAt 7 (by simp)).2.symm.trans hB.e2)
                      refine (exec_store_blk (w := w9) 29 (.tmp 10) (.tmp 39) (by rfl) g7 29 #[.int .u32 0, .int .u64 0, .slice none 0 0, .int .u64 0, .int .u64 0, .int .i64 0, .bool false] #[.int .u32 (senC s0).ses, .int .u64 (senC s0).base, .slice vA vn vc, .int .u64 (senC s0).sent, .int .u64 (senC s0).lim, .int .i64 (senC s0).timer, .bool (senC s0).ended] (by rfl) (by rfl) hB.b2 rfl senderI (by simp [Value.oneCell'])).imp fun w7 hx => ⟨hx.1, TwoS.set2 (by decide) (hAt 8 (by simp)).1 hk (hAt 5 (by simp)).2 (hB.store2 (LRes.res _ _) (LRes.res _ _) hx.2.1 hx.2.2)⟩
                    try simp only [Act.put]
                    refine Ps.done (by kernel_rfl) (fun w7q hS => ?_) _
                    obtain ⟨p1, p2, d1, d2, hk1, hk2, hB⟩ := TwoS.fin hS (by rfl)
                    clear hS
                    obtain rfl : g6 = p1 := pt_inj hB.e1
                    obtain rfl : g7 = p2 := pt_inj hB.e2
                    have hk1 : Value.agg #[.int .u32 (senC s1).ses, .int .u64 (senC s1).base, .slice uA un uc, .int .u64 (senC s1).sent, .int .u64 (senC s1).lim, .int .i64 (senC s1).timer, .bool (senC s1).ended] = .agg d1 := hk1
                    have hk2 : Value.agg #[.int .u32 (senC s0).ses, .int .u64 (senC s0).base, .slice vA vn vc, .int .u64 (senC s0).sent, .int .u64 (senC s0).lim, .int .i64 (senC s0).timer, .bool (senC s0).ended] = .agg d2 := hk2
                    injection hk1 with hk1
                    injection hk2 with hk2
                    subst hk1 hk2
                    refine ⟨g6, g7, uA, un, uc, vA, vn, vc, ?_, hB.b1, hB.b2, ⟨res_rdS hB.r1, res_rdS hB.r2⟩, hB.bel, ⟨res_capS hB.r1, res_capS hB.r2⟩⟩
                    simp only
                case tw7q_21_6 =>
                  refine Turns.mk (d := some 9) rfl rfl (TurnS.value (V := fun v => ∃ g, v = .pointer (some ⟨g, 0, none⟩)) [] (by kernel_rfl) (by rfl) (fun L9 m9 w9 hSh hAt hDn hS => ?cw7q_21_6)) (fun v6 hVv6 => ?rw7q_21_6)
                  case cw7q_21_6 =>
                    have hs1 := reach_no hSh (f := 10) (j := 8) (d := 6) (by kernel_rfl) hDn
                    have hs2 := reach_no hSh (f := 10) (j := 9) (d := 6) (by kernel_rfl) hDn
                    refine ⟨.pointer (some ⟨w9.heap.size, 0, none⟩), w9.alloc (.cells #[.int .u32 0, .int .u64 0, .slice none 0 0, .int .u64 0, .int .u64 0, .int .i64 0, .bool false] 29), ?_, ⟨_, rfl⟩, TwoS.make1 hS NoRes.res (LRes.res _ _) (LRes.res _ _) hs1 hs2 (by decide)⟩
                    clear hS
                    go_simp
                    try rfl
                  try simp only [Act.put, List.setIfInBounds_toArray, List.set_cons_zero, List.set_cons_succ]
                  obtain ⟨g6, rfl⟩ := hVv6
                  refine Ps.some1 (i := 5) (by kernel_rfl) ?tw7q_25_5
                  case tw7q_25_5 =>
                    refine Turns.mk (d := some 39) rfl rfl (TurnS.call (V := fun v => ∃ zA zn zc, v = .agg #[.int .u32 (senC s0).ses, .int .u64 (senC s0).base, .slice zA zn zc, .int .u64 (senC s0).sent, .int .u64 (senC s0).lim, .int .i64 (senC s0).timer, .bool (senC s0).ended]) ?fw7q_25_5 ?aw7q_25_5 [] (by kernel_rfl) (by rfl) (fun w9 => ?hw7q_25_5) (fun L9 m9 w9 hSh hAt hDn hS => ?cw7q_25_5)) (fun v5 hVv5 => ?rw7q_25_5)
                    case hw7q_25_5 => go_simp; refine ⟨?_, ?_⟩ <;> rfl
                    case cw7q_25_5 =>
                      have hs1 := reach_no hSh (f := 10) (j := 8) (d := 5) (by kernel_rfl) hDn
                      have hs2 := reach_no hSh (f := 10) (j := 9) (d := 5) (by kernel_rfl) hDn
                      have hT := TwoS.any hS
                      have hsz := hT.size
                      refine (senderC_any (fun b => b < w5.heap.size) s0 yA yn yc w9 (Lay.rd_below HRY.out hT) hym.1 hym.2).mono ?_
                      rintro e w8 ⟨zA, zn, zc, rfl, hr, h1, h2, q8⟩
                      have rd : LB3.rd w8 (Av 6 7 m9) zA zn (senC s0).q := Lay.rd_weak (fun b hb _ => (hS.at0 hs1).avoid (.inr hb.1)) hr
                      exact ⟨_, rfl, ⟨zA, zn, zc, rfl⟩, TwoS.call hS NoRes.res (LRes.res _ _) (LRes.res _ _) hs1 hs2 (by decide) q8 (fun e => absurd e (by decide)) (fun e => absurd e (by decide)) (fun _ => ⟨senC s0, _, rfl, ⟨zA, zn, zc, rfl, h1, h2, rd⟩, rfl⟩)⟩
                    try simp only [Act.put, List.setIfInBounds_toArray, List.set_cons_zero, List.set_cons_succ]
                    obtain ⟨vA, vn, vc, rfl⟩ := hVv5
                    refine Ps.step (i := 8) (d := none) (u := undef) rfl rfl (by kernel_rfl) (by kernel_rfl) (by kernel_rfl) (by kernel_rfl) ?yw7q_26 ?rw7q_26
                    case yw7q_26 =>
                      refine StepS.store [1, 5, 6, 7] (by kernel_rfl) (by rfl) (fun L9 m9 w9 hSh hAt hDn hS => ?_)
                      have hs2 := reach_no hSh (f := 10) (j := 9) (d := 8) (by kernel_rfl) hDn
                      obtain ⟨p1, p2, hB⟩ := TwoS.ready1 hS hDn (hAt 6 (by simp)).1 (hAt 7 (by simp)).1 (hAt 1 (by simp)).1 (hAt 5 (by simp)).1
                      obtain rfl : g6 = p1 := pt_inj ((hAt 6 (by simp)).2.symm.trans hB.e1)
                      refine (exec_store_blk (w := w9) 29 (.tmp 9) (.tmp 35) (by rfl) g6 29 #[.int .u32 0, .int .u64 0, .slice none 0 0, .int .u64 0, .int .u64 0, .int .i64 0, .bool false] #[.int .u32 (senC s1).ses, .int .u64 (senC s1).base, .slice uA un uc, .int .u64 (senC s1).sent, .int .u64 (senC s1).lim, .int .i64 (senC s1).timer, .bool (senC s1).ended] (by rfl) (by rfl) hB.b1 rfl senderI (by simp [Value.oneCell'])).imp fun w7 hx => ⟨hx.1, TwoS.set1 hs2 (by decide) (hAt 1 (by simp)).2 (hB.store1 (LRes.res _ _) (LRes.res _ _) hx.2.1 hx.2.2)⟩
                    try simp only [Act.put]
                    refine Ps.step (i := 9) (d := none) (u := undef) rfl rfl (by kernel_rfl) (by kernel_rfl) (by kernel_rfl) (by kernel_rfl) ?yw7q_27 ?rw7q_27
                    case yw7q_27 =>
                      refine StepS.store [1, 5, 6, 7, 8] (by kernel_rfl) (by rfl) (fun L9 m9 w9 hSh hAt hDn hS => ?_)
                      obtain ⟨p1, p2, cc, hk, hB⟩ := TwoS.at1 hS (hAt 8 (by simp)).1 hDn
                      obtain rfl : g7 = p2 := pt_inj ((hAt 7 (by simp)).2.symm.trans hB.e2)
                      refine (exec_store_blk (w := w9) 29 (.tmp 10) (.tmp 39) (by rfl) g7 29 #[.int .u32 0, .int .u64 0, .slice none 0 0, .int .u64 0, .int .u64 0, .int .i64 0, .bool false] #[.int .u32 (senC s0).ses, .int .u64 (senC s0).base, .slice vA vn vc, .int .u64 (senC s0).sent, .int .u64 (senC s0).lim, .int .i64 (senC s0).timer, .bool (senC s0).ended] (by rfl) (by rfl) hB.b2 rfl senderI (by simp [Value.oneCell'])).imp fun w7 hx => ⟨hx.1, TwoS.set2 (by decide) (hAt 8 (by simp)).1 hk (hAt 5 (by simp)).2 (hB.store2 (LRes.res _ _) (LRes.res _ _) hx.2.1 hx.2.2)⟩
                    try simp only [Act.put]
                    refine Ps.done (by kernel_rfl) (fun w7q hS => ?_) _
                    obtain ⟨p1, p2, d1, d2, hk1, hk2, hB⟩ := TwoS.fin hS (by rfl)
                    clear hS
                    obtain rfl : g6 = p1 := pt_inj hB.e1
                    obtain rfl : g7 = p2 := pt_inj hB.e2
                    have hk1 : Value.agg #[.int .u32 (senC s1).ses, .int .u64 (senC s1).base, .slice uA un uc, .int .u64 (senC s1).sent, .int .u64 (senC s1).lim, .int .i64 (senC s1).timer, .bool (senC s1).ended] = .agg d1 := hk1
                    have hk2 : Value.agg #[.int .u32 (senC s0).ses, .int .u64 (senC s0).base, .slice vA vn vc, .int .u64 (senC s0).sent, .int .u64 (senC s0).lim, .int .i64 (senC s0).timer, .bool (senC s0).ended] = .agg d2 := hk2
                    injection hk1 with hk1
                    injection hk2 with hk2
                    subst hk1 hk2
                    refine ⟨g6, g7, uA, un, uc, vA, vn, vc, ?_, hB.b1, hB.b2, ⟨res_rdS hB.r1, res_rdS hB.r2⟩, hB.bel, ⟨res_capS hB.r1, res_capS hB.r2⟩⟩
                    simp only
            case tw7q_5_6 =>
              refine Turns.mk (d := some 9) rfl rfl (TurnS.value (V := fun v => ∃ g, v = .pointer (some ⟨g, 0, none⟩)) [] (by kernel_rfl) (by rfl) (fun L9 m9 w9 hSh hAt hDn hS => ?cw7q_5_6)) (fun v6 hVv6 => ?rw7q_5_6)
              case cw7q_5_6 =>
                have hs1 := reach_no hSh (f := 10) (j := 8) (d := 6) (by kernel_rfl) hDn
                have hs2 := reach_no hSh (f := 10) (j := 9) (d := 6) (by kernel_rfl) hDn
                refine ⟨.pointer (some ⟨w9.heap.size, 0, none⟩), w9.alloc (.cells #[.int .u32 0, .int .u64 0, .slice none 0 0, .int .u64 0, .int .u64 0, .int .i64 0, .bool false] 29), ?_, ⟨_, rfl⟩, TwoS.make1 hS NoRes.res (LRes.res _ _) (LRes.res _ _) hs1 hs2 (by decide)⟩
                clear hS
                go_simp
                try rfl
              try simp only [Act.put, List.setIfInBounds_toArray, List.set_cons_zero, List.set_cons_succ]
              obtain ⟨g6, rfl⟩ := hVv6
              refine Ps.some2 (i := 1) (j := 7) (by kernel_rfl) ?tw7q_28_1 ?tw7q_28_7
              case tw7q_28_1 =>
                refine Turns.mk (d := some 35) rfl rfl (TurnS.call (V := fun v => ∃ zA zn zc, v = .agg #[.int .u32 (senC s1).ses, .int .u64 (senC s1).base, .slice zA zn zc, .int .u64 (senC s1).sent, .int .u64 (senC s1).lim, .int .i64 (senC s1).timer, .bool (senC s1).ended]) ?fw7q_28_1 ?aw7q_28_1 [] (by kernel_rfl) (by rfl) (fun w9 => ?hw7q_28_1) (fun L9 m9 w9 hSh hAt hDn hS => ?cw7q_28_1)) (fun v1 hVv1 => ?rw7q_28_1)
                case hw7q_28_1 => go_simp; refine ⟨?_, ?_⟩ <;> rfl
                case cw7q_28_1 =>
                  have hs1 := reach_no hSh (f := 10) (j := 8) (d := 1) (by kernel_rfl) hDn
                  have hs2 := reach_no hSh (f := 10) (j := 9) (d := 1) (by kernel_rfl) hDn
                  have hT := TwoS.any hS
                  have hsz := hT.size
                  refine (senderC_any (fun b => b < w5.heap.size) s1 xA xn xc w9 (Lay.rd_below HRX.out hT) hxm.1 hxm.2).mono ?_
                  rintro e w8 ⟨zA, zn, zc, rfl, hr, h1, h2, q8⟩
                  have rd : LB3.rd w8 (Av 6 7 m9) zA zn (senC s1).q := Lay.rd_weak (fun b hb _ => (hS.at0 hs1).avoid (.inr hb.1)) hr
                  exact ⟨_, rfl, ⟨zA, zn, zc, rfl⟩, TwoS.call hS NoRes.res (LRes.res _ _) (LRes.res _ _) hs1 hs2 (by decide) q8 (fun e => absurd e (by decide)) (fun _ => ⟨senC s1, _, rfl, ⟨zA, zn, zc, rfl, h1, h2, rd⟩, rfl⟩) (fun e => absurd e (by decide))⟩
                try simp only [Act.put, List.setIfInBounds_toArray, List.set_cons_zero, List.set_cons_succ]
                obtain ⟨uA, un, uc, rfl⟩ := hVv1
                refine Ps.some2 (i := 5) (j := 7) (by kernel_rfl) ?tw7q_29_5 ?tw7q_29_7
                case tw7q_29_5 =>
                  refine Turns.mk (d := some 39) rfl rfl (TurnS.call (V := fun v => ∃ zA zn zc, v = .agg #[.int .u32 (senC s0).ses, .int .u64 (senC s0).base, .slice zA zn zc, .int .u64 (senC s0).sent, .int .u64 (senC s0).lim, .int .i64 (senC s0).timer, .bool (senC s0).ended]) ?fw7q_29_5 ?aw7q_29_5 [] (by kernel_rfl) (by rfl) (fun w9 => ?hw7q_29_5) (fun L9 m9 w9 hSh hAt hDn hS => ?cw7q_29_5)) (fun v5 hVv5 => ?rw7q_29_5)
                  case hw7q_29_5 => go_simp; refine ⟨?_, ?_⟩ <;> rfl
                  case cw7q_29_5 =>
                    have hs1 := reach_no hSh (f := 10) (j := 8) (d := 5) (by kernel_rfl) hDn
                    have hs2 := reach_no hSh (f := 10) (j := 9) (d := 5) (by kernel_rfl) hDn
                    have hT := TwoS.any hS
                    have hsz := hT.size
                    refine (senderC_any (fun b => b < w5.heap.size) s0 yA yn yc w9 (Lay.rd_below HRY.out hT) hym.1 hym.2).mono ?_
                    rintro e w8 ⟨zA, zn, zc, rfl, hr, h1, h2, q8⟩
                    have rd : LB3.rd w8 (Av 6 7 m9) zA zn (senC s0).q := Lay.rd_weak (fun b hb _ => (hS.at0 hs1).avoid (.inr hb.1)) hr
                    exact ⟨_, rfl, ⟨zA, zn, zc, rfl⟩, TwoS.call hS NoRes.res (LRes.res _ _) (LRes.res _ _) hs1 hs2 (by decide) q8 (fun e => absurd e (by decide)) (fun e => absurd e (by decide)) (fun _ => ⟨senC s0, _, rfl, ⟨zA, zn, zc, rfl, h1, h2, rd⟩, rfl⟩)⟩
                  try simp only [Act.put, List.setIfInBounds_toArray, List.set_cons_zero, List.set_cons_succ]
                  obtain ⟨vA, vn, vc, rfl⟩ := hVv5
                  refine Ps.some1 (i := 7) (by kernel_rfl) ?tw7q_30_7
                  case tw7q_30_7 =>
                    refine Turns.mk (d := some 10) rfl rfl (TurnS.value (V := fun v => ∃ g, v = .pointer (some ⟨g, 0, none⟩)) [] (by kernel_rfl) (by rfl) (fun L9 m9 w9 hSh hAt hDn hS => ?cw7q_30_7)) (fun v7 hVv7 => ?rw7q_30_7)
                    case cw7q_30_7 =>
                      have hs1 := reach_no hSh (f := 10) (j := 8) (d := 7) (by kernel_rfl) hDn
                      have hs2 := reach_no hSh (f := 10) (j := 9) (d := 7) (by kernel_rfl) hDn
                      refine ⟨.pointer (some ⟨w9.heap.size, 0, none⟩), w9.alloc (.cells #[.int .u32 0, .int .u64 0, .slice none 0 0, .int .u64 0, .int .u64 0, .int .i64 0, .bool false] 29), ?_, ⟨_, rfl⟩, TwoS.make2 hS NoRes.res (LRes.res _ _) (LRes.res _ _) hs1 hs2 (by decide)⟩
                      clear hS
                      go_simp
                      try rfl
                    try simp only [Act.put, List.setIfInBounds_toArray, List.set_cons_zero, List.set_cons_succ]
                    obtain ⟨g7, rfl⟩ := hVv7
                    refine Ps.step (i := 8) (d := none) (u := undef) rfl rfl (by kernel_rfl) (by kernel_rfl) (by kernel_rfl) (by kernel_rfl) ?yw7q_31 ?rw7q_31
                    case yw7q_31 =>
                      refine StepS.store [1, 5, 6, 7] (by kernel_rfl) (by rfl) (fun L9 m9 w9 hSh hAt hDn hS => ?_)
                      have hs2 := reach_no hSh (f := 10) (j := 9) (d := 8) (by kernel_rfl) hDn
                      obtain ⟨p1, p2, hB⟩ := TwoS.ready1 hS hDn (hAt 6 (by simp)).1 (hAt 7 (by simp)).1 (hAt 1 (by simp)).1 (hAt 5 (by simp)).1
                      obtain rfl : g6 = p1 := pt_inj ((hAt 6 (by simp)).2.symm.trans hB.e1)
                      refine (exec_store_blk (w := w9) 29 (.tmp 9) (.tmp 35) (by rfl) g6 29 #[.int .u32 0, .int .u64 0, .slice none 0 0, .int .u64 0, .int .u64 0, .int .i64 0, .bool false] #[.int .u32 (senC s1).ses, .int .u64 (senC s1).base, .slice uA un uc, .int .u64 (senC s1).sent, .int .u64 (senC s1).lim, .int .i64 (senC s1).timer, .bool (senC s1).ended] (by rfl) (by rfl) hB.b1 rfl senderI (by simp [Value.oneCell'])).imp fun w7 hx => ⟨hx.1, TwoS.set1 hs2 (by decide) (hAt 1 (by simp)).2 (hB.store1 (LRes.res _ _) (LRes.res _ _) hx.2.1 hx.2.2)⟩
                    try simp only [Act.put]
                    refine Ps.step (i := 9) (d := none) (u := undef) rfl rfl (by kernel_rfl) (by kernel_rfl) (by kernel_rfl) (by kernel_rfl) ?yw7q_32 ?rw7q_32
                    case yw7q_32 =>
                      refine StepS.store [1, 5, 6, 7, 8] (by kernel_rfl) (by rfl) (fun L9 m9 w9 hSh hAt hDn hS => ?_)
                      obtain ⟨p1, p2, cc, hk, hB⟩ := TwoS.at1 hS (hAt 8 (by simp)).1 hDn
                      obtain rfl : g7 = p2 := pt_inj ((hAt 7 (by simp)).2.symm.trans hB.e2)
                      refine (exec_store_blk (w := w9) 29 (.tmp 10) (.tmp 39) (by rfl) g7 29 #[.int .u32 0, .int .u64 0, .slice none 0 0, .int .u64 0, .int .u64 0, .int .i64 0, .bool false] #[.int .u32 (senC s0).ses, .int .u64 (senC s0).base, .slice vA vn vc, .int .u64 (senC s0).sent, .int .u64 (senC s0).lim, .int .i64 (senC s0).timer, .bool (senC s0).ended] (by rfl) (by rfl) hB.b2 rfl senderI (by simp [Value.oneCell'])).imp fun w7 hx => ⟨hx.1, TwoS.set2 (by decide) (hAt 8 (by simp)).1 hk (hAt 5 (by simp)).2 (hB.store2 (LRes.res _ _) (LRes.res _ _) hx.2.1 hx.2.2)⟩
                    try simp only [Act.put]
                    refine Ps.done (by kernel_rfl) (fun w7q hS => ?_) _
                    obtain ⟨p1, p2, d1, d2, hk1, hk2, hB⟩ := TwoS.fin hS (by rfl)
                    clear hS
                    obtain rfl : g6 = p1 := pt_inj hB.e1
                    obtain rfl : g7 = p2 := pt_inj hB.e2
                    have hk1 : Value.agg #[.int .u32 (senC s1).ses, .int .u64 (senC s1).base, .slice uA un uc, .int .u64 (senC s1).sent, .int .u64 (senC s1).lim, .int .i64 (senC s1).timer, .bool (senC s1).ended] = .agg d1 := hk1
                    have hk2 : Value.agg #[.int .u32 (senC s0).ses, .int .u64 (senC s0).base, .slice vA vn vc, .int .u64 (senC s0).sent, .int .u64 (senC s0).lim, .int .i64 (senC s0).timer, .bool (senC s0).ended] = .agg d2 := hk2
                    injection hk1 with hk1
                    injection hk2 with hk2
                    subst hk1 hk2
                    refine ⟨g6, g7, uA, un, uc, vA, vn, vc, ?_, hB.b1, hB.b2, ⟨res_rdS hB.r1, res_rdS hB.r2⟩, hB.bel, ⟨res_capS hB.r1, res_capS hB.r2⟩⟩
                    simp only
                case tw7q_29_7 =>
                  refine Turns.mk (d := some 10) rfl rfl (TurnS.value (V := fun v => ∃ g, v = .pointer (some ⟨g, 0, none⟩)) [] (by kernel_rfl) (by rfl) (fun L9 m9 w9 hSh hAt hDn hS => ?cw7q_29_7)) (fun v7 hVv7 => ?rw7q_29_7)
                  case cw7q_29_7 =>
                    have hs1 := reach_no hSh (f := 10) (j := 8) (d := 7) (by kernel_rfl) hDn
                    have hs2 := reach_no hSh (f := 10) (j := 9) (d := 7) (by kernel_rfl) hDn
                    refine ⟨.pointer (some ⟨w9.heap.size, 0, none⟩), w9.alloc (.cells #[.int .u32 0, .int .u64 0, .slice none 0 0, .int .u64 0, .int .u64 0, .int .i64 0, .bool false] 29), ?_, ⟨_, rfl⟩, TwoS.make2 hS NoRes.res (LRes.res _ _) (LRes.res _ _) hs1 hs2 (by decide)⟩
                    clear hS
                    go_simp
                    try rfl
                  try simp only [Act.put, List.setIfInBounds_toArray, List.set_cons_zero, List.set_cons_succ]
                  obtain ⟨g7, rfl⟩ := hVv7
                  refine Ps.some1 (i := 5) (by kernel_rfl) ?tw7q_33_5
                  case tw7q_33_5 =>
                    refine Turns.mk (d := some 39) rfl rfl (TurnS.call (V := fun v => ∃ zA zn zc, v = .agg #[.int .u32 (senC s0).ses, .int .u64 (senC s0).base, .slice zA zn zc, .int .u64 (senC s0).sent, .int .u64 (senC s0).lim, .int .i64 (senC s0).timer, .bool (senC s0).ended]) ?fw7q_33_5 ?aw7q_33_5 [] (by kernel_rfl) (by rfl) (fun w9 => ?hw7q_33_5) (fun L9 m9 w9 hSh hAt hDn hS => ?cw7q_33_5)) (fun v5 hVv5 => ?rw7q_33_5)
                    case hw7q_33_5 => go_simp; refine ⟨?_, ?_⟩ <;> rfl
                    case cw7q_33_5 =>
                      have hs1 := reach_no hSh (f := 10) (j := 8) (d := 5) (by kernel_rfl) hDn
                      have hs2 := reach_no hSh (f := 10) (j := 9) (d := 5) (by kernel_rfl) hDn
                      have hT := TwoS.any hS
                      have hsz := hT.size
                      refine (senderC_any (fun b => b < w5.heap.size) s0 yA yn yc w9 (Lay.rd_below HRY.out hT) hym.1 hym.2).mono ?_
                      rintro e w8 ⟨zA, zn, zc, rfl, hr, h1, h2, q8⟩
                      have rd : LB3.rd w8 (Av 6 7 m9) zA zn (senC s0).q := Lay.rd_weak (fun b hb _ => (hS.at0 hs1).avoid (.inr hb.1)) hr
                      exact ⟨_, rfl, ⟨zA, zn, zc, rfl⟩, TwoS.call hS NoRes.res (LRes.res _ _) (LRes.res _ _) hs1 hs2 (by decide) q8 (fun e => absurd e (by decide)) (fun e => absurd e (by decide)) (fun _ => ⟨senC s0, _, rfl, ⟨zA, zn, zc, rfl, h1, h2, rd⟩, rfl⟩)⟩
                    try simp only [Act.put, List.setIfInBounds_toArray, List.set_cons_zero, List.set_cons_succ]
                    obtain ⟨vA, vn, vc, rfl⟩ := hVv5
                    refine Ps.step (i := 8) (d := none) (u := undef) rfl rfl (by kernel_rfl) (by kernel_rfl) (by kernel_rfl) (by kernel_rfl) ?yw7q_34 ?rw7q_34
                    case yw7q_34 =>
                      refine StepS.store [1, 5, 6, 7] (by kernel_rfl) (by rfl) (fun L9 m9 w9 hSh hAt hDn hS => ?_)
                      have hs2 := reach_no hSh (f := 10) (j := 9) (d := 8) (by kernel_rfl) hDn
                      obtain ⟨p1, p2, hB⟩ := TwoS.ready1 hS hDn (hAt 6 (by simp)).1 (hAt 7 (by simp)).1 (hAt 1 (by simp)).1 (hAt 5 (by simp)).1
                      obtain rfl : g6 = p1 := pt_inj ((hAt 6 (by simp)).2.symm.trans hB.e1)
                      refine (exec_store_blk (w := w9) 29 (.tmp 9) (.tmp 35) (by rfl) g6 29 #[.int .u32 0, .int .u64 0, .slice none 0 0, .int .u64 0, .int .u64 0, .int .i64 0, .bool false] #[.int .u32 (senC s1).ses, .int .u64 (senC s1).base, .slice uA un uc, .int .u64 (senC s1).sent, .int .u64 (senC s1).lim, .int .i64 (senC s1).timer, .bool (senC s1).ended] (by rfl) (by rfl) hB.b1 rfl senderI (by simp [Value.oneCell'])).imp fun w7 hx => ⟨hx.1, TwoS.set1 hs2 (by decide) (hAt 1 (by simp)).2 (hB.store1 (LRes.res _ _) (LRes.res _ _) hx.2.1 hx.2.2)⟩
                    try simp only [Act.put]
                    refine Ps.step (i := 9) (d := none) (u := undef) rfl rfl (by kernel_rfl) (by kernel_rfl) (by kernel_rfl) (by kernel_rfl) ?yw7q_35 ?rw7q_35
                    case yw7q_35 =>
                      refine StepS.store [1, 5, 6, 7, 8] (by kernel_rfl) (by rfl) (fun L9 m9 w9 hSh hAt hDn hS => ?_)
                      obtain ⟨p1, p2, cc, hk, hB⟩ := TwoS.at1 hS (hAt 8 (by simp)).1 hDn
                      obtain rfl : g7 = p2 := pt_inj ((hAt 7 (by simp)).2.symm.trans hB.e2)
                      refine (exec_store_blk (w := w9) 29 (.tmp 10) (.tmp 39) (by rfl) g7 29 #[.int .u32 0, .int .u64 0, .slice none 0 0, .int .u64 0, .int .u64 0, .int .i64 0, .bool false] #[.int .u32 (senC s0).ses, .int .u64 (senC s0).base, .slice vA vn vc, .int .u64 (senC s0).sent, .int .u64 (senC s0).lim, .int .i64 (senC s0).timer, .bool (senC s0).ended] (by rfl) (by rfl) hB.b2 rfl senderI (by simp [Value.oneCell'])).imp fun w7 hx => ⟨hx.1, TwoS.set2 (by decide) (hAt 8 (by simp)).1 hk (hAt 5 (by simp)).2 (hB.store2 (LRes.res _ _) (LRes.res _ _) hx.2.1 hx.2.2)⟩
                    try simp only [Act.put]
                    refine Ps.done (by kernel_rfl) (fun w7q hS => ?_) _
                    obtain ⟨p1, p2, d1, d2, hk1, hk2, hB⟩ := TwoS.fin hS (by rfl)
                    clear hS
                    obtain rfl : g6 = p1 := pt_inj hB.e1
                    obtain rfl : g7 = p2 := pt_inj hB.e2
                    have hk1 : Value.agg #[.int .u32 (senC s1).ses, .int .u64 (senC s1).base, .slice uA un uc, .int .u64 (senC s1).sent, .int .u64 (senC s1).lim, .int .i64 (senC s1).timer, .bool (senC s1).ended] = .agg d1 := hk1
                    have hk2 : Value.agg #[.int .u32 (senC s0).ses, .int .u64 (senC s0).base, .slice vA vn vc, .int .u64 (senC s0).sent, .int .u64 (senC s0).lim, .int .i64 (senC s0).timer, .bool (senC s0).ended] = .agg d2 := hk2
                    injection hk1 with hk1
                    injection hk2 with hk2
                    subst hk1 hk2
                    refine ⟨g6, g7, uA, un, uc, vA, vn, vc, ?_, hB.b1, hB.b2, ⟨res_rdS hB.r1, res_rdS hB.r2⟩, hB.bel, ⟨res_capS hB.r1, res_capS hB.r2⟩⟩
                    simp only
              case tw7q_28_7 =>
                refine Turns.mk (d := some 10) rfl rfl (TurnS.value (V := fun v => ∃ g, v = .pointer (some ⟨g, 0, none⟩)) [] (by kernel_rfl) (by rfl) (fun L9 m9 w9 hSh hAt hDn hS => ?cw7q_28_7)) (fun v7 hVv7 => ?rw7q_28_7)
                case cw7q_28_7 =>
                  have hs1 := reach_no hSh (f := 10) (j := 8) (d := 7) (by kernel_rfl) hDn
                  have hs2 := reach_no hSh (f := 10) (j := 9) (d := 7) (by kernel_rfl) hDn
                  refine ⟨.pointer (some ⟨w9.heap.size, 0, none⟩), w9.alloc (.cells #[.int .u32 0, .int .u64 0, .slice none 0 0, .int .u64 0, .int .u64 0, .int .i64 0, .bool false] 29), ?_, ⟨_, rfl⟩, TwoS.make2 hS NoRes.res (LRes.res _ _) (LRes.res _ _) hs1 hs2 (by decide)⟩
                  clear hS
                  go_simp
                  try rfl
                try simp only [Act.put, List.setIfInBounds_toArray, List.set_cons_zero, List.set_cons_succ]
                obtain ⟨g7, rfl⟩ := hVv7
                refine Ps.some1 (i := 1) (by kernel_rfl) ?tw7q_36_1
                case tw7q_36_1 =>
                  refine Turns.mk (d := some 35) rfl rfl (TurnS.call (V := fun v => ∃ zA zn zc, v = .agg #[.int .u32 (senC s1).ses, .int .u64 (senC s1).base, .slice zA zn zc, .int .u64 (senC s1).sent, .int .u64 (senC s1).lim, .int .i64 (senC s1).timer, .bool (senC s1).ended]) ?fw7q_36_1 ?aw7q_36_1 [] (by kernel_rfl) (by rfl) (fun w9 => ?hw7q_36_1) (fun L9 m9 w9 hSh hAt hDn hS => ?cw7q_36_1)) (fun v1 hVv1 => ?rw7q_36_1)
                  case hw7q_36_1 => go_simp; refine ⟨?_, ?_⟩ <;> rfl
                  case cw7q_36_1 =>
                    have hs1 := reach_no hSh (f := 10) (j := 8) (d := 1) (by kernel_rfl) hDn
                    have hs2 := reach_no hSh (f := 10) (j := 9) (d := 1) (by kernel_rfl) hDn
                    have hT := TwoS.any hS
                    have hsz := hT.size
                    refine (senderC_any (fun b => b < w5.heap.size) s1 xA xn xc w9 (Lay.rd_below HRX.out hT) hxm.1 hxm.2).mono ?_
                    rintro e w8 ⟨zA, zn, zc, rfl, hr, h1, h2, q8⟩
                    have rd : LB3.rd w8 (Av 6 7 m9) zA zn (senC s1).q := Lay.rd_weak (fun b hb _ => (hS.at0 hs1).avoid (.inr hb.1)) hr
                    exact ⟨_, rfl, ⟨zA, zn, zc, rfl⟩, TwoS.call hS NoRes.res (LRes.res _ _) (LRes.res _ _) hs1 hs2 (by decide) q8 (fun e => absurd e (by decide)) (fun _ => ⟨senC s1, _, rfl, ⟨zA, zn, zc, rfl, h1, h2, rd⟩, rfl⟩) (fun e => absurd e (by decide))⟩
                  try simp only [Act.put, List.setIfInBounds_toArray, List.set_cons_zero, List.set_cons_succ]
                  obtain ⟨uA, un, uc, rfl⟩ := hVv1
                  refine Ps.some1 (i := 5) (by kernel_rfl) ?tw7q_37_5
                  case tw7q_37_5 =>
                    refine Turns.mk (d := some 39) rfl rfl (TurnS.call (V := fun v => ∃ zA zn zc, v = .agg #[.int .u32 (senC s0).ses, .int .u64 (senC s0).base, .slice zA zn zc, .int .u64 (senC s0).sent, .int .u64 (senC s0).lim, .int .i64 (senC s0).timer, .bool (senC s0).ended]) ?fw7q_37_5 ?aw7q_37_5 [] (by kernel_rfl) (by rfl) (fun w9 => ?hw7q_37_5) (fun L9 m9 w9 hSh hAt hDn hS => ?cw7q_37_5)) (fun v5 hVv5 => ?rw7q_37_5)
                    case hw7q_37_5 => go_simp; refine ⟨?_, ?_⟩ <;> rfl
                    case cw7q_37_5 =>
                      have hs1 := reach_no hSh (f := 10) (j := 8) (d := 5) (by kernel_rfl) hDn
                      have hs2 := reach_no hSh (f := 10) (j := 9) (d := 5) (by kernel_rfl) hDn
                      have hT := TwoS.any hS
                      have hsz := hT.size
                      refine (senderC_any (fun b => b < w5.heap.size) s0 yA yn yc w9 (Lay.rd_below HRY.out hT) hym.1 hym.2).mono ?_
                      rintro e w8 ⟨zA, zn, zc, rfl, hr, h1, h2, q8⟩
                      have rd : LB3.rd w8 (Av 6 7 m9) zA zn (senC s0).q := Lay.rd_weak (fun b hb _ => (hS.at0 hs1).avoid (.inr hb.1)) hr
                      exact ⟨_, rfl, ⟨zA, zn, zc, rfl⟩, TwoS.call hS NoRes.res (LRes.res _ _) (LRes.res _ _) hs1 hs2 (by decide) q8 (fun e => absurd e (by decide)) (fun e => absurd e (by decide)) (fun _ => ⟨senC s0, _, rfl, ⟨zA, zn, zc, rfl, h1, h2, rd⟩, rfl⟩)⟩
                    try simp only [Act.put, List.setIfInBounds_toArray, List.set_cons_zero, List.set_cons_succ]
                    obtain ⟨vA, vn, vc, rfl⟩ := hVv5
                    refine Ps.step (i := 8) (d := none) (u := undef) rfl rfl (by kernel_rfl) (by kernel_rfl) (by kernel_rfl) (by kernel_rfl) ?yw7q_38 ?rw7q_38
                    case yw7q_38 =>
                      refine StepS.store [1, 5, 6, 7] (by kernel_rfl) (by rfl) (fun L9 m9 w9 hSh hAt hDn hS => ?_)
                      have hs2 := reach_no hSh (f := 10) (j := 9) (d := 8) (by kernel_rfl) hDn
                      obtain ⟨p1, p2, hB⟩ := TwoS.ready1 hS hDn (hAt 6 (by simp)).1 (hAt 7 (by simp)).1 (hAt 1 (by simp)).1 (hAt 5 (by simp)).1
                      obtain rfl : g6 = p1 := pt_inj ((hAt 6 (by simp)).2.symm.trans hB.e1)
                      refine (exec_store_blk (w := w9) 29 (.tmp 9) (.tmp 35) (by rfl) g6 29 #[.int .u32 0, .int .u64 0, .slice none 0 0, .int .u64 0, .int .u64 0, .int .i64 0, .bool false] #[.int .u32 (senC s1).ses, .int .u64 (senC s1).base, .slice uA un uc, .int .u64 (senC s1).sent, .int .u64 (senC s1).lim, .int .i64 (senC s1).timer, .bool (senC s1).ended] (by rfl) (by rfl) hB.b1 rfl senderI (by simp [Value.oneCell'])).imp fun w7 hx => ⟨hx.1, TwoS.set1 hs2 (by decide) (hAt 1 (by simp)).2 (hB.store1 (LRes.res _ _) (LRes.res _ _) hx.2.1 hx.2.2)⟩
                    try simp only [Act.put]
                    refine Ps.step (i := 9) (d := none) (u := undef) rfl rfl (by kernel_rfl) (by kernel_rfl) (by kernel_rfl) (by kernel_rfl) ?yw7q_39 ?rw7q_39
                    case yw7q_39 =>
                      refine StepS.store [1, 5, 6, 7, 8] (by kernel_rfl) (by rfl) (fun L9 m9 w9 hSh hAt hDn hS => ?_)
                      obtain ⟨p1, p2, cc, hk, hB⟩ := TwoS.at1 hS (hAt 8 (by simp)).1 hDn
                      obtain rfl : g7 = p2 := pt_inj ((hAt 7 (by simp)).2.symm.trans hB.e2)
                      refine (exec_store_blk (w := w9) 29 (.tmp 10) (.tmp 39) (by rfl) g7 29 #[.int .u32 0, .int .u64 0, .slice none 0 0, .int .u64 0, .int .u64 0, .int .i64 0, .bool false] #[.int .u32 (senC s0).ses, .int .u64 (senC s0).base, .slice vA vn vc, .int .u64 (senC s0).sent, .int .u64 (senC s0).lim, .int .i64 (senC s0).timer, .bool (senC s0).ended] (by rfl) (by rfl) hB.b2 rfl senderI (by simp [Value.oneCell'])).imp fun w7 hx => ⟨hx.1, TwoS.set2 (by decide) (hAt 8 (by simp)).1 hk (hAt 5 (by simp)).2 (hB.store2 (LRes.res _ _) (LRes.res _ _) hx.2.1 hx.2.2)⟩
                    try simp only [Act.put]
                    refine Ps.done (by kernel_rfl) (fun w7q hS => ?_) _
                    obtain ⟨p1, p2, d1, d2, hk1, hk2, hB⟩ := TwoS.fin hS (by rfl)
                    clear hS
                    obtain rfl : g6 = p1 := pt_inj hB.e1
                    obtain rfl : g7 = p2 := pt_inj hB.e2
                    have hk1 : Value.agg #[.int .u32 (senC s1).ses, .int .u64 (senC s1).base, .slice uA un uc, .int .u64 (senC s1).sent, .int .u64 (senC s1).lim, .int .i64 (senC s1).timer, .bool (senC s1).ended] = .agg d1 := hk1
                    have hk2 : Value.agg #[.int .u32 (senC s0).ses, .int .u64 (senC s0).base, .slice vA vn vc, .int .u64 (senC s0).sent, .int .u64 (senC s0).lim, .int .i64 (senC s0).timer, .bool (senC s0).ended] = .agg d2 := hk2
                    injection hk1 with hk1
                    injection hk2 with hk2
                    subst hk1 hk2
                    refine ⟨g6, g7, uA, un, uc, vA, vn, vc, ?_, hB.b1, hB.b2, ⟨res_rdS hB.r1, res_rdS hB.r2⟩, hB.bel, ⟨res_capS hB.r1, res_capS hB.r2⟩⟩
                    simp only
            case tw7q_5_7 =>
              refine Turns.mk (d := some 10) rfl rfl (TurnS.value (V := fun v => ∃ g, v = .pointer (some ⟨g, 0, none⟩)) [] (by kernel_rfl) (by rfl) (fun L9 m9 w9 hSh hAt hDn hS => ?cw7q_5_7)) (fun v7 hVv7 => ?rw7q_5_7)
              case cw7q_5_7 =>
                have hs1 := reach_no hSh (f := 10) (j := 8) (d := 7) (by kernel_rfl) hDn
                have hs2 := reach_no hSh (f := 10) (j := 9) (d := 7) (by kernel_rfl) hDn
                refine ⟨.pointer (some ⟨w9.heap.size, 0, none⟩), w9.alloc (.cells #[.int .u32 0, .int .u64 0, .slice none 0 0, .int .u64 0, .int .u64 0, .int .i64 0, .bool false] 29), ?_, ⟨_, rfl⟩, TwoS.make2 hS NoRes.res (LRes.res _ _) (LRes.res _ _) hs1 hs2 (by decide)⟩
                clear hS
                go_simp
                try rfl
              try simp only [Act.put, List.setIfInBounds_toArray, List.set_cons_zero, List.set_cons_succ]
              obtain ⟨g7, rfl⟩ := hVv7
              refine Ps.some2 (i := 1) (j := 6) (by kernel_rfl) ?tw7q_40_1 ?tw7q_40_6
              case tw7q_40_1 =>
                refine Turns.mk (d := some 35) rfl rfl (TurnS.call (V := fun v => ∃ zA zn zc, v = .agg #[.int .u32 (senC s1).ses, .int .u64 (senC s1).base, .slice zA zn zc, .int .u64 (senC s1).sent, .int .u64 (senC s1).lim, .int .i64 (senC s1).timer, .bool (senC s1).ended]) ?fw7q_40_1 ?aw7q_40_1 [] (by kernel_rfl) (by rfl) (fun w9 => ?hw7q_40_1) (fun L9 m9 w9 hSh hAt hDn hS => ?cw7q_40_1)) (fun v1 hVv1 => ?rw7q_40_1)
                case hw7q_40_1 => go_simp; refine ⟨?_, ?_⟩ <;> rfl
                case cw7q_40_1 =>
                  have hs1 := reach_no hSh (f := 10) (j := 8) (d := 1) (by kernel_rfl) hDn
                  have hs2 := reach_no hSh (f := 10) (j := 9) (d := 1) (by kernel_rfl) hDn
                  have hT := TwoS.any hS
                  have hsz := hT.size
                  refine (senderC_any (fun b => b < w5.heap.size) s1 xA xn xc w9 (Lay.rd_below HRX.out hT) hxm.1 hxm.2).mono ?_
                  rintro e w8 ⟨zA, zn, zc, rfl, hr, h1, h2, q8⟩
                  have rd : LB3.rd w8 (Av 6 7 m9) zA zn (senC s1).q := Lay.rd_weak (fun b hb _ => (hS.at0 hs1).avoid (.inr hb.1)) hr
                  exact ⟨_, rfl, ⟨zA, zn, zc, rfl⟩, TwoS.call hS NoRes.res (LRes.res _ _) (LRes.res _ _) hs1 hs2 (by decide) q8 (fun e => absurd e (by decide)) (fun _ => ⟨senC s1, _, rfl, ⟨zA, zn, zc, rfl, h1, h2, rd⟩, rfl⟩) (fun e => absurd e (by decide))⟩
                try simp only [Act.put, List.setIfInBounds_toArray, List.set_cons_zero, List.set_cons_succ]
                obtain ⟨uA, un, uc, rfl⟩ := hVv1
                refine Ps.some2 (i := 5) (j := 6) (by kernel_rfl) ?tw7q_41_5 ?tw7q_41_6
                case tw7q_41_5 =>
                  refine Turns.mk (d := some 39) rfl rfl (TurnS.call (V := fun v => ∃ zA zn zc, v = .agg #[.int .u32 (senC s0).ses, .int .u64 (senC s0).base, .slice zA zn zc, .int .u64 (senC s0).sent, .int .u64 (senC s0).lim, .int .i64 (senC s0).timer, .bool (senC s0).ended]) ?fw7q_41_5 ?aw7q_41_5 [] (by kernel_rfl) (by rfl) (fun w9 => ?hw7q_41_5) (fun L9 m9 w9 hSh hAt hDn hS => ?cw7q_41_5)) (fun v5 hVv5 => ?rw7q_41_5)
                  case hw7q_41_5 => go_simp; refine ⟨?_, ?_⟩ <;> rfl
                  case cw7q_41_5 =>
                    have hs1 := reach_no hSh (f := 10) (j := 8) (d := 5) (by kernel_rfl) hDn
                    have hs2 := reach_no hSh (f := 10) (j := 9) (d := 5) (by kernel_rfl) hDn
                    have hT := TwoS.any hS
                    have hsz := hT.size
                    refine (senderC_any (fun b => b < w5.heap.size) s0 yA yn yc w9 (Lay.rd_below HRY.out hT) hym.1 hym.2).mono ?_
                    rintro e w8 ⟨zA, zn, zc, rfl, hr, h1, h2, q8⟩
                    have rd : LB3.rd w8 (Av 6 7 m9) zA zn (senC s0).q := Lay.rd_weak (fun b hb _ => (hS.at0 hs1).avoid (.inr hb.1)) hr
                    exact ⟨_, rfl, ⟨zA, zn, zc, rfl⟩, TwoS.call hS NoRes.res (LRes.res _ _) (LRes.res _ _) hs1 hs2 (by decide) q8 (fun e => absurd e (by decide)) (fun e => absurd e (by decide)) (fun _ => ⟨senC s0, _, rfl, ⟨zA, zn, zc, rfl, h1, h2, rd⟩, rfl⟩)⟩
                  try simp only [Act.put, List.setIfInBounds_toArray, List.set_cons_zero, List.set_cons_succ]
                  obtain ⟨vA, vn, vc, rfl⟩ := hVv5
                  refine Ps.some1 (i := 6) (by kernel_rfl) ?tw7q_42_6
                  case tw7q_42_6 =>
                    refine Turns.mk (d := some 9) rfl rfl (TurnS.value (V := fun v => ∃ g, v = .pointer (some ⟨g, 0, none⟩)) [] (by kernel_rfl) (by rfl) (fun L9 m9 w9 hSh hAt hDn hS => ?cw7q_42_6)) (fun v6 hVv6 => ?rw7q_42_6)
                    case cw7q_42_6 =>
                      have hs1 := reach_no hSh (f := 10) (j := 8) (d := 6) (by kernel_rfl) hDn
                      have hs2 := reach_no hSh (f := 10) (j := 9) (d := 6) (by kernel_rfl) hDn
                      refine ⟨.pointer (some ⟨w9.heap.size, 0, none⟩), w9.alloc (.cells #[.int .u32 0, .int .u64 0, .slice none 0 0, .int .u64 0, .int .u64 0, .int .i64 0, .bool false] 29), ?_, ⟨_, rfl⟩, TwoS.make1 hS NoRes.res (LRes.res _ _) (LRes.res _ _) hs1 hs2 (by decide)⟩
                      clear hS
                      go_simp
                      try rfl
                    try simp only [Act.put, List.setIfInBounds_toArray, List.set_cons_zero, List.set_cons_succ]
                    obtain ⟨g6, rfl⟩ := hVv6
                    refine Ps.step (i := 8) (d := none) (u := undef) rfl rfl (by kernel_rfl) (by kernel_rfl) (by kernel_rfl) (by kernel_rfl) ?yw7q_43 ?rw7q_43
                    case yw7q_43 =>
                      refine StepS.store [1, 5, 6, 7] (by kernel_rfl) (by rfl) (fun L9 m9 w9 hSh hAt hDn hS => ?_)
                      have hs2 := reach_no hSh (f := 10) (j := 9) (d := 8) (by kernel_rfl) hDn
                      obtain ⟨p1, p2, hB⟩ := TwoS.ready1 hS hDn (hAt 6 (by simp)).1 (hAt 7 (by simp)).1 (hAt 1 (by simp)).1 (hAt 5 (by simp)).1
                      obtain rfl : g6 = p1 := pt_inj ((hAt 6 (by simp)).2.symm.trans hB.e1)
                      refine (exec_store_blk (w := w9) 29 (.tmp 9) (.tmp 35) (by rfl) g6 29 #[.int .u32 0, .int .u64 0, .slice none 0 0, .int .u64 0, .int .u64 0, .int .i64 0, .bool false] #[.int .u32 (senC s1).ses, .int .u64 (senC s1).base, .slice uA un uc, .int .u64 (senC s1).sent, .int .u64 (senC s1).lim, .int .i64 (senC s1).timer, .bool (senC s1).ended] (by rfl) (by rfl) hB.b1 rfl senderI (by simp [Value.oneCell'])).imp fun w7 hx => ⟨hx.1, TwoS.set1 hs2 (by decide) (hAt 1 (by simp)).2 (hB.store1 (LRes.res _ _) (LRes.res _ _) hx.2.1 hx.2.2)⟩
                    try simp only [Act.put]
                    refine Ps.step (i := 9) (d := none) (u := undef) rfl rfl (by kernel_rfl) (by kernel_rfl) (by kernel_rfl) (by kernel_rfl) ?yw7q_44 ?rw7q_44
                    case yw7q_44 =>
                      refine StepS.store [1, 5, 6, 7, 8] (by kernel_rfl) (by rfl) (fun L9 m9 w9 hSh hAt hDn hS => ?_)
                      obtain ⟨p1, p2, cc, hk, hB⟩ := TwoS.at1 hS (hAt 8 (by simp)).1 hDn
                      obtain rfl : g7 = p2 := pt_inj ((hAt 7 (by simp)).2.symm.trans hB.e2)
                      refine (exec_store_blk (w := w9) 29 (.tmp 10) (.tmp 39) (by rfl) g7 29 #[.int .u32 0, .int .u64 0, .slice none 0 0, .int .u64 0, .int .u64 0, .int .i64 0, .bool false] #[.int .u32 (senC s0).ses, .int .u64 (senC s0).base, .slice vA vn vc, .int .u64 (senC s0).sent, .int .u64 (senC s0).lim, .int .i64 (senC s0).timer, .bool (senC s0).ended] (by rfl) (by rfl) hB.b2 rfl senderI (by simp [Value.oneCell'])).imp fun w7 hx => ⟨hx.1, TwoS.set2 (by decide) (hAt 8 (by simp)).1 hk (hAt 5 (by simp)).2 (hB.store2 (LRes.res _ _) (LRes.res _ _) hx.2.1 hx.2.2)⟩
                    try simp only [Act.put]
                    refine Ps.done (by kernel_rfl) (fun w7q hS => ?_) _
                    obtain ⟨p1, p2, d1, d2, hk1, hk2, hB⟩ := TwoS.fin hS (by rfl)
                    clear hS
                    obtain rfl : g6 = p1 := pt_inj hB.e1
                    obtain rfl : g7 = p2 := pt_inj hB.e2
                    have hk1 : Value.agg #[.int .u32 (senC s1).ses, .int .u64 (senC s1).base, .slice uA un uc, .int .u64 (senC s1).sent, .int .u64 (senC s1).lim, .int .i64 (senC s1).timer, .bool (senC s1).ended] = .agg d1 := hk1
                    have hk2 : Value.agg #[.int .u32 (senC s0).ses, .int .u64 (senC s0).base, .slice vA vn vc, .int .u64 (senC s0).sent, .int .u64 (senC s0).lim, .int .i64 (senC s0).timer, .bool (senC s0).ended] = .agg d2 := hk2
                    injection hk1 with hk1
                    injection hk2 with hk2
                    subst hk1 hk2
                    refine ⟨g6, g7, uA, un, uc, vA, vn, vc, ?_, hB.b1, hB.b2, ⟨res_rdS hB.r1, res_rdS hB.r2⟩, hB.bel, ⟨res_capS hB.r1, res_capS hB.r2⟩⟩
                    simp only
                case tw7q_41_6 =>
                  refine Turns.mk (d := some 9) rfl rfl (TurnS.value (V := fun v => ∃ g, v = .pointer (some ⟨g, 0, none⟩)) [] (by kernel_rfl) (by rfl) (fun L9 m9 w9 hSh hAt hDn hS => ?cw7q_41_6)) (fun v6 hVv6 => ?rw7q_41_6)
                  case cw7q_41_6 =>
                    have hs1 := reach_no hSh (f := 10) (j := 8) (d := 6) (by kernel_rfl) hDn
                    have hs2 := reach_no hSh (f := 10) (j := 9) (d := 6) (by kernel_rfl) hDn
                    refine ⟨.pointer (some ⟨w9.heap.size, 0, none⟩), w9.alloc (.cells #[.int .u32 0, .int .u64 0, .slice none 0 0, .int .u64 0, .int .u64 0, .int .i64 0, .bool false] 29), ?_, ⟨_, rfl⟩, TwoS.make1 hS NoRes.res (LRes.res _ _) (LRes.res _ _) hs1 hs2 (by decide)⟩
                    clear hS
                    go_simp
                    try rfl
                  try simp only [Act.put, List.setIfInBounds_toArray, List.set_cons_zero, List.set_cons_succ]
                  obtain ⟨g6, rfl⟩ := hVv6
                  refine Ps.some1 (i := 5) (by kernel_rfl) ?tw7q_45_5
                  case tw7q_45_5 =>
                    refine Turns.mk (d := some 39) rfl rfl (TurnS.call (V := fun v => ∃ zA zn zc, v = .agg #[.int .u32 (senC s0).ses, .int .u64 (senC s0).base, .slice zA zn zc, .int .u64 (senC s0).sent, .int .u64 (senC s0).lim, .int .i64 (senC s0).timer, .bool (senC s0).ended]) ?fw7q_45_5 ?aw7q_45_5 [] (by kernel_rfl) (by rfl) (fun w9 => ?hw7q_45_5) (fun L9 m9 w9 hSh hAt hDn hS => ?cw7q_45_5)) (fun v5 hVv5 => ?rw7q_45_5)
                    case hw7q_45_5 => go_simp; refine ⟨?_, ?_⟩ <;> rfl
                    case cw7q_45_5 =>
                      have hs1 := reach_no hSh (f := 10) (j := 8) (d := 5) (by kernel_rfl) hDn
                      have hs2 := reach_no hSh (f := 10) (j := 9) (d := 5) (by kernel_rfl) hDn
                      have hT := TwoS.any hS
                      have hsz := hT.size
                      refine (senderC_any (fun b => b < w5.heap.size) s0 yA yn yc w9 (Lay.rd_below HRY.out hT) hym.1 hym.2).mono ?_
                      rintro e w8 ⟨zA, zn, zc, rfl, hr, h1, h2, q8⟩
                      have rd : LB3.rd w8 (Av 6 7 m9) zA zn (senC s0).q := Lay.rd_weak (fun b hb _ => (hS.at0 hs1).avoid (.inr hb.1)) hr
                      exact ⟨_, rfl, ⟨zA, zn, zc, rfl⟩, TwoS.call hS NoRes.res (LRes.res _ _) (LRes.res _ _) hs1 hs2 (by decide) q8 (fun e => absurd e (by decide)) (fun e => absurd e (by decide)) (fun _ => ⟨senC s0, _, rfl, ⟨zA, zn, zc, rfl, h1, h2, rd⟩, rfl⟩)⟩
                    try simp only [Act.put, List.setIfInBounds_toArray, List.set_cons_zero, List.set_cons_succ]
                    obtain ⟨vA, vn, vc, rfl⟩ := hVv5
                    refine Ps.step (i := 8) (d := none) (u := undef) rfl rfl (by kernel_rfl) (by kernel_rfl) (by kernel_rfl) (by kernel_rfl) ?yw7q_46 ?rw7q_46
                    case yw7q_46 =>
                      refine StepS.store [1, 5, 6, 7] (by kernel_rfl) (by rfl) (fun L9 m9 w9 hSh hAt hDn hS => ?_)
                      have hs2 := reach_no hSh (f := 10) (j := 9) (d := 8) (by kernel_rfl) hDn
                      obtain ⟨p1, p2, hB⟩ := TwoS.ready1 hS hDn (hAt 6 (by simp)).1 (hAt 7 (by simp)).1 (hAt 1 (by simp)).1 (hAt 5 (by simp)).1
                      obtain rfl : g6 = p1 := pt_inj ((hAt 6 (by simp)).2.symm.trans hB.e1)
                      refine (exec_store_blk (w := w9) 29 (.tmp 9) (.tmp 35) (by rfl) g6 29 #[.int .u32 0, .int .u64 0, .slice none 0 0, .int .u64 0, .int .u64 0, .int .i64 0, .bool false] #[.int .u32 (senC s1).ses, .int .u64 (senC s1).base, .slice uA un uc, .int .u64 (senC s1).sent, .int .u64 (senC s1).lim, .int .i64 (senC s1).timer, .bool (senC s1).ended] (by rfl) (by rfl) hB.b1 rfl senderI (by simp [Value.oneCell'])).imp fun w7 hx => ⟨hx.1, TwoS.set1 hs2 (by decide) (hAt 1 (by simp)).2 (hB.store1 (LRes.res _ _) (LRes.res _ _) hx.2.1 hx.2.2)⟩
                    try simp only [Act.put]
                    refine Ps.step (i := 9) (d := none) (u := undef) rfl rfl (by kernel_rfl) (by kernel_rfl) (by kernel_rfl) (by kernel_rfl) ?yw7q_47 ?rw7q_47
                    case yw7q_47 =>
                      refine StepS.store [1, 5, 6, 7, 8] (by kernel_rfl) (by rfl) (fun L9 m9 w9 hSh hAt hDn hS => ?_)
                      obtain ⟨p1, p2, cc, hk, hB⟩ := TwoS.at1 hS (hAt 8 (by simp)).1 hDn
                      obtain rfl : g7 = p2 := pt_inj ((hAt 7 (by simp)).2.symm.trans hB.e2)
                      refine (exec_store_blk (w := w9) 29 (.tmp 10) (.tmp 39) (by rfl) g7 29 #[.int .u32 0, .int .u64 0, .slice none 0 0, .int .u64 0, .int .u64 0, .int .i64 0, .bool false] #[.int .u32 (senC s0).ses, .int .u64 (senC s0).base, .slice vA vn vc, .int .u64 (senC s0).sent, .int .u64 (senC s0).lim, .int .i64 (senC s0).timer, .bool (senC s0).ended] (by rfl) (by rfl) hB.b2 rfl senderI (by simp [Value.oneCell'])).imp fun w7 hx => ⟨hx.1, TwoS.set2 (by decide) (hAt 8 (by simp)).1 hk (hAt 5 (by simp)).2 (hB.store2 (LRes.res _ _) (LRes.res _ _) hx.2.1 hx.2.2)⟩
                    try simp only [Act.put]
                    refine Ps.done (by kernel_rfl) (fun w7q hS => ?_) _
                    obtain ⟨p1, p2, d1, d2, hk1, hk2, hB⟩ := TwoS.fin hS (by rfl)
                    clear hS
                    obtain rfl : g6 = p1 := pt_inj hB.e1
                    obtain rfl : g7 = p2 := pt_inj hB.e2
                    have hk1 : Value.agg #[.int .u32 (senC s1).ses, .int .u64 (senC s1).base, .slice uA un uc, .int .u64 (senC s1).sent, .int .u64 (senC s1).lim, .int .i64 (senC s1).timer, .bool (senC s1).ended] = .agg d1 := hk1
                    have hk2 : Value.agg #[.int .u32 (senC s0).ses, .int .u64 (senC s0).base, .slice vA vn vc, .int .u64 (senC s0).sent, .int .u64 (senC s0).lim, .int .i64 (senC s0).timer, .bool (senC s0).ended] = .agg d2 := hk2
                    injection hk1 with hk1
                    injection hk2 with hk2
                    subst hk1 hk2
                    refine ⟨g6, g7, uA, un, uc, vA, vn, vc, ?_, hB.b1, hB.b2, ⟨res_rdS hB.r1, res_rdS hB.r2⟩, hB.bel, ⟨res_capS hB.r1, res_capS hB.r2⟩⟩
                    simp only
              case tw7q_40_6 =>
                refine Turns.mk (d := some 9) rfl rfl (TurnS.value (V := fun v => ∃ g, v = .pointer (some ⟨g, 0, none⟩)) [] (by kernel_rfl) (by rfl) (fun L9 m9 w9 hSh hAt hDn hS => ?cw7q_40_6)) (fun v6 hVv6 => ?rw7q_40_6)
                case cw7q_40_6 =>
                  have hs1 := reach_no hSh (f := 10) (j := 8) (d := 6) (by kernel_rfl) hDn
                  have hs2 := reach_no hSh (f := 10) (j := 9) (d := 6) (by kernel_rfl) hDn
                  refine ⟨.pointer (some ⟨w9.heap.size, 0, none⟩), w9.alloc (.cells #[.int .u32 0, .int .u64 0, .slice none 0 0, .int .u64 0, .int .u64 0, .int .i64 0, .bool false] 29), ?_, ⟨_, rfl⟩, TwoS.make1 hS NoRes.res (LRes.res _ _) (LRes.res _ _) hs1 hs2 (by decide)⟩
                  clear hS
                  go_simp
                  try rfl
                try simp only [Act.put, List.setIfInBounds_toArray, List.set_cons_zero, List.set_cons_succ]
                obtain ⟨g6, rfl⟩ := hVv6
                refine Ps.some1 (i := 1) (by kernel_rfl) ?tw7q_48_1
                case tw7q_48_1 =>
                  refine Turns.mk (d := some 35) rfl rfl (TurnS.call (V := fun v => ∃ zA zn zc, v = .agg #[.int .u32 (senC s1).ses, .int .u64 (senC s1).base, .slice zA zn zc, .int .u64 (senC s1).sent, .int .u64 (senC s1).lim, .int .i64 (senC s1).timer, .bool (senC s1).ended]) ?fw7q_48_1 ?aw7q_48_1 [] (by kernel_rfl) (by rfl) (fun w9 => ?hw7q_48_1) (fun L9 m9 w9 hSh hAt hDn hS => ?cw7q_48_1)) (fun v1 hVv1 => ?rw7q_48_1)
                  case hw7q_48_1 => go_simp; refine ⟨?_, ?_⟩ <;> rfl
                  case cw7q_48_1 =>
                    have hs1 := reach_no hSh (f := 10) (j := 8) (d := 1) (by kernel_rfl) hDn
                    have hs2 := reach_no hSh (f := 10) (j := 9) (d := 1) (by kernel_rfl) hDn
                    have hT := TwoS.any hS
                    have hsz := hT.size
                    refine (senderC_any (fun b => b < w5.heap.size) s1 xA xn xc w9 (Lay.rd_below HRX.out hT) hxm.1 hxm.2).mono ?_
                    rintro e w8 ⟨zA, zn, zc, rfl, hr, h1, h2, q8⟩
                    have rd : LB3.rd w8 (Av 6 7 m9) zA zn (senC s1).q := Lay.rd_weak (fun b hb _ => (hS.at0 hs1).avoid (.inr hb.1)) hr
                    exact ⟨_, rfl, ⟨zA, zn, zc, rfl⟩, TwoS.call hS NoRes.res (LRes.res _ _) (LRes.res _ _) hs1 hs2 (by decide) q8 (fun e => absurd e (by decide)) (fun _ => ⟨senC s1, _, rfl, ⟨zA, zn, zc, rfl, h1, h2, rd⟩, rfl⟩) (fun e => absurd e (by decide))⟩
                  try simp only [Act.put, List.setIfInBounds_toArray, List.set_cons_zero, List.set_cons_succ]
                  obtain ⟨uA, un, uc, rfl⟩ := hVv1
                  refine Ps.some1 (i := 5) (by kernel_rfl) ?tw7q_49_5
                  case tw7q_49_5 =>
                    refine Turns.mk (d := some 39) rfl rfl (TurnS.call (V := fun v => ∃ zA zn zc, v = .agg #[.int .u32 (senC s0).ses, .int .u64 (senC s0).base, .slice zA zn zc, .int .u64 (senC s0).sent, .int .u64 (senC s0).lim, .int .i64 (senC s0).timer, .bool (senC s0).ended]) ?fw7q_49_5 ?aw7q_49_5 [] (by kernel_rfl) (by rfl) (fun w9 => ?hw7q_49_5) (fun L9 m9 w9 hSh hAt hDn hS => ?cw7q_49_5)) (fun v5 hVv5 => ?rw7q_49_5)
                    case hw7q_49_5 => go_simp; refine ⟨?_, ?_⟩ <;> rfl
                    case cw7q_49_5 =>
                      have hs1 := reach_no hSh (f := 10) (j := 8) (d := 5) (by kernel_rfl) hDn
                      have hs2 := reach_no hSh (f := 10) (j := 9) (d := 5) (by kernel_rfl) hDn
                      have hT := TwoS.any hS
                      have hsz := hT.size
                      refine (senderC_any (fun b => b < w5.heap.size) s0 yA yn yc w9 (Lay.rd_below HRY.out hT) hym.1 hym.2).mono ?_
                      rintro e w8 ⟨zA, zn, zc, rfl, hr, h1, h2, q8⟩
                      have rd : LB3.rd w8 (Av 6 7 m9) zA zn (senC s0).q := Lay.rd_weak (fun b hb _ => (hS.at0 hs1).avoid (.inr hb.1)) hr
                      exact ⟨_, rfl, ⟨zA, zn, zc, rfl⟩, TwoS.call hS NoRes.res (LRes.res _ _) (LRes.res _ _) hs1 hs2 (by decide) q8 (fun e => absurd e (by decide)) (fun e => absurd e (by decide)) (fun _ => ⟨senC s0, _, rfl, ⟨zA, zn, zc, rfl, h1, h2, rd⟩, rfl⟩)⟩
                    try simp only [Act.put, List.setIfInBounds_toArray, List.set_cons_zero, List.set_cons_succ]
                    obtain ⟨vA, vn, vc, rfl⟩ := hVv5
                    refine Ps.step (i := 8) (d := none) (u := undef) rfl rfl (by kernel_rfl) (by kernel_rfl) (by kernel_rfl) (by kernel_rfl) ?yw7q_50 ?rw7q_50
                    case yw7q_50 =>
                      refine StepS.store [1, 5, 6, 7] (by kernel_rfl) (by rfl) (fun L9 m9 w9 hSh hAt hDn hS => ?_)
                      have hs2 := reach_no hSh (f := 10) (j := 9) (d := 8) (by kernel_rfl) hDn
                      obtain ⟨p1, p2, hB⟩ := TwoS.ready1 hS hDn (hAt 6 (by simp)).1 (hAt 7 (by simp)).1 (hAt 1 (by simp)).1 (hAt 5 (by simp)).1
                      obtain rfl : g6 = p1 := pt_inj ((hAt 6 (by simp)).2.symm.trans hB.e1)
                      refine (exec_store_blk (w := w9) 29 (.tmp 9) (.tmp 35) (by rfl) g6 29 #[.int .u32 0, .int .u64 0, .slice none 0 0, .int .u64 0, .int .u64 0, .int .i64 0, .bool false] #[.int .u32 (senC s1).ses, .int .u64 (senC s1).base, .slice uA un uc, .int .u64 (senC s1).sent, .int .u64 (senC s1).lim, .int .i64 (senC s1).timer, .bool (senC s1).ended] (by rfl) (by rfl) hB.b1 rfl senderI (by simp [Value.oneCell'])).imp fun w7 hx => ⟨hx.1, TwoS.set1 hs2 (by decide) (hAt 1 (by simp)).2 (hB.store1 (LRes.res _ _) (LRes.res _ _) hx.2.1 hx.2.2)⟩
                    try simp only [Act.put]
                    refine Ps.step (i := 9) (d := none) (u := undef) rfl rfl (by kernel_rfl) (by kernel_rfl) (by kernel_rfl) (by kernel_rfl) ?yw7q_51 ?rw7q_51
                    case yw7q_51 =>
                      refine StepS.store [1, 5, 6, 7, 8] (by kernel_rfl) (by rfl) (fun L9 m9 w9 hSh hAt hDn hS => ?_)
                      obtain ⟨p1, p2, cc, hk, hB⟩ := TwoS.at1 hS (hAt 8 (by simp)).1 hDn
                      obtain rfl : g7 = p2 := pt_inj ((hAt 7 (by simp)).2.symm.trans hB.e2)
                      refine (exec_store_blk (w := w9) 29 (.tmp 10) (.tmp 39) (by rfl) g7 29 #[.int .u32 0, .int .u64 0, .slice none 0 0, .int .u64 0, .int .u64 0, .int .i64 0, .bool false] #[.int .u32 (senC s0).ses, .int .u64 (senC s0).base, .slice vA vn vc, .int .u64 (senC s0).sent, .int .u64 (senC s0).lim, .int .i64 (senC s0).timer, .bool (senC s0).ended] (by rfl) (by rfl) hB.b2 rfl senderI (by simp [Value.oneCell'])).imp fun w7 hx => ⟨hx.1, TwoS.set2 (by decide) (hAt 8 (by simp)).1 hk (hAt 5 (by simp)).2 (hB.store2 (LRes.res _ _) (LRes.res _ _) hx.2.1 hx.2.2)⟩
                    try simp only [Act.put]
                    refine Ps.done (by kernel_rfl) (fun w7q hS => ?_) _
                    obtain ⟨p1, p2, d1, d2, hk1, hk2, hB⟩ := TwoS.fin hS (by rfl)
                    clear hS
                    obtain rfl : g6 = p1 := pt_inj hB.e1
                    obtain rfl : g7 = p2 := pt_inj hB.e2
                    have hk1 : Value.agg #[.int .u32 (senC s1).ses, .int .u64 (senC s1).base, .slice uA un uc, .int .u64 (senC s1).sent, .int .u64 (senC s1).lim, .int .i64 (senC s1).timer, .bool (senC s1).ended] = .agg d1 := hk1
                    have hk2 : Value.agg #[.int .u32 (senC s0).ses, .int .u64 (senC s0).base, .slice vA vn vc, .int .u64 (senC s0).sent, .int .u64 (senC s0).lim, .int .i64 (senC s0).timer, .bool (senC s0).ended] = .agg d2 := hk2
                    injection hk1 with hk1
                    injection hk2 with hk2
                    subst hk1 hk2
                    refine ⟨g6, g7, uA, un, uc, vA, vn, vc, ?_, hB.b1, hB.b2, ⟨res_rdS hB.r1, res_rdS hB.r2⟩, hB.bel, ⟨res_capS hB.r1, res_capS hB.r2⟩⟩
                    simp only
          case kpsw7q =>
            intro a' w6 hF
            obtain ⟨g6, g7, uA, un, uc, vA, vn, vc, rfl, h6, h7, hrd, hb6, hcap⟩ := hF
            have H6 := Lib.hid h6
            have H7 := Lib.hid h7
            have HRD := Lib.hid hrd
            have HCAP := Lib.hid hcap
            have HX6 := Lib.hid (HX8.out.ca hb6)
            have HB6 := Lib.hid (bl_ca HBW5.out hb6)
            have HRX6 := Lib.hid (Lay.rd_below HRX.out hb6)
            clear h6 h7 hrd hb6 hcap HX8 HBW5 HRX HRY HF0 HF1 HF2 HF3 HF4 HF5 HF6
            obtain ⟨R, hR⟩ : ∃ R, R = sendB (senC s1) := ⟨_, rfl⟩
            have HRE := Lib.hid hR
            clear hR
            have y0 : w6.cell? ⟨g6, 0, none⟩ = some (.int .u32 (senC s1).ses) := H6.out.cell 0
            have y1 : w6.cell? ⟨g6, 1, none⟩ = some (.int .u64 (senC s1).base) := H6.out.cell 1
            have y2 : w6.cell? ⟨g6, 2, none⟩ = some (.slice uA un uc) := H6.out.cell 2
            have y3 : w6.cell? ⟨g6, 3, none⟩ = some (.int .u64 (senC s1).sent) := H6.out.cell 3
            have y4 : w6.cell? ⟨g6, 4, none⟩ = some (.int .u64 (senC s1).lim) := H6.out.cell 4
            have y5 : w6.cell? ⟨g6, 5, none⟩ = some (.int .i64 (senC s1).timer) := H6.out.cell 5
            have y6 : w6.cell? ⟨g6, 6, none⟩ = some (.bool (senC s1).ended) := H6.out.cell 6
            go_wp2_with fail
            refine (rsend_any AllB (senC s1) uA un uc w6 HRD.out.1 HCAP.out.1).mono ?_
            rw [← HRE.out]
            rintro e w7 ⟨rfl, q7⟩
            have HQ7 := Lib.hid q7
            clear q7
            clear y0 y1 y2 y3 y4 y5 y6
            have y0 : w7.cell? ⟨g6, 0, none⟩ = some (.int .u32 (senC s1).ses) := (H6.out.ca HQ7.out).cell 0
            have y1 : w7.cell? ⟨g6, 1, none⟩ = some (.int .u64 (senC s1).base) := (H6.out.ca HQ7.out).cell 1
            have y2 : w7.cell? ⟨g6, 2, none⟩ = some (.slice uA un uc) := (H6.out.ca HQ7.out).cell 2
            have y3 : w7.cell? ⟨g6, 3, none⟩ = some (.int .u64 (senC s1).sent) := (H6.out.ca HQ7.out).cell 3
            have y4 : w7.cell? ⟨g6, 4, none⟩ = some (.int .u64 (senC s1).lim) := (H6.out.ca HQ7.out).cell 4
            have y5 : w7.cell? ⟨g6, 5, none⟩ = some (.int .i64 (senC s1).timer) := (H6.out.ca HQ7.out).cell 5
            have y6 : w7.cell? ⟨g6, 6, none⟩ = some (.bool (senC s1).ended) := (H6.out.ca HQ7.out).cell 6
            go_wp2_with fail
            refine (csend_any AllB (senC s1) uA un uc w7 (Lay.rd_below HRD.out.1 HQ7.out) HCAP.out.1 HP1.out).mono ?_
            rw [← HRE.out]
            rintro e w8 ⟨rfl, q8⟩
            have HQ8 := Lib.hid (bl_ca HQ7.out q8)
            clear q8
            clear y0 y1 y2 y3 y4 y5 y6
            obtain ⟨E, hE⟩ : ∃ E : Int, E = (if R = true then 0 else 320) := ⟨_, rfl⟩
            rw [← hE]
            have HEE := Lib.hid hE
            clear hE
            go_upto_region 10 with fail
            obtain ⟨bS, hbS⟩ : ∃ b, b = eqSC (senC s1) (senC s0) := ⟨_, rfl⟩
            have HBS := Lib.hid hbS
            clear hbS
            have HG6 := Lib.hid (H6.out.ca HQ8.out)
            have HG7 := Lib.hid (H7.out.ca HQ8.out)
            have HG8 := Lib.hid (HX6.out.ca HQ8.out)
            have HD := Lib.hid (And.intro (Lay.rd_below HRD.out.1 HQ8.out) (Lay.rd_below HRD.out.2 HQ8.out))
            have HX := Lib.hid (Lay.rd_below HRX6.out HQ8.out)
            refine wp_region_ps (S := SeqN [24] (fun j m w' => match j with | 0 => Below w8.heap.size w8 w' | _ => Below w8.heap.size w8 w' ∧ ∃ zA zn zc, m 24 = .agg #[.int .u32 (senC s1).ses, .int .u64 (senC s1).base, .slice zA zn zc, .int .u64 (senC s1).sent, .int .u64 (senC s1).lim, .int .i64 (senC s1).timer, .bool (senC s1).ended] ∧ LB3.rd w' AllB zA zn (senC s1).q)) (by kernel_rfl) ?spswg1 ?ppswg1
            case spswg1 =>
              exact SeqN.start (by rfl) (Below.refl _ _).drew
            refine Ps.step (i := 0) (d := some 44) (u := (.int .i64 (E))) rfl rfl (by kernel_rfl) (by kernel_rfl) (by kernel_rfl) (by kernel_rfl) ?ywg1_2 ?rwg1_2
            case ywg1_2 =>
              refine StepS.pure (SeqN.pass (by decide)) (by rfl) (fun w9 => ?_)
              first | rfl | (go_simp; done) | (go_simp; rfl)
            try simp only [Act.put, List.setIfInBounds_toArray, List.set_cons_zero, List.set_cons_succ]
            refine Ps.step (i := 1) (d := some 45) (u := (.bool (decide (E = 0)))) rfl rfl (by kernel_rfl) (by kernel_rfl) (by kernel_rfl) (by kernel_rfl) ?ywg1_3 ?rwg1_3
            case ywg1_3 =>
              refine StepS.pure (SeqN.pass (by decide)) (by rfl) (fun w9 => ?_)
              first | rfl | (go_simp; done) | (go_simp; rfl)
            try simp only [Act.put, List.setIfInBounds_toArray, List.set_cons_zero, List.set_cons_succ]
            refine Ps.step (i := 2) (d := some 46) (u := (.bool (R))) rfl rfl (by kernel_rfl) (by kernel_rfl) (by kernel_rfl) (by kernel_rfl) ?ywg1_4 ?rwg1_4
            case ywg1_4 =>
              refine StepS.pure (SeqN.pass (by decide)) (by rfl) (fun w9 => ?_)
              first | rfl | (go_simp; done) | (go_simp; rfl)
            try simp only [Act.put, List.setIfInBounds_toArray, List.set_cons_zero, List.set_cons_succ]
            refine Ps.step (i := 3) (d := some 47) (u := (.bool (false))) rfl rfl (by kernel_rfl) (by kernel_rfl) (by kernel_rfl) (by kernel_rfl) ?ywg1_5 ?rwg1_5
            case ywg1_5 =>
              refine StepS.pure (SeqN.pass (by decide)) (by rfl) (fun w9 => ?_)
              cases R
              · obtain rfl : E = 320 := by rw [HEE.out]; rfl
                rfl
              · obtain rfl : E = 0 := by rw [HEE.out]; rfl
                rfl
            try simp only [Act.put, List.setIfInBounds_toArray, List.set_cons_zero, List.set_cons_succ]
            refine Ps.step (i := 4) (d := some 48) (u := (.bool (false))) rfl rfl (by kernel_rfl) (by kernel_rfl) (by kernel_rfl) (by kernel_rfl) ?ywg1_6 ?rwg1_6
            case ywg1_6 =>
              refine StepS.pure (SeqN.pass (by decide)) (by rfl) (fun w9 => ?_)
              first | rfl | (go_simp; done) | (go_simp; rfl)
            try simp only [Act.put, List.setIfInBounds_toArray, List.set_cons_zero, List.set_cons_succ]
            refine Ps.step (i := 5) (d := some 49) (u := (.bool (R))) rfl rfl (by kernel_rfl) (by kernel_rfl) (by kernel_rfl) (by kernel_rfl) ?ywg1_7 ?rwg1_7
            case ywg1_7 =>
              refine StepS.pure (SeqN.pass (by decide)) (by rfl) (fun w9 => ?_)
              first | rfl | (go_simp; done) | (go_simp; rfl)
            try simp only [Act.put, List.setIfInBounds_toArray, List.set_cons_zero, List.set_cons_succ]
            refine Ps.step (i := 6) (d := some 50) (u := (.bool (!R))) rfl rfl (by kernel_rfl) (by kernel_rfl) (by kernel_rfl) (by kernel_rfl) ?ywg1_8 ?rwg1_8
            case ywg1_8 =>
              refine StepS.pure (SeqN.pass (by decide)) (by rfl) (fun w9 => ?_)
              first | rfl | (go_simp; done) | (go_simp; rfl)
            try simp only [Act.put, List.setIfInBounds_toArray, List.set_cons_zero, List.set_cons_succ]
            obtain ⟨bR, hb9⟩ : ∃ b : Bool, b = (!R) := ⟨_, rfl⟩
            have HEbR := Lib.hid hb9
            clear hb9
            refine Ps.step (i := 7) (d := some 51) (u := (.bool (bR))) rfl rfl (by kernel_rfl) (by kernel_rfl) (by kernel_rfl) (by kernel_rfl) ?ywg1_9 ?rwg1_9
            case ywg1_9 =>
              refine StepS.pure (SeqN.pass (by decide)) (by rfl) (fun w9 => ?_)
              have e9 : (!R) = bR := by rw [HEbR.out]
              rw [← e9]
              clear e9
              first | rfl | (go_simp; done) | (go_simp; rfl)
            try simp only [Act.put, List.setIfInBounds_toArray, List.set_cons_zero, List.set_cons_succ]
            refine Ps.step (i := 8) (d := some 52) (u := (cond bR (.int .i64 (E)) (undef))) rfl rfl (by kernel_rfl) (by kernel_rfl) (by kernel_rfl) (by kernel_rfl) ?ywg1_10 ?rwg1_10
            case ywg1_10 =>
              cases bR
              · exact StepS.skip (SeqN.pass (by decide)) (by rfl)
              · skip
                refine StepS.pure (SeqN.pass (by decide)) (by rfl) (fun w9 => ?_)
                first | rfl | (go_simp; done) | (go_simp; rfl)
            try simp only [Act.put, List.setIfInBounds_toArray, List.set_cons_zero, List.set_cons_succ]
            refine Ps.step (i := 9) (d := some 53) (u := (cond bR (.bool (!decide (E = 320))) (undef))) rfl rfl (by kernel_rfl) (by kernel_rfl) (by kernel_rfl) (by kernel_rfl) ?ywg1_11 ?rwg1_11
            case ywg1_11 =>
              cases bR
              · exact StepS.skip (SeqN.pass (by decide)) (by rfl)
              · skip
                refine StepS.pure (SeqN.pass (by decide)) (by rfl) (fun w9 => ?_)
                first | rfl | (go_simp; done) | (go_simp; rfl)
            try simp only [Act.put, List.setIfInBounds_toArray, List.set_cons_zero, List.set_cons_succ]
            refine Ps.step (i := 10) (d := some 54) (u := (.bool (false))) rfl rfl (by kernel_rfl) (by kernel_rfl) (by kernel_rfl) (by kernel_rfl) ?ywg1_12 ?rwg1_12
            case ywg1_12 =>
              refine StepS.pure (SeqN.pass (by decide)) (by rfl) (fun w9 => ?_)
              cases bR
              · rfl
              · obtain rfl : E = 320 := by have h := HEbR.out; rw [HEE.out]; revert h; cases R <;> simp
                rfl
            try simp only [Act.put, List.setIfInBounds_toArray, List.set_cons_zero, List.set_cons_succ]
            refine Ps.step (i := 11) (d := some 55) (u := (.bool (false))) rfl rfl (by kernel_rfl) (by kernel_rfl) (by kernel_rfl) (by kernel_rfl) ?ywg1_13 ?rwg1_13
            case ywg1_13 =>
              refine StepS.pure (SeqN.pass (by decide)) (by rfl) (fun w9 => ?_)
              rfl
            try simp only [Act.put, List.setIfInBounds_toArray, List.set_cons_zero, List.set_cons_succ]
            refine Ps.step (i := 12) (d := some 56) (u := (.bool (false))) rfl rfl (by kernel_rfl) (by kernel_rfl) (by kernel_rfl) (by kernel_rfl) ?ywg1_14 ?rwg1_14
            case ywg1_14 =>
              refine StepS.pure (SeqN.pass (by decide)) (by rfl) (fun w9 => ?_)
              first | rfl | (go_simp; done) | (go_simp; rfl)
            try simp only [Act.put, List.setIfInBounds_toArray, List.set_cons_zero, List.set_cons_succ]
            refine Ps.step (i := 13) (d := some 57) (u := (.agg #[.int .u32 ((senC s1).ses), .int .u64 ((senC s1).base), .slice uA un uc, .int .u64 ((senC s1).sent), .int .u64 ((senC s1).lim), .int .i64 ((senC s1).timer), .bool ((senC s1).ended)])) rfl rfl (by kernel_rfl) (by kernel_rfl) (by kernel_rfl) (by kernel_rfl) ?ywg1_15 ?rwg1_15
            case ywg1_15 =>
              refine StepS.read [] (by kernel_rfl) (SeqN.pass (by decide)) (by rfl) (fun L9 m9 w9 hSh hAt hDn hS => ?_)
              have hT : Below w8.heap.size w8 w9 := SeqN.any (T := fun w9 => Below w8.heap.size w8 w9) (fun j _ _ h => by match j, h with | 0, h => exact h | _ + 1, h => exact h.1) hS
              have x0 : w9.cell? ⟨g6, 0, none⟩ = some (.int .u32 ((senC s1).ses)) := (HG6.out.ca hT).cell 0
              have x1 : w9.cell? ⟨g6, 1, none⟩ = some (.int .u64 ((senC s1).base)) := (HG6.out.ca hT).cell 1
              have x2 : w9.cell? ⟨g6, 2, none⟩ = some (.slice uA un uc) := (HG6.out.ca hT).cell 2
              have x3 : w9.cell? ⟨g6, 3, none⟩ = some (.int .u64 ((senC s1).sent)) := (HG6.out.ca hT).cell 3
              have x4 : w9.cell? ⟨g6, 4, none⟩ = some (.int .u64 ((senC s1).lim)) := (HG6.out.ca hT).cell 4
              have x5 : w9.cell? ⟨g6, 5, none⟩ = some (.int .i64 ((senC s1).timer)) := (HG6.out.ca hT).cell 5
              have x6 : w9.cell? ⟨g6, 6, none⟩ = some (.bool ((senC s1).ended)) := (HG6.out.ca hT).cell 6
              clear hT hS
              go_simp
              try rfl
            try simp only [Act.put, List.setIfInBounds_toArray, List.set_cons_zero, List.set_cons_succ]
            refine Ps.step (i := 14) (d := some 58) (u := (.agg #[.int .u32 ((senC s0).ses), .int .u64 ((senC s0).base), .slice vA vn vc, .int .u64 ((senC s0).sent), .int .u64 ((senC s0).lim), .int .i64 ((senC s0).timer), .bool ((senC s0).ended)])) rfl rfl (by kernel_rfl) (by kernel_rfl) (by kernel_rfl) (by kernel_rfl) ?ywg1_16 ?rwg1_16
            case ywg1_16 =>
              refine StepS.read [] (by kernel_rfl) (SeqN.pass (by decide)) (by rfl) (fun L9 m9 w9 hSh hAt hDn hS => ?_)
              have hT : Below w8.heap.size w8 w9 := SeqN.any (T := fun w9 => Below w8.heap.size w8 w9) (fun j _ _ h => by match j, h with | 0, h => exact h | _ + 1, h => exact h.1) hS
              have x0 : w9.cell? ⟨g7, 0, none⟩ = some (.int .u32 ((senC s0).ses)) := (HG7.out.ca hT).cell 0
              have x1 : w9.cell? ⟨g7, 1, none⟩ = some (.int .u64 ((senC s0).base)) := (HG7.out.ca hT).cell 1
              have x2 : w9.cell? ⟨g7, 2, none⟩ = some (.slice vA vn vc) := (HG7.out.ca hT).cell 2
              have x3 : w9.cell? ⟨g7, 3, none⟩ = some (.int .u64 ((senC s0).sent)) := (HG7.out.ca hT).cell 3
              have x4 : w9.cell? ⟨g7, 4, none⟩ = some (.int .u64 ((senC s0).lim)) := (HG7.out.ca hT).cell 4
              have x5 : w9.cell? ⟨g7, 5, none⟩ = some (.int .i64 ((senC s0).timer)) := (HG7.out.ca hT).cell 5
              have x6 : w9.cell? ⟨g7, 6, none⟩ = some (.bool ((senC s0).ended)) := (HG7.out.ca hT).cell 6
              clear hT hS
              go_simp
              try rfl
            try simp only [Act.put, List.setIfInBounds_toArray, List.set_cons_zero, List.set_cons_succ]
            refine Ps.step (i := 15) (d := some 59) (u := (.bool (bS))) rfl rfl (by kernel_rfl) (by kernel_rfl) (by kernel_rfl) (by kernel_rfl) ?ywg1_17 ?rwg1_17
            case ywg1_17 =>
              refine StepS.call ?fwg1_17 ?awg1_17 [] (by kernel_rfl) (by rfl) (fun w9 => ?hwg1_17) (fun L9 m9 w9 hSh hAt hDn hS => ?cwg1_17)
              case hwg1_17 => go_simp; refine ⟨?_, ?_⟩ <;> rfl
              case cwg1_17 =>
                have hT : Below w8.heap.size w8 w9 := SeqN.any (T := fun w9 => Below w8.heap.size w8 w9) (fun j _ _ h => by match j, h with | 0, h => exact h | _ + 1, h => exact h.1) hS
                refine (sameS_any AllB AllB (senC s1) (senC s0) uA vA un uc vn vc w9 (Lay.rd_below HD.out.1 hT) (Lay.rd_below HD.out.2 hT) HCAP.out.1).mono ?_
                rintro e w8 ⟨rfl, q8⟩
                exact ⟨by rw [HBS.out], SeqN.move (w := w9) (by decide) (fun j m h => by match j, h with | 0, h => exact bl_ca h q8 | _ + 1, ⟨h, zA, zn, zc, e, r⟩ => exact ⟨bl_ca h q8, zA, zn, zc, e, Lay.rd_below r q8⟩) hS⟩
            try simp only [Act.put, List.setIfInBounds_toArray, List.set_cons_zero, List.set_cons_succ]
            refine Ps.step (i := 16) (d := some 60) (u := (.agg #[.int .u32 ((senC s1).ses), .int .u64 ((senC s1).base), .slice uA un uc, .int .u64 ((senC s1).sent), .int .u64 ((senC s1).lim), .int .i64 ((senC s1).timer), .bool ((senC s1).ended)])) rfl rfl (by kernel_rfl) (by kernel_rfl) (by kernel_rfl) (by kernel_rfl) ?ywg1_18 ?rwg1_18
            case ywg1_18 =>
              refine StepS.read [] (by kernel_rfl) (SeqN.pass (by decide)) (by rfl) (fun L9 m9 w9 hSh hAt hDn hS => ?_)
              have hT : Below w8.heap.size w8 w9 := SeqN.any (T := fun w9 => Below w8.heap.size w8 w9) (fun j _ _ h => by match j, h with | 0, h => exact h | _ + 1, h => exact h.1) hS
              have x0 : w9.cell? ⟨g6, 0, none⟩ = some (.int .u32 ((senC s1).ses)) := (HG6.out.ca hT).cell 0
              have x1 : w9.cell? ⟨g6, 1, none⟩ = some (.int .u64 ((senC s1).base)) := (HG6.out.ca hT).cell 1
              have x2 : w9.cell? ⟨g6, 2, none⟩ = some (.slice uA un uc) := (HG6.out.ca hT).cell 2
              have x3 : w9.cell? ⟨g6, 3, none⟩ = some (.int .u64 ((senC s1).sent)) := (HG6.out.ca hT).cell 3
              have x4 : w9.cell? ⟨g6, 4, none⟩ = some (.int .u64 ((senC s1).lim)) := (HG6.out.ca hT).cell 4
              have x5 : w9.cell? ⟨g6, 5, none⟩ = some (.int .i64 ((senC s1).timer)) := (HG6.out.ca hT).cell 5
              have x6 : w9.cell? ⟨g6, 6, none⟩ = some (.bool ((senC s1).ended)) := (HG6.out.ca hT).cell 6
              clear hT hS
              go_simp
              try rfl
            try simp only [Act.put, List.setIfInBounds_toArray, List.set_cons_zero, List.set_cons_succ]
            refine Ps.step (i := 17) (d := some 61) (u := (.agg #[.int .u32 ((senC s0).ses), .int .u64 ((senC s0).base), .slice vA vn vc, .int .u64 ((senC s0).sent), .int .u64 ((senC s0).lim), .int .i64 ((senC s0).timer), .bool ((senC s0).ended)])) rfl rfl (by kernel_rfl) (by kernel_rfl) (by kernel_rfl) (by kernel_rfl) ?ywg1_19 ?rwg1_19
            case ywg1_19 =>
              refine StepS.read [] (by kernel_rfl) (SeqN.pass (by decide)) (by rfl) (fun L9 m9 w9 hSh hAt hDn hS => ?_)
              have hT : Below w8.heap.size w8 w9 := SeqN.any (T := fun w9 => Below w8.heap.size w8 w9) (fun j _ _ h => by match j, h with | 0, h => exact h | _ + 1, h => exact h.1) hS
              have x0 : w9.cell? ⟨g7, 0, none⟩ = some (.int .u32 ((senC s0).ses)) := (HG7.out.ca hT).cell 0
              have x1 : w9.cell? ⟨g7, 1, none⟩ = some (.int .u64 ((senC s0).base)) := (HG7.out.ca hT).cell 1
              have x2 : w9.cell? ⟨g7, 2, none⟩ = some (.slice vA vn vc) := (HG7.out.ca hT).cell 2
              have x3 : w9.cell? ⟨g7, 3, none⟩ = some (.int .u64 ((senC s0).sent)) := (HG7.out.ca hT).cell 3
              have x4 : w9.cell? ⟨g7, 4, none⟩ = some (.int .u64 ((senC s0).lim)) := (HG7.out.ca hT).cell 4
              have x5 : w9.cell? ⟨g7, 5, none⟩ = some (.int .i64 ((senC s0).timer)) := (HG7.out.ca hT).cell 5
              have x6 : w9.cell? ⟨g7, 6, none⟩ = some (.bool ((senC s0).ended)) := (HG7.out.ca hT).cell 6
              clear hT hS
              go_simp
              try rfl
            try simp only [Act.put, List.setIfInBounds_toArray, List.set_cons_zero, List.set_cons_succ]
            refine Ps.step (i := 18) (d := some 62) (u := (.bool (bS))) rfl rfl (by kernel_rfl) (by kernel_rfl) (by kernel_rfl) (by kernel_rfl) ?ywg1_20 ?rwg1_20
            case ywg1_20 =>
              refine StepS.call ?fwg1_20 ?awg1_20 [] (by kernel_rfl) (by rfl) (fun w9 => ?hwg1_20) (fun L9 m9 w9 hSh hAt hDn hS => ?cwg1_20)
              case hwg1_20 => go_simp; refine ⟨?_, ?_⟩ <;> rfl
              case cwg1_20 =>
                have hT : Below w8.heap.size w8 w9 := SeqN.any (T := fun w9 => Below w8.heap.size w8 w9) (fun j _ _ h => by match j, h with | 0, h => exact h | _ + 1, h => exact h.1) hS
                refine (rsameS_any AllB AllB (senC s1) (senC s0) uA vA un uc vn vc w9 (Lay.rd_below HD.out.1 hT) (Lay.rd_below HD.out.2 hT) HCAP.out.1).mono ?_
                rintro e w8 ⟨rfl, q8⟩
                exact ⟨by rw [HBS.out], SeqN.move (w := w9) (by decide) (fun j m h => by match j, h with | 0, h => exact bl_ca h q8 | _ + 1, ⟨h, zA, zn, zc, e, r⟩ => exact ⟨bl_ca h q8, zA, zn, zc, e, Lay.rd_below r q8⟩) hS⟩
            try simp only [Act.put, List.setIfInBounds_toArray, List.set_cons_zero, List.set_cons_succ]
            refine Ps.step (i := 19) (d := some 63) (u := (.bool (false))) rfl rfl (by kernel_rfl) (by kernel_rfl) (by kernel_rfl) (by kernel_rfl) ?ywg1_21 ?rwg1_21
            case ywg1_21 =>
              refine StepS.pure (SeqN.pass (by decide)) (by rfl) (fun w9 => ?_)
              cases bS <;> rfl
            try simp only [Act.put, List.setIfInBounds_toArray, List.set_cons_zero, List.set_cons_succ]
            refine Ps.step (i := 20) (d := some 64) (u := (.bool (false))) rfl rfl (by kernel_rfl) (by kernel_rfl) (by kernel_rfl) (by kernel_rfl) ?ywg1_22 ?rwg1_22
            case ywg1_22 =>
              refine StepS.pure (SeqN.pass (by decide)) (by rfl) (fun w9 => ?_)
              rfl
            try simp only [Act.put, List.setIfInBounds_toArray, List.set_cons_zero, List.set_cons_succ]
            refine Ps.step (i := 21) (d := some 65) (u := (.bool (false))) rfl rfl (by kernel_rfl) (by kernel_rfl) (by kernel_rfl) (by kernel_rfl) ?ywg1_23 ?rwg1_23
            case ywg1_23 =>
              refine StepS.pure (SeqN.pass (by decide)) (by rfl) (fun w9 => ?_)
              first | rfl | (go_simp; done) | (go_simp; rfl)
            try simp only [Act.put, List.setIfInBounds_toArray, List.set_cons_zero, List.set_cons_succ]
            refine Ps.step (i := 22) (d := some 66) (u := (.agg #[.int .u32 ((senC s1).ses), .int .u64 ((senC s1).base), .slice uA un uc, .int .u64 ((senC s1).sent), .int .u64 ((senC s1).lim), .int .i64 ((senC s1).timer), .bool ((senC s1).ended)])) rfl rfl (by kernel_rfl) (by kernel_rfl) (by kernel_rfl) (by kernel_rfl) ?ywg1_24 ?rwg1_24
            case ywg1_24 =>
              refine StepS.read [] (by kernel_rfl) (SeqN.pass (by decide)) (by rfl) (fun L9 m9 w9 hSh hAt hDn hS => ?_)
              have hT : Below w8.heap.size w8 w9 := SeqN.any (T := fun w9 => Below w8.heap.size w8 w9) (fun j _ _ h => by match j, h with | 0, h => exact h | _ + 1, h => exact h.1) hS
              have x0 : w9.cell? ⟨g6, 0, none⟩ = some (.int .u32 ((senC s1).ses)) := (HG6.out.ca hT).cell 0
              have x1 : w9.cell? ⟨g6, 1, none⟩ = some (.int .u64 ((senC s1).base)) := (HG6.out.ca hT).cell 1
              have x2 : w9.cell? ⟨g6, 2, none⟩ = some (.slice uA un uc) := (HG6.out.ca hT).cell 2
              have x3 : w9.cell? ⟨g6, 3, none⟩ = some (.int .u64 ((senC s1).sent)) := (HG6.out.ca hT).cell 3
              have x4 : w9.cell? ⟨g6, 4, none⟩ = some (.int .u64 ((senC s1).lim)) := (HG6.out.ca hT).cell 4
              have x5 : w9.cell? ⟨g6, 5, none⟩ = some (.int .i64 ((senC s1).timer)) := (HG6.out.ca hT).cell 5
              have x6 : w9.cell? ⟨g6, 6, none⟩ = some (.bool ((senC s1).ended)) := (HG6.out.ca hT).cell 6
              clear hT hS
              go_simp
              try rfl
            try simp only [Act.put, List.setIfInBounds_toArray, List.set_cons_zero, List.set_cons_succ]
            refine Ps.step (i := 23) (d := some 67) (u := (.agg #[.int .u32 (s1.ses), .int .u64 (s1.base), .slice xA xn xc, .int .u64 (s1.sent), .int .u64 (s1.lim), .int .i64 (s1.timer), .bool (s1.ended)])) rfl rfl (by kernel_rfl) (by kernel_rfl) (by kernel_rfl) (by kernel_rfl) ?ywg1_25 ?rwg1_25
            case ywg1_25 =>
              refine StepS.read [] (by kernel_rfl) (SeqN.pass (by decide)) (by rfl) (fun L9 m9 w9 hSh hAt hDn hS => ?_)
              have hT : Below w8.heap.size w8 w9 := SeqN.any (T := fun w9 => Below w8.heap.size w8 w9) (fun j _ _ h => by match j, h with | 0, h => exact h | _ + 1, h => exact h.1) hS
              have x0 : w9.cell? ⟨g8, 0, none⟩ = some (.int .u32 (s1.ses)) := (HG8.out.ca hT).cell 0
              have x1 : w9.cell? ⟨g8, 1, none⟩ = some (.int .u64 (s1.base)) := (HG8.out.ca hT).cell 1
              have x2 : w9.cell? ⟨g8, 2, none⟩ = some (.slice xA xn xc) := (HG8.out.ca hT).cell 2
              have x3 : w9.cell? ⟨g8, 3, none⟩ = some (.int .u64 (s1.sent)) := (HG8.out.ca hT).cell 3
              have x4 : w9.cell? ⟨g8, 4, none⟩ = some (.int .u64 (s1.lim)) := (HG8.out.ca hT).cell 4
              have x5 : w9.cell? ⟨g8, 5, none⟩ = some (.int .i64 (s1.timer)) := (HG8.out.ca hT).cell 5
              have x6 : w9.cell? ⟨g8, 6, none⟩ = some (.bool (s1.ended)) := (HG8.out.ca hT).cell 6
              clear hT hS
              go_simp
              try rfl
            try simp only [Act.put, List.setIfInBounds_toArray, List.set_cons_zero, List.set_cons_succ]
            refine Ps.one (k := 24) (d := some 68) rfl rfl (by kernel_rfl) (TurnS.call (V := fun v => ∃ zA zn zc, v = .agg #[.int .u32 (senC s1).ses, .int .u64 (senC s1).base, .slice zA zn zc, .int .u64 (senC s1).sent, .int .u64 (senC s1).lim, .int .i64 (senC s1).timer, .bool (senC s1).ended]) ?fwg1_26 ?awg1_26 [] (by kernel_rfl) (by rfl) (fun w9 => ?hwg1_26) (fun L9 m9 w9 hSh hAt hDn hS => ?cwg1_26)) (fun v24 hVv24 => ?rwg1_26)
            case hwg1_26 => go_simp; refine ⟨?_, ?_⟩ <;> rfl
            case cwg1_26 =>
              have hT : Below w8.heap.size w8 w9 := SeqN.any (T := fun w9 => Below w8.heap.size w8 w9) (fun j _ _ h => by match j, h with | 0, h => exact h | _ + 1, h => exact h.1) hS
              refine (senderC_any _ s1 xA xn xc w9 (Lay.rd_below HX.out hT) hxm.1 hxm.2).mono ?_
              rintro e w8x ⟨zA, zn, zc, rfl, hr, _, _, q8⟩
              exact ⟨_, rfl, ⟨zA, zn, zc, rfl⟩, SeqN.set_ (m0 := m9) (m1 := m9) [] [] hSh (fun d hd => by cases hd) hDn (by kernel_rfl) (by decide) (by decide) ⟨bl_ca hT q8, zA, zn, zc, upd_same _ _ _, Lay.rd_weak (fun _ _ _ => trivial) hr⟩⟩
            try simp only [Act.put, List.setIfInBounds_toArray, List.set_cons_zero, List.set_cons_succ]
            obtain ⟨oA, on, oc, rfl⟩ := hVv24
            refine Ps.step (i := 25) (d := some 69) (u := (.bool (true))) rfl rfl (by kernel_rfl) (by kernel_rfl) (by kernel_rfl) (by kernel_rfl) ?ywg1_27 ?rwg1_27
            case ywg1_27 =>
              refine StepS.call ?fwg1_27 ?awg1_27 [24] (by kernel_rfl) (by rfl) (fun w9 => ?hwg1_27) (fun L9 m9 w9 hSh hAt hDn hS => ?cwg1_27)
              case hwg1_27 => go_simp; refine ⟨?_, ?_⟩ <;> rfl
              case cwg1_27 =>
                have hT : Below w8.heap.size w8 w9 := SeqN.any (T := fun w9 => Below w8.heap.size w8 w9) (fun j _ _ h => by match j, h with | 0, h => exact h | _ + 1, h => exact h.1) hS
                obtain ⟨_, zA, zn, zc, hm24, hr24⟩ := SeqN.after24 (hAt 24 (by simp)).1 hS
                obtain ⟨rfl, rfl, rfl⟩ : oA = zA ∧ on = zn ∧ oc = zc := by have h9 : Value.agg #[.int .u32 (senC s1).ses, .int .u64 (senC s1).base, .slice oA on oc, .int .u64 (senC s1).sent, .int .u64 (senC s1).lim, .int .i64 (senC s1).timer, .bool (senC s1).ended] = .agg #[.int .u32 (senC s1).ses, .int .u64 (senC s1).base, .slice zA zn zc, .int .u64 (senC s1).sent, .int .u64 (senC s1).lim, .int .i64 (senC s1).timer, .bool (senC s1).ended] := (hAt 24 (by simp)).2.symm.trans hm24; simpa [and_assoc] using h9
                refine (sameS_any AllB AllB (senC s1) (senC s1) uA oA un uc on oc w9 (Lay.rd_below HD.out.1 hT) hr24 HCAP.out.1).mono ?_
                rintro e w8 ⟨rfl, q8⟩
                exact ⟨by rw [eqSC_refl _], SeqN.move (w := w9) (by decide) (fun j m h => by match j, h with | 0, h => exact bl_ca h q8 | _ + 1, ⟨h, zA, zn, zc, e, r⟩ => exact ⟨bl_ca h q8, zA, zn, zc, e, Lay.rd_below r q8⟩) hS⟩
            try simp only [Act.put, List.setIfInBounds_toArray, List.set_cons_zero, List.set_cons_succ]
            refine Ps.step (i := 26) (d := some 70) (u := (.bool (!true))) rfl rfl (by kernel_rfl) (by kernel_rfl) (by kernel_rfl) (by kernel_rfl) ?ywg1_28 ?rwg1_28
            case ywg1_28 =>
              refine StepS.pure (SeqN.pass (by decide)) (by rfl) (fun w9 => ?_)
              first | rfl | (go_simp; done) | (go_simp; rfl)
            try simp only [Act.put, List.setIfInBounds_toArray, List.set_cons_zero, List.set_cons_succ]
            refine Ps.step (i := 27) (d := some 71) (u := (.bool (false))) rfl rfl (by kernel_rfl) (by kernel_rfl) (by kernel_rfl) (by kernel_rfl) ?ywg1_29 ?rwg1_29
            case ywg1_29 =>
              refine StepS.pure (SeqN.pass (by decide)) (by rfl) (fun w9 => ?_)
              rfl
            try simp only [Act.put, List.setIfInBounds_toArray, List.set_cons_zero, List.set_cons_succ]
            refine Ps.done (by kernel_rfl) (fun wg1 hS => ?_) _
            try generalize (cond bR (.bool (!decide (E = 320))) (undef) : Value) = zz30
            try generalize (cond bR (.int .i64 (E)) (undef) : Value) = zz31
            have HT10 := Lib.hid (show Below w8.heap.size w8 wg1 from SeqN.any (T := fun w9 => Below w8.heap.size w8 w9) (fun j _ _ h => by match j, h with | 0, h => exact h | _ + 1, h => exact h.1) hS)
            clear hS
            have HQ9 := Lib.hid (bl_ca HB6.out (bl_ca HQ8.out HT10.out))
            clear HT10
            obtain ⟨wn, rfl⟩ : ∃ x, x = wg1 := ⟨_, rfl⟩
            go_wp2
            go_roundg (gk - 1)
            · exact ⟨i + 1, by omega, by omega, by go_num, HQ9.out⟩
            · omega
      · obtain rfl : i = sn := by omega
        have hi1 : (i : Int) ≤ (i : Int) := by omega
        clear hbw hig hlt
        go_wp2_with fail
        go_meet
        exact ⟨rfl, HBW.out⟩
  case rest =>
    obtain ⟨rfl, hbc⟩ := hcut
    clear HB2
    have HB2 := Lib.hid hbc
    clear hbc
    go_upto_block 2 with fail
    go_cut [23] (fun rs wx => rs = .bool true ∧ Below w.heap.size w wx)
    case first =>
      go_wp2_with fail
      go_loopg [75] rn (fun g a wr => ∃ i : Nat, i + g = rn ∧ i ≤ 6 ∧ a = .int .i64 i ∧ Below w.heap.size w wr)
      case atStart => exact ⟨0, by omega, by omega, rfl, HB2.out⟩
      case round =>
        obtain ⟨i, hig, hi6, rfl, hbw⟩ := hrel
        have HBW := Lib.hid hbw
        clear HB2
        by_cases hlt : i < rn
        · have hi1 : (i : Int) < (rn : Int) := by omega
          obtain ⟨ad, s1, xA, xn, xc, xB, xm, xd, rfl, hxs1, hbs1, Ps1⟩ := LRV_at (Lay.rd_below HLR.out hbw) hlt
          have e0 := Ps1.c0
          have e1 := Ps1.c1
          have e2 := Ps1.c2
          have e3 := Ps1.c3
          have e4 := Ps1.c4
          have e5 := Ps1.c5
          by_cases hie : i = 6
          · have hi2 : ((i : Int) == 6) = true := by simp; omega
            clear hbw hxs1 hie hbs1 Ps1
            have HBE := Lib.hid (bl_al HBW.out (.cells #[.int .u32 s1.ses, .int .u64 s1.next, .slice xA xn xc, .slice xB xm xd, .int .i64 s1.room, .bool s1.over] 36))
            go_wp2_with fail
            go_meet
            exact ⟨rfl, HBE.out⟩
          · have hi2 : ((i : Int) == 6) = false := by simp; omega
            have hi7 : i < 6 := by omega
            have q5 := bl_al (Below.refl wr.heap.size wr) (.cells #[.int .u32 s1.ses, .int .u64 s1.next, .slice xA xn xc, .slice xB xm xd, .int .i64 s1.room, .bool s1.over] 36)
            have hX8 := Blk.new wr 36 #[.int .u32 s1.ses, .int .u64 s1.next, .slice xA xn xc, .slice xB xm xd, .int .i64 s1.room, .bool s1.over]
            obtain ⟨ad0, s0, yA, yn, yc, yB, ym, yd, had, hxs0, hbs0, Ps0⟩ := LRV_at (Lay.rd_below (Lay.rd_below HLR.out hbw) q5) (show 0 < rn by omega)
            injection had with had
            subst had
            rw [show ad.add (0 * 6) = ad from by rw [Nat.zero_mul]; rfl] at Ps0 hbs0
            have HF0 := Lib.hid Ps0.c0
            have HF1 := Lib.hid Ps0.c1
            have HF2 := Lib.hid Ps0.c2
            have HF3 := Lib.hid Ps0.c3
            have HF4 := Lib.hid Ps0.c4
            have HF5 := Lib.hid Ps0.c5
            have hfl := hbs0
            have hRXa : LH4.rd (wr.alloc (.cells #[.int .u32 s1.ses, .int .u64 s1.next, .slice xA xn xc, .slice xB xm xd, .int .i64 s1.room, .bool s1.over] 36)) (fun b => b < (wr.alloc (.cells #[.int .u32 s1.ses, .int .u64 s1.next, .slice xA xn xc, .slice xB xm xd, .int .i64 s1.room, .bool s1.over] 36)).heap.size) xA xn s1.ahead := Lay.rd_weak (fun _ _ h => h) (Lay.rd_below Ps1.rd q5)
            have hRXb : LB3.rd (wr.alloc (.cells #[.int .u32 s1.ses, .int .u64 s1.next, .slice xA xn xc, .slice xB xm xd, .int .i64 s1.room, .bool s1.over] 36)) (fun b => b < (wr.alloc (.cells #[.int .u32 s1.ses, .int .u64 s1.next, .slice xA xn xc, .slice xB xm xd, .int .i64 s1.room, .bool s1.over] 36)).heap.size) xB xm s1.buf := Lay.rd_weak (fun _ _ h => h) (Lay.rd_below Ps1.rd2 q5)
            have HRXa := Lib.hid hRXa
            have HRXb := Lib.hid hRXb
            have hxm := And.intro Ps1.nc (And.intro Ps1.cm (And.intro Ps1.nc2 Ps1.cm2))
            have hRYa : LH4.rd (wr.alloc (.cells #[.int .u32 s1.ses, .int .u64 s1.next, .slice xA xn xc, .slice xB xm xd, .int .i64 s1.room, .bool s1.over] 36)) (fun b => b < (wr.alloc (.cells #[.int .u32 s1.ses, .int .u64 s1.next, .slice xA xn xc, .slice xB xm xd, .int .i64 s1.room, .bool s1.over] 36)).heap.size) yA yn s0.ahead := Lay.rd_weak (fun _ _ h => h) Ps0.rd
            have hRYb : LB3.rd (wr.alloc (.cells #[.int .u32 s1.ses, .int .u64 s1.next, .slice xA xn xc, .slice xB xm xd, .int .i64 s1.room, .bool s1.over] 36)) (fun b => b < (wr.alloc (.cells #[.int .u32 s1.ses, .int .u64 s1.next, .slice xA xn xc, .slice xB xm xd, .int .i64 s1.room, .bool s1.over] 36)).heap.size) yB ym s0.buf := Lay.rd_weak (fun _ _ h => h) Ps0.rd2
            have HRYa := Lib.hid hRYa
            have HRYb := Lib.hid hRYb
            have hym := And.intro Ps0.nc (And.intro Ps0.cm (And.intro Ps0.nc2 Ps0.cm2))
            clear hRXa hRXb hRYa hRYb
            obtain ⟨g8, hg8⟩ : ∃ g, g = wr.heap.size := ⟨_, rfl⟩
            have HX8 := Lib.hid hX8
            have HBW5 := Lib.hid (bl_ca HBW.out q5)
            clear hX8 q5 hbw hxs1 hbs1 Ps1 hxs0 Ps0 hbs0 hie
            go_upto_region 17 with fail
            clear e0 e1 e2 e3 e4 e5
            generalize wr.alloc (.cells #[.int .u32 s1.ses, .int .u64 s1.next, .slice xA xn xc, .slice xB xm xd, .int .i64 s1.room, .bool s1.over] 36) = w5 at *
            rw [← hg8] at HX8 ⊢
            clear hg8
            refine wp_region_psF (F := fun a a' w' => ∃ g6 g7 uA un uc uB um ud vA vn vc vB vm vd, a' = ((((((((a.put (some 82) (.agg #[.int .u32 s1.ses, .int .u64 s1.next, .slice xA xn xc, .slice xB xm xd, .int .i64 s1.room, .bool s1.over])).put (some 83) (.agg #[.int .u32 (recC s1).ses, .int .u64 (recC s1).next, .slice uA un uc, .slice uB um ud, .int .i64 (recC s1).room, .bool (recC s1).over])).put (some 84) (.slice (some ad) rn rc)).put (some 85) (.pointer (some ad))).put (some 86) (.agg #[.int .u32 s0.ses, .int .u64 s0.next, .slice yA yn yc, .slice yB ym yd, .int .i64 s0.room, .bool s0.over])).put (some 87) (.agg #[.int .u32 (recC s0).ses, .int .u64 (recC s0).next, .slice vA vn vc, .slice vB vm vd, .int .i64 (recC s0).room, .bool (recC s0).over])).put (some 15) (.pointer (some ⟨g6, 0, none⟩))).put (some 16) (.pointer (some ⟨g7, 0, none⟩))) ∧ Blk w' g6 36 #[.int .u32 (recC s1).ses, .int .u64 (recC s1).next, .slice uA un uc, .slice uB um ud, .int .i64 (recC s1).room, .bool (recC s1).over] ∧ Blk w' g7 36 #[.int .u32 (recC s0).ses, .int .u64 (recC s0).next, .slice vA vn vc, .slice vB vm vd, .int .i64 (recC s0).room, .bool (recC s0).over] ∧ ((LH4.rd w' AllB uA un (recC s1).ahead ∧ LB3.rd w' AllB uB um (recC s1).buf) ∧ (LH4.rd w' AllB vA vn (recC s0).ahead ∧ LB3.rd w' AllB vB vm (recC s0).buf)) ∧ Below w5.heap.size w5 w' ∧ (un ≤ 9223372036854775807 ∧ um ≤ 9223372036854775807 ∧ vn ≤ 9223372036854775807 ∧ vm ≤ 9223372036854775807)) (S := TwoS w5 1000 1 5 6 7 36 36 #[.int .u32 0, .int .u64 0, .slice none 0 0, .slice none 0 0, .int .i64 0, .bool false] #[.int .u32 0, .int .u64 0, .slice none 0 0, .slice none 0 0, .int .i64 0, .bool false] NoRes (LRes LRV (fun a => a = recC s1)) (LRes LRV (fun a => a = recC s0)) 8 9) (by kernel_rfl) ?spsw17q ?ppsw17q ?kpsw17q
            case spsw17q =>
              exact TwoS.start (by rfl) (.inr rfl)
            case ppsw17q =>
              refine Ps.step (i := 0) (d := some 82) (u := ?uw17q_52) rfl rfl (by kernel_rfl) (by kernel_rfl) (by kernel_rfl) (by kernel_rfl) ?yw17q_52 ?rw17q_52
              case yw17q_52 =>
                refine StepS.read [] (by kernel_rfl) (TwoS.pass (by decide)) (by rfl) (fun L9 m9 w9 hSh hAt hDn hS => ?_)
                have hT := TwoS.any hS
                have x0 : w9.cell? ⟨g8, 0, none⟩ = some (.int .u32 s1.ses) := (HX8.out.ca hT).cell 0
                have x1 : w9.cell? ⟨g8, 1, none⟩ = some (.int .u64 s1.next) := (HX8.out.ca hT).cell 1
                have x2 : w9.cell? ⟨g8, 2, none⟩ = some (.slice xA xn xc) := (HX8.out.ca hT).cell 2
                have x3 : w9.cell? ⟨g8, 3, none⟩ = some (.slice xB xm xd) := (HX8.out.ca hT).cell 3
                have x4 : w9.cell? ⟨g8, 4, none⟩ = some (.int .i64 s1.room) := (HX8.out.ca hT).cell 4
                have x5 : w9.cell? ⟨g8, 5, none⟩ = some (.bool s1.over) := (HX8.out.ca hT).cell 5
                clear hT hS
                go_simp
                try rfl
              try simp only [Act.put, List.setIfInBounds_toArray, List.set_cons_zero, List.set_cons_succ]
              refine Ps.step (i := 2) (d := some 84) (u := ?uw17q_53) rfl rfl (by kernel_rfl) (by kernel_rfl) (by kernel_rfl) (by kernel_rfl) ?yw17q_53 ?rw17q_53
              case yw17q_53 =>
                refine StepS.pure (TwoS.pass (by decide)) (by rfl) (fun w9 => ?_)
                go_simp
                try rfl
              try simp only [Act.put, List.setIfInBounds_toArray, List.set_cons_zero, List.set_cons_succ]
              refine Ps.step (i := 3) (d := some 85) (u := ?uw17q_54) rfl rfl (by kernel_rfl) (by kernel_rfl) (by kernel_rfl) (by kernel_rfl) ?yw17q_54 ?rw17q_54
              case yw17q_54 =>
                refine StepS.pure (TwoS.pass (by decide)) (by rfl) (fun w9 => ?_)
                have h8 : 0 < rn := by omega
                go_simp
                try rfl
              try simp only [Act.put, List.setIfInBounds_toArray, List.set_cons_zero, List.set_cons_succ]
              refine Ps.step (i := 4) (d := some 86) (u := ?uw17q_55) rfl rfl (by kernel_rfl) (by kernel_rfl) (by kernel_rfl) (by kernel_rfl) ?yw17q_55 ?rw17q_55
              case yw17q_55 =>
                refine StepS.read [] (by kernel_rfl) (TwoS.pass (by decide)) (by rfl) (fun L9 m9 w9 hSh hAt hDn hS => ?_)
                have hT := TwoS.any hS
                have k0 := cell_ca HF0.out hfl hT
                have k1 := cell_ca HF1.out hfl hT
                have k2 := cell_ca HF2.out hfl hT
                have k3 := cell_ca HF3.out hfl hT
                have k4 := cell_ca HF4.out hfl hT
                have k5 := cell_ca HF5.out hfl hT
                clear hT hS
                go_simp
                try rfl
              try simp only [Act.put, List.setIfInBounds_toArray, List.set_cons_zero, List.set_cons_succ]
              refine Ps.some3 (i := 1) (j := 6) (k := 7) (by kernel_rfl) ?tw17q_56_1 ?tw17q_56_6 ?tw17q_56_7
              case tw17q_56_1 =>
                refine Turns.mk (d := some 83) rfl rfl (TurnS.call (V := fun v => ∃ zA zn zc zB zm zd, v = .agg #[.int .u32 (recC s1).ses, .int .u64 (recC s1).next, .slice zA zn zc, .slice zB zm zd, .int .i64 (recC s1).room, .bool (recC s1).over]) ?fw17q_56_1 ?aw17q_56_1 [] (by kernel_rfl) (by rfl) (fun w9 => ?hw17q_56_1) (fun L9 m9 w9 hSh hAt hDn hS => ?cw17q_56_1)) (fun v1 hVv1 => ?rw17q_56_1)
                case hw17q_56_1 => go_simp; refine ⟨?_, ?_⟩ <;> rfl
                case cw17q_56_1 =>
                  have hs1 := reach_no hSh (f := 10) (j := 8) (d := 1) (by kernel_rfl) hDn
                  have hs2 := reach_no hSh (f := 10) (j := 9) (d := 1) (by kernel_rfl) hDn
                  have hT := TwoS.any hS
                  have hsz := hT.size
                  refine (recvC_any (fun b => b < w5.heap.size) (fun b => b < w5.heap.size) s1 xA xn xc xB xm xd w9 (Lay.rd_below HRXa.out hT) (Lay.rd_below HRXb.out hT) hxm.1 hxm.2.1 hxm.2.2.1 hxm.2.2.2).mono ?_
                  rintro e w8 ⟨zA, zn, zc, zB, zm, zd, rfl, hr, hr2, h1, h2, h3, h4, q8⟩
                  have rd : LH4.rd w8 (Av 6 7 m9) zA zn (recC s1).ahead := Lay.rd_weak (fun b hb _ => (hS.at0 hs1).avoid (hb.elim (fun h => .inl h.1) (fun h => .inr (by omega)))) hr
                  have rd2 : LB3.rd w8 (Av 6 7 m9) zB zm (recC s1).buf := Lay.rd_weak (fun b hb _ => (hS.at0 hs1).avoid (hb.elim (fun h => .inl h.1) (fun h => .inr (by omega)))) hr2
                  exact ⟨_, rfl, ⟨zA, zn, zc, zB, zm, zd, rfl⟩, TwoS.call hS NoRes.res (LRes.res _ _) (LRes.res _ _) hs1 hs2 (by decide) q8 (fun e => absurd e (by decide)) (fun _ => ⟨recC s1, _, rfl, ⟨zA, zn, zc, zB, zm, zd, rfl, h1, h2, h3, h4, rd, rd2⟩, rfl⟩) (fun e => absurd e (by decide))⟩
                try simp only [Act.put, List.setIfInBounds_toArray, List.set_cons_zero, List.set_cons_succ]
                obtain ⟨uA, un, uc, uB, um, ud, rfl⟩ := hVv1
                refine Ps.some3 (i := 5) (j := 6) (k := 7) (by kernel_rfl) ?tw17q_57_5 ?tw17q_57_6 ?tw17q_57_7
                case tw17q_57_5 =>
                  refine Turns.mk (d := some 87) rfl rfl (TurnS.call (V := fun v => ∃ zA zn zc zB zm zd, v = .agg #[.int .u32 (recC s0).ses, .int .u64 (recC s0).next, .slice zA zn zc, .slice zB zm zd, .int .i64 (recC s0).room, .bool (recC s0).over]) ?fw17q_57_5 ?aw17q_57_5 [] (by kernel_rfl) (by rfl) (fun w9 => ?hw17q_57_5) (fun L9 m9 w9 hSh hAt hDn hS => ?cw17q_57_5)) (fun v5 hVv5 => ?rw17q_57_5)
                  case hw17q_57_5 => go_simp; refine ⟨?_, ?_⟩ <;> rfl
                  case cw17q_57_5 =>
                    have hs1 := reach_no hSh (f := 10) (j := 8) (d := 5) (by kernel_rfl) hDn
                    have hs2 := reach_no hSh (f := 10) (j := 9) (d := 5) (by kernel_rfl) hDn
                    have hT := TwoS.any hS
                    have hsz := hT.size
                    refine (recvC_any (fun b => b < w5.heap.size) (fun b => b < w5.heap.size) s0 yA yn yc yB ym yd w9 (Lay.rd_below HRYa.out hT) (Lay.rd_below HRYb.out hT) hym.1 hym.2.1 hym.2.2.1 hym.2.2.2).mono ?_
                    rintro e w8 ⟨zA, zn, zc, zB, zm, zd, rfl, hr, hr2, h1, h2, h3, h4, q8⟩
                    have rd : LH4.rd w8 (Av 6 7 m9) zA zn (recC s0).ahead := Lay.rd_weak (fun b hb _ => (hS.at0 hs1).avoid (hb.elim (fun h => .inl h.1) (fun h => .inr (by omega)))) hr
                    have rd2 : LB3.rd w8 (Av 6 7 m9) zB zm (recC s0).buf := Lay.rd_weak (fun b hb _ => (hS.at0 hs1).avoid (hb.elim (fun h => .inl h.1) (fun h => .inr (by omega)))) hr2
                    exact ⟨_, rfl, ⟨zA, zn, zc, zB, zm, zd, rfl⟩, TwoS.call hS NoRes.res (LRes.res _ _) (LRes.res _ _) hs1 hs2 (by decide) q8 (fun e => absurd e (by decide)) (fun e => absurd e (by decide)) (fun _ => ⟨recC s0, _, rfl, ⟨zA, zn, zc, zB, zm, zd, rfl, h1, h2, h3, h4, rd, rd2⟩, rfl⟩)⟩
                  try simp only [Act.put, List.setIfInBounds_toArray, List.set_cons_zero, List.set_cons_succ]
                  obtain ⟨vA, vn, vc, vB, vm, vd, rfl⟩ := hVv5
                  refine Ps.some2 (i := 6) (j := 7) (by kernel_rfl) ?tw17q_58_6 ?tw17q_58_7
                  case tw17q_58_6 =>
                    refine Turns.mk (d := some 15) rfl rfl (TurnS.value (V := fun v => ∃ g, v = .pointer (some ⟨g, 0, none⟩)) [] (by kernel_rfl) (by rfl) (fun L9 m9 w9 hSh hAt hDn hS => ?cw17q_58_6)) (fun v6 hVv6 => ?rw17q_58_6)
                    case cw17q_58_6 =>
                      have hs1 := reach_no hSh (f := 10) (j := 8) (d := 6) (by kernel_rfl) hDn
                      have hs2 := reach_no hSh (f := 10) (j := 9) (d := 6) (by kernel_rfl) hDn
                      refine ⟨.pointer (some ⟨w9.heap.size, 0, none⟩), w9.alloc (.cells #[.int .u32 0, .int .u64 0, .slice none 0 0, .slice none 0 0, .int .i64 0, .bool false] 36), ?_, ⟨_, rfl⟩, TwoS.make1 hS NoRes.res (LRes.res _ _) (LRes.res _ _) hs1 hs2 (by decide)⟩
                      clear hS
                      go_simp
                      try rfl
                    try simp only [Act.put, List.setIfInBounds_toArray, List.set_cons_zero, List.set_cons_succ]
                    obtain ⟨g6, rfl⟩ := hVv6
                    refine Ps.some1 (i := 7) (by kernel_rfl) ?tw17q_59_7
                    case tw17q_59_7 =>
                      refine Turns.mk (d := some 16) rfl rfl (TurnS.value (V := fun v => ∃ g, v = .pointer (some ⟨g, 0, none⟩)) [] (by kernel_rfl) (by rfl) (fun L9 m9 w9 hSh hAt hDn hS => ?cw17q_59_7)) (fun v7 hVv7 => ?rw17q_59_7)
                      case cw17q_59_7 =>
                        have hs1 := reach_no hSh (f := 10) (j := 8) (d := 7) (by kernel_rfl) hDn
                        have hs2 := reach_no hSh (f := 10) (j := 9) (d := 7) (by kernel_rfl) hDn
                        refine ⟨.pointer (some ⟨w9.heap.size, 0, none⟩), w9.alloc (.cells #[.int .u32 0, .int .u64 0, .slice none 0 0, .slice none 0 0, .int .i64 0, .bool false] 36), ?_, ⟨_, rfl⟩, TwoS.make2 hS NoRes.res (LRes.res _ _) (LRes.res _ _) hs1 hs2 (by decide)⟩
                        clear hS
                        go_simp
                        try rfl
                      try simp only [Act.put, List.setIfInBounds_toArray, List.set_cons_zero, List.set_cons_succ]
                      obtain ⟨g7, rfl⟩ := hVv7
                      refine Ps.step (i := 8) (d := none) (u := undef) rfl rfl (by kernel_rfl) (by kernel_rfl) (by kernel_rfl) (by kernel_rfl) ?yw17q_60 ?rw17q_60
                      case yw17q_60 =>
                        refine StepS.store [1, 5, 6, 7] (by kernel_rfl) (by rfl) (fun L9 m9 w9 hSh hAt hDn hS => ?_)
                        have hs2 := reach_no hSh (f := 10) (j := 9) (d := 8) (by kernel_rfl) hDn
                        obtain ⟨p1, p2, hB⟩ := TwoS.ready1 hS hDn (hAt 6 (by simp)).1 (hAt 7 (by simp)).1 (hAt 1 (by simp)).1 (hAt 5 (by simp)).1
                        obtain rfl : g6 = p1 := pt_inj ((hAt 6 (by simp)).2.symm.trans hB.e1)
                        refine (exec_store_blk (w := w9) 36 (.tmp 15) (.tmp 83) (by rfl) g6 36 #[.int .u32 0, .int .u64 0, .slice none 0 0, .slice none 0 0, .int .i64 0, .bool false] #[.int .u32 (recC s1).ses, .int .u64 (recC s1).next, .slice uA un uc, .slice uB um ud, .int .i64 (recC s1).room, .bool (recC s1).over] (by rfl) (by rfl) hB.b1 rfl receiverI (by simp [Value.oneCell'])).imp fun w7 hx => ⟨hx.1, TwoS.set1 hs2 (by decide) (hAt 1 (by simp)).2 (hB.store1 (LRes.res _ _) (LRes.res _ _) hx.2.1 hx.2.2)⟩
                      try simp only [Act.put]
                      refine Ps.step (i := 9) (d := none) (u := undef) rfl rfl (by kernel_rfl) (by kernel_rfl) (by kernel_rfl) (by kernel_rfl) ?yw17q_61 ?rw17q_61
                      case yw17q_61 =>
                        refine StepS.store [1, 5, 6, 7, 8] (by kernel_rfl) (by rfl) (fun L9 m9 w9 hSh hAt hDn hS => ?_)
                        obtain ⟨p1, p2, cc, hk, hB⟩ := TwoS.at1 hS (hAt 8 (by simp)).1 hDn
                        obtain rfl : g7 = p2 := pt_inj ((hAt 7 (by simp)).2.symm.trans hB.e2)
                        refine (exec_store_blk (w := w9) 36 (.tmp 16) (.tmp 87) (by rfl) g7 36 #[.int .u32 0, .int .u64 0, .slice none 0 0, .slice none 0 0, .int .i64 0, .bool false] #[.int .u32 (recC s0).ses, .int .u64 (recC s0).next, .slice vA vn vc, .slice vB vm vd, .int .i64 (recC s0).room, .bool (recC s0).over] (by rfl) (by rfl) hB.b2 rfl receiverI (by simp [Value.oneCell'])).imp fun w7 hx => ⟨hx.1, TwoS.set2 (by decide) (hAt 8 (by simp)).1 hk (hAt 5 (by simp)).2 (hB.store2 (LRes.res _ _) (LRes.res _ _) hx.2.1 hx.2.2)⟩
                      try simp only [Act.put]
                      refine Ps.done (by kernel_rfl) (fun w17q hS => ?_) _
                      obtain ⟨p1, p2, d1, d2, hk1, hk2, hB⟩ := TwoS.fin hS (by rfl)
                      clear hS
                      obtain rfl : g6 = p1 := pt_inj hB.e1
                      obtain rfl : g7 = p2 := pt_inj hB.e2
                      have hk1 : Value.agg #[.int .u32 (recC s1).ses, .int .u64 (recC s1).next, .slice uA un uc, .slice uB um ud, .int .i64 (recC s1).room, .bool (recC s1).over] = .agg d1 := hk1
                      have hk2 : Value.agg #[.int .u32 (recC s0).ses, .int .u64 (recC s0).next, .slice vA vn vc, .slice vB vm vd, .int .i64 (recC s0).room, .bool (recC s0).over] = .agg d2 := hk2
                      injection hk1 with hk1
                      injection hk2 with hk2
                      subst hk1 hk2
                      refine ⟨g6, g7, uA, un, uc, uB, um, ud, vA, vn, vc, vB, vm, vd, ?_, hB.b1, hB.b2, ⟨res_rdR hB.r1, res_rdR hB.r2⟩, hB.bel, ⟨(res_capR hB.r1).1, (res_capR hB.r1).2, (res_capR hB.r2).1, (res_capR hB.r2).2⟩⟩
                      simp only
                  case tw17q_58_7 =>
                    refine Turns.mk (d := some 16) rfl rfl (TurnS.value (V := fun v => ∃ g, v = .pointer (some ⟨g, 0, none⟩)) [] (by kernel_rfl) (by rfl) (fun L9 m9 w9 hSh hAt hDn hS => ?cw17q_58_7)) (fun v7 hVv7 => ?rw17q_58_7)
                    case cw17q_58_7 =>
                      have hs1 := reach_no hSh (f := 10) (j := 8) (d := 7) (by kernel_rfl) hDn
                      have hs2 := reach_no hSh (f := 10) (j := 9) (d := 7) (by kernel_rfl) hDn
                      refine ⟨.pointer (some ⟨w9.heap.size, 0, none⟩), w9.alloc (.cells #[.int .u32 0, .int .u64 0, .slice none 0 0, .slice none 0 0, .int .i64 0, .bool false] 36), ?_, ⟨_, rfl⟩, TwoS.make2 hS NoRes.res (LRes.res _ _) (LRes.res _ _) hs1 hs2 (by decide)⟩
                      clear hS
                      go_simp
                      try rfl
                    try simp only [Act.put, List.setIfInBounds_toArray, List.set_cons_zero, List.set_cons_succ]
                    obtain ⟨g7, rfl⟩ := hVv7
                    refine Ps.some1 (i := 6) (by kernel_rfl) ?tw17q_62_6
                    case tw17q_62_6 =>
                      refine Turns.mk (d := some 15) rfl rfl (TurnS.value (V := fun v => ∃ g, v = .pointer (some ⟨g, 0, none⟩)) [] (by kernel_rfl) (by rfl) (fun L9 m9 w9 hSh hAt hDn hS => ?cw17q_62_6)) (fun v6 hVv6 => ?rw17q_62_6)
                      case cw17q_62_6 =>
                        have hs1 := reach_no hSh (f := 10) (j := 8) (d := 6) (by kernel_rfl) hDn
                        have hs2 := reach_no hSh (f := 10) (j := 9) (d := 6) (by kernel_rfl) hDn
                        refine ⟨.pointer (some ⟨w9.heap.size, 0, none⟩), w9.alloc (.cells #[.int .u32 0, .int .u64 0, .slice none 0 0, .slice none 0 0, .int .i64 0, .bool false] 36), ?_, ⟨_, rfl⟩, TwoS.make1 hS NoRes.res (LRes.res _ _) (LRes.res _ _) hs1 hs2 (by decide)⟩
                        clear hS
                        go_simp
                        try rfl
                      try simp only [Act.put, List.setIfInBounds_toArray, List.set_cons_zero, List.set_cons_succ]
                      obtain ⟨g6, rfl⟩ := hVv6
                      refine Ps.step (i := 8) (d := none) (u := undef) rfl rfl (by kernel_rfl) (by kernel_rfl) (by kernel_rfl) (by kernel_rfl) ?yw17q_63 ?rw17q_63
                      case yw17q_63 =>
                        refine StepS.store [1, 5, 6, 7] (by kernel_rfl) (by rfl) (fun L9 m9 w9 hSh hAt hDn hS => ?_)
                        have hs2 := reach_no hSh (f := 10) (j := 9) (d := 8) (by kernel_rfl) hDn
                        obtain ⟨p1, p2, hB⟩ := TwoS.ready1 hS hDn (hAt 6 (by simp)).1 (hAt 7 (by simp)).1 (hAt 1 (by simp)).1 (hAt 5 (by simp)).1
                        obtain rfl : g6 = p1 := pt_inj ((hAt 6 (by simp)).2.symm.trans hB.e1)
                        refine (exec_store_blk (w := w9) 36 (.tmp 15) (.tmp 83) (by rfl) g6 36 #[.int .u32 0, .int .u64 0, .slice none 0 0, .slice none 0 0, .int .i64 0, .bool false] #[.int .u32 (recC s1).ses, .int .u64 (recC s1).next, .slice uA un uc, .slice uB um ud, .int .i64 (recC s1).room, .bool (recC s1).over] (by rfl) (by rfl) hB.b1 rfl receiverI (by simp [Value.oneCell'])).imp fun w7 hx => ⟨hx.1, TwoS.set1 hs2 (by decide) (hAt 1 (by simp)).2 (hB.store1 (LRes.res _ _) (LRes.res _ _) hx.2.1 hx.2.2)⟩
                      try simp only [Act.put]
                      refine Ps.step (i := 9) (d := none) (u := undef) rfl rfl (by kernel_rfl) (by kernel_rfl) (by kernel_rfl) (by kernel_rfl) ?yw17q_64 ?rw17q_64
                      case yw17q_64 =>
                        refine StepS.store [1, 5, 6, 7, 8] (by kernel_rfl) (by rfl) (fun L9 m9 w9 hSh hAt hDn hS => ?_)
                        obtain ⟨p1, p2, cc, hk, hB⟩ := TwoS.at1 hS (hAt 8 (by simp)).1 hDn
                        obtain rfl : g7 = p2 := pt_inj ((hAt 7 (by simp)).2.symm.trans hB.e2)
                        refine (exec_store_blk (w := w9) 36 (.tmp 16) (.tmp 87) (by rfl) g7 36 #[.int .u32 0, .int .u64 0, .slice none 0 0, .slice none 0 0, .int .i64 0, .bool false] #[.int .u32 (recC s0).ses, .int .u64 (recC s0).next, .slice vA vn vc, .slice vB vm vd, .int .i64 (recC s0).room, .bool (recC s0).over] (by rfl) (by rfl) hB.b2 rfl receiverI (by simp [Value.oneCell'])).imp fun w7 hx => ⟨hx.1, TwoS.set2 (by decide) (hAt 8 (by simp)).1 hk (hAt 5 (by simp)).2 (hB.store2 (LRes.res _ _) (LRes.res _ _) hx.2.1 hx.2.2)⟩
                      try simp only [Act.put]
                      refine Ps.done (by kernel_rfl) (fun w17q hS => ?_) _
                      obtain ⟨p1, p2, d1, d2, hk1, hk2, hB⟩ := TwoS.fin hS (by rfl)
                      clear hS
                      obtain rfl : g6 = p1 := pt_inj hB.e1
                      obtain rfl : g7 = p2 := pt_inj hB.e2
                      have hk1 : Value.agg #[.int .u32 (recC s1).ses, .int .u64 (recC s1).next, .slice uA un uc, .slice uB um ud, .int .i64 (recC s1).room, .bool (recC s1).over] = .agg d1 := hk1
                      have hk2 : Value.agg #[.int .u32 (recC s0).ses, .int .u64 (recC s0).next, .slice vA vn vc, .slice vB vm vd, .int .i64 (recC s0).room, .bool (recC s0).over] = .agg d2 := hk2
                      injection hk1 with hk1
                      injection hk2 with hk2
                      subst hk1 hk2
                      refine ⟨g6, g7, uA, un, uc, uB, um, ud, vA, vn, vc, vB, vm, vd, ?_, hB.b1, hB.b2, ⟨res_rdR hB.r1, res_rdR hB.r2⟩, hB.bel, ⟨(res_capR hB.r1).1, (res_capR hB.r1).2, (res_capR hB.r2).1, (res_capR hB.r2).2⟩⟩
                      simp only
                case tw17q_57_6 =>
                  refine Turns.mk (d := some 15) rfl rfl (TurnS.value (V := fun v => ∃ g, v = .pointer (some ⟨g, 0, none⟩)) [] (by kernel_rfl) (by rfl) (fun L9 m9 w9 hSh hAt hDn hS => ?cw17q_57_6)) (fun v6 hVv6 => ?rw17q_57_6)
                  case cw17q_57_6 =>
                    have hs1 := reach_no hSh (f := 10) (j := 8) (d := 6) (by kernel_rfl) hDn
                    have hs2 := reach_no hSh (f := 10) (j := 9) (d := 6) (by kernel_rfl) hDn
                    refine ⟨.pointer (some ⟨w9.heap.size, 0, none⟩), w9.alloc (.cells #[.int .u32 0, .int .u64 0, .slice none 0 0, .slice none 0 0, .int .i64 0, .bool false] 36), ?_, ⟨_, rfl⟩, TwoS.make1 hS NoRes.res (LRes.res _ _) (LRes.res _ _) hs1 hs2 (by decide)⟩
                    clear hS
                    go_simp
                    try rfl
                  try simp only [Act.put, List.setIfInBounds_toArray, List.set_cons_zero, List.set_cons_succ]
                  obtain ⟨g6, rfl⟩ := hVv6
                  refine Ps.some2 (i := 5) (j := 7) (by kernel_rfl) ?tw17q_65_5 ?tw17q_65_7
                  case tw17q_65_5 =>
                    refine Turns.mk (d := some 87) rfl rfl (TurnS.call (V := fun v => ∃ zA zn zc zB zm zd, v = .agg #[.int .u32 (recC s0).ses, .int .u64 (recC s0).next, .slice zA zn zc, .slice zB zm zd, .int .i64 (recC s0).room, .bool (recC s0).over]) ?fw17q_65_5 ?aw17q_65_5 [] (by kernel_rfl) (by rfl) (fun w9 => ?hw17q_65_5) (fun L9 m9 w9 hSh hAt hDn hS => ?cw17q_65_5)) (fun v5 hVv5 => ?rw17q_65_5)
                    case hw17q_65_5 => go_simp; refine ⟨?_, ?_⟩ <;> rfl
                    case cw17q_65_5 =>
                      have hs1 := reach_no hSh (f := 10) (j := 8) (d := 5) (by kernel_rfl) hDn
                      have hs2 := reach_no hSh (f := 10) (j := 9) (d := 5) (by kernel_rfl) hDn
                      have hT := TwoS.any hS
                      have hsz := hT.size
                      refine (recvC_any (fun b => b < w5.heap.size) (fun b => b < w5.heap.size) s0 yA yn yc yB ym yd w9 (Lay.rd_below HRYa.out hT) (Lay.rd_below HRYb.out hT) hym.1 hym.2.1 hym.2.2.1 hym.2.2.2).mono ?_
                      rintro e w8 ⟨zA, zn, zc, zB, zm, zd, rfl, hr, hr2, h1, h2, h3, h4, q8⟩
                      have rd : LH4.rd w8 (Av 6 7 m9) zA zn (recC s0).ahead := Lay.rd_weak (fun b hb _ => (hS.at0 hs1).avoid (hb.elim (fun h => .inl h.1) (fun h => .inr (by omega)))) hr
                      have rd2 : LB3.rd w8 (Av 6 7 m9) zB zm (recC s0).buf := Lay.rd_weak (fun b hb _ => (hS.at0 hs1).avoid (hb.elim (fun h => .inl h.1) (fun h => .inr (by omega)))) hr2
                      exact ⟨_, rfl, ⟨zA, zn, zc, zB, zm, zd, rfl⟩, TwoS.call hS NoRes.res (LRes.res _ _) (LRes.res _ _) hs1 hs2 (by decide) q8 (fun e => absurd e (by decide)) (fun e => absurd e (by decide)) (fun _ => ⟨recC s0, _, rfl, ⟨zA, zn, zc, zB, zm, zd, rfl, h1, h2, h3, h4, rd, rd2⟩, rfl⟩)⟩
                    try simp only [Act.put, List.setIfInBounds_toArray, List.set_cons_zero, List.set_cons_succ]
                    obtain ⟨vA, vn, vc, vB, vm, vd, rfl⟩ := hVv5
                    refine Ps.some1 (i := 7) (by kernel_rfl) ?tw17q_66_7
                    case tw17q_66_7 =>
                      refine Turns.mk (d := some 16) rfl rfl (TurnS.value (V := fun v => ∃ g, v = .pointer (some ⟨g, 0, none⟩)) [] (by kernel_rfl) (by rfl) (fun L9 m9 w9 hSh hAt hDn hS => ?cw17q_66_7)) (fun v7 hVv7 => ?rw17q_66_7)
                      case cw17q_66_7 =>
                        have hs1 := reach_no hSh (f := 10) (j := 8) (d := 7) (by kernel_rfl) hDn
                        have hs2 := reach_no hSh (f := 10) (j := 9) (d := 7) (by kernel_rfl) hDn
                        refine ⟨.pointer (some ⟨w9.heap.size, 0, none⟩), w9.alloc (.cells #[.int .u32 0, .int .u64 0, .slice none 0 0, .slice none 0 0, .int .i64 0, .bool false] 36), ?_, ⟨_, rfl⟩, TwoS.make2 hS NoRes.res (LRes.res _ _) (LRes.res _ _) hs1 hs2 (by decide)⟩
                        clear hS
                        go_simp
                        try rfl
                      try simp only [Act.put, List.setIfInBounds_toArray, List.set_cons_zero, List.set_cons_succ]
                      obtain ⟨g7, rfl⟩ := hVv7
                      refine Ps.step (i := 8) (d := none) (u := undef) rfl rfl (by kernel_rfl) (by kernel_rfl) (by kernel_rfl) (by kernel_rfl) ?yw17q_67 ?rw17q_67
                      case yw17q_67 =>
                        refine StepS.store [1, 5, 6, 7] (by kernel_rfl) (by rfl) (fun L9 m9 w9 hSh hAt hDn hS => ?_)
                        have hs2 := reach_no hSh (f := 10) (j := 9) (d := 8) (by kernel_rfl) hDn
                        obtain ⟨p1, p2, hB⟩ := TwoS.ready1 hS hDn (hAt 6 (by simp)).1 (hAt 7 (by simp)).1 (hAt 1 (by simp)).1 (hAt 5 (by simp)).1
                        obtain rfl : g6 = p1 := pt_inj ((hAt 6 (by simp)).2.symm.trans hB.e1)
                        refine (exec_store_blk (w := w9) 36 (.tmp 15) (.tmp 83) (by rfl) g6 36 #[.int .u32 0, .int .u64 0, .slice none 0 0, .slice none 0 0, .int .i64 0, .bool false] #[.int .u32 (recC s1).ses, .int .u64 (recC s1).next, .slice uA un uc, .slice uB um ud, .int .i64 (recC s1).room, .bool (recC s1).over] (by rfl) (by rfl) hB.b1 rfl receiverI (by simp [Value.oneCell'])).imp fun w7 hx => ⟨hx.1, TwoS.set1 hs2 (by decide) (hAt 1 (by simp)).2 (hB.store1 (LRes.res _ _) (LRes.res _ _) hx.2.1 hx.2.2)⟩
                      try simp only [Act.put]
                      refine Ps.step (i := 9) (d := none) (u := undef) rfl rfl (by kernel_rfl) (by kernel_rfl) (by kernel_rfl) (by kernel_rfl) ?yw17q_68 ?rw17q_68
                      case yw17q_68 =>
                        refine StepS.store [1, 5, 6, 7, 8] (by kernel_rfl) (by rfl) (fun L9 m9 w9 hSh hAt hDn hS => ?_)
                        obtain ⟨p1, p2, cc, hk, hB⟩ := TwoS.at1 hS (hAt 8 (by simp)).1 hDn
                        obtain rfl : g7 = p2 := pt_inj ((hAt 7 (by simp)).2.symm.trans hB.e2)
                        refine (exec_store_blk (w := w9) 36 (.tmp 16) (.tmp 87) (by rfl) g7 36 #[.int .u32 0, .int .u64 0, .slice none 0 0, .slice none 0 0, .int .i64 0, .bool false] #[.int .u32 (recC s0).ses, .int .u64 (recC s0).next, .slice vA vn vc, .slice vB vm vd, .int .i64 (recC s0).room, .bool (recC s0).over] (by rfl) (by rfl) hB.b2 rfl receiverI (by simp [Value.oneCell'])).imp fun w7 hx => ⟨hx.1, TwoS.set2 (by decide) (hAt 8 (by simp)).1 hk (hAt 5 (by simp)).2 (hB.store2 (LRes.res _ _) (LRes.res _ _) hx.2.1 hx.2.2)⟩
                      try simp only [Act.put]
                      refine Ps.done (by kernel_rfl) (fun w17q hS => ?_) _
                      obtain ⟨p1, p2, d1, d2, hk1, hk2, hB⟩ := TwoS.fin hS (by rfl)
                      clear hS
                      obtain rfl : g6 = p1 := pt_inj hB.e1
                      obtain rfl : g7 = p2 := pt_inj hB.e2
                      have hk1 : Value.agg #[.int .u32 (recC s1).ses, .int .u64 (recC s1).next, .slice uA un uc, .slice uB um ud, .int .i64 (recC s1).room, .bool (recC s1).over] = .agg d1 := hk1
                      have hk2 : Value.agg #[.int .u32 (recC s0).ses, .int .u64 (recC s0).next, .slice vA vn vc, .slice vB vm vd, .int .i64 (recC s0).room, .bool (recC s0).over] = .agg d2 := hk2
                      injection hk1 with hk1
                      injection hk2 with hk2
                      subst hk1 hk2
                      refine ⟨g6, g7, uA, un, uc, uB, um, ud, vA, vn, vc, vB, vm, vd, ?_, hB.b1, hB.b2, ⟨res_rdR hB.r1, res_rdR hB.r2⟩, hB.bel, ⟨(res_capR hB.r1).1, (res_capR hB.r1).2, (res_capR hB.r2).1, (res_capR hB.r2).2⟩⟩
                      simp only
                  case tw17q_65_7 =>
                    refine Turns.mk (d := some 16) rfl rfl (TurnS.value (V := fun v => ∃ g, v = .pointer (some ⟨g, 0, none⟩)) [] (by kernel_rfl) (by rfl) (fun L9 m9 w9 hSh hAt hDn hS => ?cw17q_65_7)) (fun v7 hVv7 => ?rw17q_65_7)
                    case cw17q_65_7 =>
                      have hs1 := reach_no hSh (f := 10) (j := 8) (d := 7) (by kernel_rfl) hDn
                      have hs2 := reach_no hSh (f := 10) (j := 9) (d := 7) (by kernel_rfl) hDn
                      refine ⟨.pointer (some ⟨w9.heap.size, 0, none⟩), w9.alloc (.cells #[.int .u32 0, .int .u64 0, .slice none 0 0, .slice none 0 0, .int .i64 0, .bool false] 36), ?_, ⟨_, rfl⟩, TwoS.make2 hS NoRes.res (LRes.res _ _) (LRes.res _ _) hs1 hs2 (by decide)⟩
                      clear hS
                      go_simp
                      try rfl
                    try simp only [Act.put, List.setIfInBounds_toArray, List.set_cons_zero, List.set_cons_succ]
                    obtain ⟨g7, rfl⟩ := hVv7
                    refine Ps.some1 (i := 5) (by kernel_rfl) ?tw17q_69_5
                    case tw17q_69_5 =>
                      refine Turns.mk (d := some 87) rfl rfl (TurnS.call (V := fun v => ∃ zA zn zc zB zm zd, v = .agg #[.int .u32 (recC s0).ses, .int .u64 (recC s0).next, .slice zA zn zc, .slice zB zm zd, .int .i64 (recC s0).room, .bool (recC s0).over]) ?fw17q_69_5 ?aw17q_69_5 [] (by kernel_rfl) (by rfl) (fun w9 => ?hw17q_69_5) (fun L9 m9 w9 hSh hAt hDn hS => ?cw17q_69_5)) (fun v5 hVv5 => ?rw17q_69_5)
                      case hw17q_69_5 => go_simp; refine ⟨?_, ?_⟩ <;> rfl
                      case cw17q_69_5 =>
                        have hs1 := reach_no hSh (f := 10) (j := 8) (d := 5) (by kernel_rfl) hDn
                        have hs2 := reach_no hSh (f := 10) (j := 9) (d := 5) (by kernel_rfl) hDn
                        have hT := TwoS.any hS
                        have hsz := hT.size
                        refine (recvC_any (fun b => b < w5.heap.size) (fun b => b < w5.heap.size) s0 yA yn yc yB ym yd w9 (Lay.rd_below HRYa.out hT) (Lay.rd_below HRYb.out hT) hym.1 hym.2.1 hym.2.2.1 hym.2.2.2).mono ?_
                        rintro e w8 ⟨zA, zn, zc, zB, zm, zd, rfl, hr, hr2, h1, h2, h3, h4, q8⟩
                        have rd : LH4.rd w8 (Av 6 7 m9) zA zn (recC s0).ahead := Lay.rd_weak (fun b hb _ => (hS.at0 hs1).avoid (hb.elim (fun h => .inl h.1) (fun h => .inr (by omega)))) hr
                        have rd2 : LB3.rd w8 (Av 6 7 m9) zB zm (recC s0).buf := Lay.rd_weak (fun b hb _ => (hS.at0 hs1).avoid (hb.elim (fun h => .inl h.1) (fun h => .inr (by omega)))) hr2
                        exact ⟨_, rfl, ⟨zA, zn, zc, zB, zm, zd, rfl⟩, TwoS.call hS NoRes.res (LRes.res _ _) (LRes.res _ _) hs1 hs2 (by decide) q8 (fun e => absurd e (by decide)) (fun e => absurd e (by decide)) (fun _ => ⟨recC s0, _, rfl, ⟨zA, zn, zc, zB, zm, zd, rfl, h1, h2, h3, h4, rd, rd2⟩, rfl⟩)⟩
                      try simp only [Act.put, List.setIfInBounds_toArray, List.set_cons_zero, List.set_cons_succ]
                      obtain ⟨vA, vn, vc, vB, vm, vd, rfl⟩ := hVv5
                      refine Ps.step (i := 8) (d := none) (u := undef) rfl rfl (by kernel_rfl) (by kernel_rfl) (by kernel_rfl) (by kernel_rfl) ?yw17q_70 ?rw17q_70
                      case yw17q_70 =>
                        refine StepS.store [1, 5, 6, 7] (by kernel_rfl) (by rfl) (fun L9 m9 w9 hSh hAt hDn hS => ?_)
                        have hs2 := reach_no hSh (f := 10) (j := 9) (d := 8) (by kernel_rfl) hDn
                        obtain ⟨p1, p2, hB⟩ := TwoS.ready1 hS hDn (hAt 6 (by simp)).1 (hAt 7 (by simp)).1 (hAt 1 (by simp)).1 (hAt 5 (by simp)).1
                        obtain rfl : g6 = p1 := pt_inj ((hAt 6 (by simp)).2.symm.trans hB.e1)
                        refine (exec_store_blk (w := w9) 36 (.tmp 15) (.tmp 83) (by rfl) g6 36 #[.int .u32 0, .int .u64 0, .slice none 0 0, .slice none 0 0, .int .i64 0, .bool false] #[.int .u32 (recC s1).ses, .int .u64 (recC s1).next, .slice uA un uc, .slice uB um ud, .int .i64 (recC s1).room, .bool (recC s1).over] (by rfl) (by rfl) hB.b1 rfl receiverI (by simp [Value.oneCell'])).imp fun w7 hx => ⟨hx.1, TwoS.set1 hs2 (by decide) (hAt 1 (by simp)).2 (hB.store1 (LRes.res _ _) (LRes.res _ _) hx.2.1 hx.2.2)⟩
                      try simp only [Act.put]
                      refine Ps.step (i := 9) (d := none) (u := undef) rfl rfl (by kernel_rfl) (by kernel_rfl) (by kernel_rfl) (by kernel_rfl) ?yw17q_71 ?rw17q_71
                      case yw17q_71 =>
                        refine StepS.store [1, 5, 6, 7, 8] (by kernel_rfl) (by rfl) (fun L9 m9 w9 hSh hAt hDn hS => ?_)
                        obtain ⟨p1, p2, cc, hk, hB⟩ := TwoS.at1 hS (hAt 8 (by simp)).1 hDn
                        obtain rfl : g7 = p2 := pt_inj ((hAt 7 (by simp)).2.symm.trans hB.e2)
                        refine (exec_store_blk (w := w9) 36 (.tmp 16) (.tmp 87) (by rfl) g7 36 #[.int .u32 0, .int .u64 0, .slice none 0 0, .slice none 0 0, .int .i64 0, .bool false] #[.int .u32 (recC s0).ses, .int .u64 (recC s0).next, .slice vA vn vc, .slice vB vm vd, .int .i64 (recC s0).room, .bool (recC s0).over] (by rfl) (by rfl) hB.b2 rfl receiverI (by simp [Value.oneCell'])).imp fun w7 hx => ⟨hx.1, TwoS.set2 (by decide) (hAt 8 (by simp)).1 hk (hAt 5 (by simp)).2 (hB.store2 (LRes.res _ _) (LRes.res _ _) hx.2.1 hx.2.2)⟩
                      try simp only [Act.put]
                      refine Ps.done (by kernel_rfl) (fun w17q hS => ?_) _
                      obtain ⟨p1, p2, d1, d2, hk1, hk2, hB⟩ := TwoS.fin hS (by rfl)
                      clear hS
                      obtain rfl : g6 = p1 := pt_inj hB.e1
                      obtain rfl : g7 = p2 := pt_inj hB.e2
                      have hk1 : Value.agg #[.int .u32 (recC s1).ses, .int .u64 (recC s1).next, .slice uA un uc, .slice uB um ud, .int .i64 (recC s1).room, .bool (recC s1).over] = .agg d1 := hk1
                      have hk2 : Value.agg #[.int .u32 (recC s0).ses, .int .u64 (recC s0).next, .slice vA vn vc, .slice vB vm vd, .int .i64 (recC s0).room, .bool (recC s0).over] = .agg d2 := hk2
                      injection hk1 with hk1
                      injection hk2 with hk2
                      subst hk1 hk2
                      refine ⟨g6, g7, uA, un, uc, uB, um, ud, vA, vn, vc, vB, vm, vd, ?_, hB.b1, hB.b2, ⟨res_rdR hB.r1, res_rdR hB.r2⟩, hB.bel, ⟨(res_capR hB.r1).1, (res_capR hB.r1).2, (res_capR hB.r2).1, (res_capR hB.r2).2⟩⟩
                      simp only
                case tw17q_57_7 =>
                  refine Turns.mk (d := some 16) rfl rfl (TurnS.value (V := fun v => ∃ g, v = .pointer (some ⟨g, 0, none⟩)) [] (by kernel_rfl) (by rfl) (fun L9 m9 w9 hSh hAt hDn hS => ?cw17q_57_7)) (fun v7 hVv7 => ?rw17q_57_7)
                  case cw17q_57_7 =>
                    have hs1 := reach_no hSh (f := 10) (j := 8) (d := 7) (by kernel_rfl) hDn
                    have hs2 := reach_no hSh (f := 10) (j := 9) (d := 7) (by kernel_rfl) hDn
                    refine ⟨.pointer (some ⟨w9.heap.size, 0, none⟩), w9.alloc (.cells #[.int .u32 0, .int .u64 0, .slice none 0 0, .slice none 0 0, .int .i64 0, .bool false] 36), ?_, ⟨_, rfl⟩, TwoS.make2 hS NoRes.res (LRes.res _ _) (LRes.res _ _) hs1 hs2 (by decide)⟩
                    clear hS
                    go_simp
                    try rfl
                  try simp only [Act.put, List.setIfInBounds_toArray, List.set_cons_zero, List.set_cons_succ]
                  obtain ⟨g7, rfl⟩ := hVv7
                  refine Ps.some2 (i := 5) (j := 6) (by kernel_rfl) ?tw17q_72_5 ?tw17q_72_6
                  case tw17q_72_5 =>
                    refine Turns.mk (d := some 87) rfl rfl (TurnS.call (V := fun v => ∃ zA zn zc zB zm zd, v = .agg #[.int .u32 (recC s0).ses, .int .u64 (recC s0).next, .slice zA zn zc, .slice zB zm zd, .int .i64 (recC s0).room, .bool (recC s0).over]) ?fw17q_72_5 ?aw17q_72_5 [] (by kernel_rfl) (by rfl) (fun w9 => ?hw17q_72_5) (fun L9 m9 w9 hSh hAt hDn hS => ?cw17q_72_5)) (fun v5 hVv5 => ?rw17q_72_5)
                    case hw17q_72_5 => go_simp; refine ⟨?_, ?_⟩ <;> rfl
                    case cw17q_72_5 =>
                      have hs1 := reach_no hSh (f := 10) (j := 8) (d := 5) (by kernel_rfl) hDn
                      have hs2 := reach_no hSh (f := 10) (j := 9) (d := 5) (by kernel_rfl) hDn
                      have hT := TwoS.any hS
                      have hsz := hT.size
                      refine (recvC_any (fun b => b < w5.heap.size) (fun b => b < w5.heap.size) s0 yA yn yc yB ym yd w9 (Lay.rd_below HRYa.out hT) (Lay.rd_below HRYb.out hT) hym.1 hym.2.1 hym.2.2.1 hym.2.2.2).mono ?_
                      rintro e w8 ⟨zA, zn, zc, zB, zm, zd, rfl, hr, hr2, h1, h2, h3, h4, q8⟩
                      have rd : LH4.rd w8 (Av 6 7 m9) zA zn (recC s0).ahead := Lay.rd_weak (fun b hb _ => (hS.at0 hs1).avoid (hb.elim (fun h => .inl h.1) (fun h => .inr (by omega)))) hr
                      have rd2 : LB3.rd w8 (Av 6 7 m9) zB zm (recC s0).buf := Lay.rd_weak (fun b hb _ => (hS.at0 hs1).avoid (hb.elim (fun h => .inl h.1) (fun h => .inr (by omega)))) hr2
                      exact ⟨_, rfl, ⟨zA, zn, zc, zB, zm, zd, rfl⟩, TwoS.call hS NoRes.res (LRes.res _ _) (LRes.res _ _) hs1 hs2 (by decide) q8 (fun e => absurd e (by decide)) (fun e => absurd e (by decide)) (fun _ => ⟨recC s0, _, rfl, ⟨zA, zn, zc, zB, zm, zd, rfl, h1, h2, h3, h4, rd, rd2⟩, rfl⟩)⟩
                    try simp only [Act.put, List.setIfInBounds_toArray, List.set_cons_zero, List.set_cons_succ]
                    obtain ⟨vA, vn, vc, vB, vm, vd, rfl⟩ := hVv5
                    refine Ps.some1 (i := 6) (by kernel_rfl) ?tw17q_73_6
                    case tw17q_73_6 =>
                      refine Turns.mk (d := some 15) rfl rfl (TurnS.value (V := fun v => ∃ g, v = .pointer (some ⟨g, 0, none⟩)) [] (by kernel_rfl) (by rfl) (fun L9 m9 w9 hSh hAt hDn hS => ?cw17q_73_6)) (fun v6 hVv6 => ?rw17q_73_6)
                      case cw17q_73_6 =>
                        have hs1 := reach_no hSh (f := 10) (j := 8) (d := 6) (by kernel_rfl) hDn
                        have hs2 := reach_no hSh (f := 10) (j := 9) (d := 6) (by kernel_rfl) hDn
                        refine ⟨.pointer (some ⟨w9.heap.size, 0, none⟩), w9.alloc (.cells #[.int .u32 0, .int .u64 0, .slice none 0 0, .slice none 0 0, .int .i64 0, .bool false] 36), ?_, ⟨_, rfl⟩, TwoS.make1 hS NoRes.res (LRes.res _ _) (LRes.res _ _) hs1 hs2 (by decide)⟩
                        clear hS
                        go_simp
                        try rfl
                      try simp only [Act.put, List.setIfInBounds_toArray, List.set_cons_zero, List.set_cons_succ]
                      obtain ⟨g6, rfl⟩ := hVv6
                      refine Ps.step (i := 8) (d := none) (u := undef) rfl rfl (by kernel_rfl) (by kernel_rfl) (by kernel_rfl) (by kernel_rfl) ?yw17q_74 ?rw17q_74
                      case yw17q_74 =>
                        refine StepS.store [1, 5, 6, 7] (by kernel_rfl) (by rfl) (fun L9 m9 w9 hSh hAt hDn hS => ?_)
                        have hs2 := reach_no hSh (f := 10) (j := 9) (d := 8) (by kernel_rfl) hDn
                        obtain ⟨p1, p2, hB⟩ := TwoS.ready1 hS hDn (hAt 6 (by simp)).1 (hAt 7 (by simp)).1 (hAt 1 (by simp)).1 (hAt 5 (by simp)).1
                        obtain rfl : g6 = p1 := pt_inj ((hAt 6 (by simp)).2.symm.trans hB.e1)
                        refine (exec_store_blk (w := w9) 36 (.tmp 15) (.tmp 83) (by rfl) g6 36 #[.int .u32 0, .int .u64 0, .slice none 0 0, .slice none 0 0, .int .i64 0, .bool false] #[.int .u32 (recC s1).ses, .int .u64 (recC s1).next, .slice uA un uc, .slice uB um ud, .int .i64 (recC s1).room, .bool (recC s1).over] (by rfl) (by rfl) hB.b1 rfl receiverI (by simp [Value.oneCell'])).imp fun w7 hx => ⟨hx.1, TwoS.set1 hs2 (by decide) (hAt 1 (by simp)).2 (hB.store1 (LRes.res _ _) (LRes.res _ _) hx.2.1 hx.2.2)⟩
                      try simp only [Act.put]
                      refine Ps.step (i := 9) (d := none) (u := undef) rfl rfl (by kernel_rfl) (by kernel_rfl) (by kernel_rfl) (by kernel_rfl) ?yw17q_75 ?rw17q_75
                      case yw17q_75 =>
                        refine StepS.store [1, 5, 6, 7, 8] (by kernel_rfl) (by rfl) (fun L9 m9 w9 hSh hAt hDn hS => ?_)
                        obtain ⟨p1, p2, cc, hk, hB⟩ := TwoS.at1 hS (hAt 8 (by simp)).1 hDn
                        obtain rfl : g7 = p2 := pt_inj ((hAt 7 (by simp)).2.symm.trans hB.e2)
                        refine (exec_store_blk (w := w9) 36 (.tmp 16) (.tmp 87) (by rfl) g7 36 #[.int .u32 0, .int .u64 0, .slice none 0 0, .slice none 0 0, .int .i64 0, .bool false] #[.int .u32 (recC s0).ses, .int .u64 (recC s0).next, .slice vA vn vc, .slice vB vm vd, .int .i64 (recC s0).room, .bool (recC s0).over] (by rfl) (by rfl) hB.b2 rfl receiverI (by simp [Value.oneCell'])).imp fun w7 hx => ⟨hx.1, TwoS.set2 (by decide) (hAt 8 (by simp)).1 hk (hAt 5 (by simp)).2 (hB.store2 (LRes.res _ _) (LRes.res _ _) hx.2.1 hx.2.2)⟩
                      try simp only [Act.put]
                      refine Ps.done (by kernel_rfl) (fun w17q hS => ?_) _
                      obtain ⟨p1, p2, d1, d2, hk1, hk2, hB⟩ := TwoS.fin hS (by rfl)
                      clear hS
                      obtain rfl : g6 = p1 := pt_inj hB.e1
                      obtain rfl : g7 = p2 := pt_inj hB.e2
                      have hk1 : Value.agg #[.int .u32 (recC s1).ses, .int .u64 (recC s1).next, .slice uA un uc, .slice uB um ud, .int .i64 (recC s1).room, .bool (recC s1).over] = .agg d1 := hk1
                      have hk2 : Value.agg #[.int .u32 (recC s0).ses, .int .u64 (recC s0).next, .slice vA vn vc, .slice vB vm vd, .int .i64 (recC s0).room, .bool (recC s0).over] = .agg d2 := hk2
                      injection hk1 with hk1
                      injection hk2 with hk2
                      subst hk1 hk2
                      refine ⟨g6, g7, uA, un, uc, uB, um, ud, vA, vn, vc, vB, vm, vd, ?_, hB.b1, hB.b2, ⟨res_rdR hB.r1, res_rdR hB.r2⟩, hB.bel, ⟨(res_capR hB.r1).1, (res_capR hB.r1).2, (res_capR hB.r2).1, (res_capR hB.r2).2⟩⟩
                      simp only
                  case tw17q_72_6 =>
                    refine Turns.mk (d := some 15) rfl rfl (TurnS.value (V := fun v => ∃ g, v = .pointer (some ⟨g, 0, none⟩)) [] (by kernel_rfl) (by rfl) (fun L9 m9 w9 hSh hAt hDn hS => ?cw17q_72_6)) (fun v6 hVv6 => ?rw17q_72_6)
                    case cw17q_72_6 =>
                      have hs1 := reach_no hSh (f := 10) (j := 8) (d := 6) (by kernel_rfl) hDn
                      have hs2 := reach_no hSh (f := 10) (j := 9) (d := 6) (by kernel_rfl) hDn
                      refine ⟨.pointer (some ⟨w9.heap.size, 0, none⟩), w9.alloc (.cells #[.int .u32 0, .int .u64 0, .slice none 0 0, .slice none 0 0, .int .i64 0, .bool false] 36), ?_, ⟨_, rfl⟩, TwoS.make1 hS NoRes.res (LRes.res _ _) (LRes.res _ _) hs1 hs2 (by decide)⟩
                      clear hS
                      go_simp
                      try rfl
                    try simp only [Act.put, List.setIfInBounds_toArray, List.set_cons_zero, List.set_cons_succ]
                    obtain ⟨g6, rfl⟩ := hVv6
                    refine Ps.some1 (i := 5) (by kernel_rfl) ?tw17q_76_5
                    case tw17q_76_5 =>
                      refine Turns.mk (d := some 87) rfl rfl (TurnS.call (V := fun v => ∃ zA zn zc zB zm zd, v = .agg #[.int .u32 (recC s0).ses, .int .u64 (recC s0).next, .slice zA zn zc, .slice zB zm zd, .int .i64 (recC s0).room, .bool (recC s0).over]) ?fw17q_76_5 ?aw17q_76_5 [] (by kernel_rfl) (by rfl) (fun w9 => ?hw17q_76_5) (fun L9 m9 w9 hSh hAt hDn hS => ?cw17q_76_5)) (fun v5 hVv5 => ?rw17q_76_5)
                      case hw17q_76_5 => go_simp; refine ⟨?_, ?_⟩ <;> rfl
                      case cw17q_76_5 =>
                        have hs1 := reach_no hSh (f := 10) (j := 8) (d := 5) (by kernel_rfl) hDn
                        have hs2 := reach_no hSh (f := 10) (j := 9) (d := 5) (by kernel_rfl) hDn
                        have hT := TwoS.any hS
                        have hsz := hT.size
                        refine (recvC_any (fun b => b < w5.heap.size) (fun b => b < w5.heap.size) s0 yA yn yc yB ym yd w9 (Lay.rd_below HRYa.out hT) (Lay.rd_below HRYb.out hT) hym.1 hym.2.1 hym.2.2.1 hym.2.2.2).mono ?_
                        rintro e w8 ⟨zA, zn, zc, zB, zm, zd, rfl, hr, hr2, h1, h2, h3, h4, q8⟩
                        have rd : LH4.rd w8 (Av 6 7 m9) zA zn (recC s0).ahead := Lay.rd_weak (fun b hb _ => (hS.at0 hs1).avoid (hb.elim (fun h => .inl h.1) (fun h => .inr (by omega)))) hr
                        have rd2 : LB3.rd w8 (Av 6 7 m9) zB zm (recC s0).buf := Lay.rd_weak (fun b hb _ => (hS.at0 hs1).avoid (hb.elim (fun h => .inl h.1) (fun h => .inr (by omega)))) hr2
                        exact ⟨_, rfl, ⟨zA, zn, zc, zB, zm, zd, rfl⟩, TwoS.call hS NoRes.res (LRes.res _ _) (LRes.res _ _) hs1 hs2 (by decide) q8 (fun e => absurd e (by decide)) (fun e => absurd e (by decide)) (fun _ => ⟨recC s0, _, rfl, ⟨zA, zn, zc, zB, zm, zd, rfl, h1, h2, h3, h4, rd, rd2⟩, rfl⟩)⟩
                      try simp only [Act.put, List.setIfInBounds_toArray, List.set_cons_zero, List.set_cons_succ]
                      obtain ⟨vA, vn, vc, vB, vm, vd, rfl⟩ := hVv5
                      refine Ps.step (i := 8) (d := none) (u := undef) rfl rfl (by kernel_rfl) (by kernel_rfl) (by kernel_rfl) (by kernel_rfl) ?yw17q_77 ?rw17q_77
                      case yw17q_77 =>
                        refine StepS.store [1, 5, 6, 7] (by kernel_rfl) (by rfl) (fun L9 m9 w9 hSh hAt hDn hS => ?_)
                        have hs2 := reach_no hSh (f := 10) (j := 9) (d := 8) (by kernel_rfl) hDn
                        obtain ⟨p1, p2, hB⟩ := TwoS.ready1 hS hDn (hAt 6 (by simp)).1 (hAt 7 (by simp)).1 (hAt 1 (by simp)).1 (hAt 5 (by simp)).1
                        obtain rfl : g6 = p1 := pt_inj ((hAt 6 (by simp)).2.symm.trans hB.e1)
                        refine (exec_store_blk (w := w9) 36 (.tmp 15) (.tmp 83) (by rfl) g6 36 #[.int .u32 0, .int .u64 0, .slice none 0 0, .slice none 0 0, .int .i64 0, .bool false] #[.int .u32 (recC s1).ses, .int .u64 (recC s1).next, .slice uA un uc, .slice uB um ud, .int .i64 (recC s1).room, .bool (recC s1).over] (by rfl) (by rfl) hB.b1 rfl receiverI (by simp [Value.oneCell'])).imp fun w7 hx => ⟨hx.1, TwoS.set1 hs2 (by decide) (hAt 1 (by simp)).2 (hB.store1 (LRes.res _ _) (LRes.res _ _) hx.2.1 hx.2.2)⟩
                      try simp only [Act.put]
                      refine Ps.step (i := 9) (d := none) (u := undef) rfl rfl (by kernel_rfl) (by kernel_rfl) (by kernel_rfl) (by kernel_rfl) ?yw17q_78 ?rw17q_78
                      case yw17q_78 =>
                        refine StepS.store [1, 5, 6, 7, 8] (by kernel_rfl) (by rfl) (fun L9 m9 w9 hSh hAt hDn hS => ?_)
                        obtain ⟨p1, p2, cc, hk, hB⟩ := TwoS.at1 hS (hAt 8 (by simp)).1 hDn
                        obtain rfl : g7 = p2 := pt_inj ((hAt 7 (by simp)).2.symm.trans hB.e2)
                        refine (exec_store_blk (w := w9) 36 (.tmp 16) (.tmp 87) (by rfl) g7 36 #[.int .u32 0, .int .u64 0, .slice none 0 0, .slice none 0 0, .int .i64 0, .bool false] #[.int .u32 (recC s0).ses, .int .u64 (recC s0).next, .slice vA vn vc, .slice vB vm vd, .int .i64 (recC s0).room, .bool (recC s0).over] (by rfl) (by rfl) hB.b2 rfl receiverI (by simp [Value.oneCell'])).imp fun w7 hx => ⟨hx.1, TwoS.set2 (by decide) (hAt 8 (by simp)).1 hk (hAt 5 (by simp)).2 (hB.store2 (LRes.res _ _) (LRes.res _ _) hx.2.1 hx.2.2)⟩
                      try simp only [Act.put]
                      refine Ps.done (by kernel_rfl) (fun w17q hS => ?_) _
                      obtain ⟨p1, p2, d1, d2, hk1, hk2, hB⟩ := TwoS.fin hS (by rfl)
                      clear hS
                      obtain rfl : g6 = p1 := pt_inj hB.e1
                      obtain rfl : g7 = p2 := pt_inj hB.e2
                      have hk1 : Value.agg #[.int .u32 (recC s1).ses, .int .u64 (recC s1).next, .slice uA un uc, .slice uB um ud, .int .i64 (recC s1).room, .bool (recC s1).over] = .agg d1 := hk1
                      have hk2 : Value.agg #[.int .u32 (recC s0).ses, .int .u64 (recC s0).next, .slice vA vn vc, .slice vB vm vd, .int .i64 (recC s0).room, .bool (recC s0).over] = .agg d2 := hk2
                      injection hk1 with hk1
                      injection hk2 with hk2
                      subst hk1 hk2
                      refine ⟨g6, g7, uA, un, uc, uB, um, ud, vA, vn, vc, vB, vm, vd, ?_, hB.b1, hB.b2, ⟨res_rdR hB.r1, res_rdR hB.r2⟩, hB.bel, ⟨(res_capR hB.r1).1, (res_capR hB.r1).2, (res_capR hB.r2).1, (res_capR hB.r2).2⟩⟩
                      simp only
              case tw17q_56_6 =>
                refine Turns.mk (d := some 15) rfl rfl (TurnS.value (V := fun v => ∃ g, v = .pointer (some ⟨g, 0, none⟩)) [] (by kernel_rfl) (by rfl) (fun L9 m9 w9 hSh hAt hDn hS => ?cw17q_56_6)) (fun v6 hVv6 => ?rw17q_56_6)
                case cw17q_56_6 =>
                  have hs1 := reach_no hSh (f := 10) (j := 8) (d := 6) (by kernel_rfl) hDn
                  have hs2 := reach_no hSh (f := 10) (j := 9) (d := 6) (by kernel_rfl) hDn
                  refine ⟨.pointer (some ⟨w9.heap.size, 0, none⟩), w9.alloc (.cells #[.int .u32 0, .int .u64 0, .slice none 0 0, .slice none 0 0, .int .i64 0, .bool false] 36), ?_, ⟨_, rfl⟩, TwoS.make1 hS NoRes.res (LRes.res _ _) (LRes.res _ _) hs1 hs2 (by decide)⟩
                  clear hS
                  go_simp
                  try rfl
                try simp only [Act.put, List.setIfInBounds_toArray, List.set_cons_zero, List.set_cons_succ]
                obtain ⟨g6, rfl⟩ := hVv6
                refine Ps.some2 (i := 1) (j := 7) (by kernel_rfl) ?tw17q_79_1 ?tw17q_79_7
                case tw17q_79_1 =>
                  refine Turns.mk (d := some 83) rfl rfl (TurnS.call (V := fun v => ∃ zA zn zc zB zm zd, v = .agg #[.int .u32 (recC s1).ses, .int .u64 (recC s1).next, .slice zA zn zc, .slice zB zm zd, .int .i64 (recC s1).room, .bool (recC s1).over]) ?fw17q_79_1 ?aw17q_79_1 [] (by kernel_rfl) (by rfl) (fun w9 => ?hw17q_79_1) (fun L9 m9 w9 hSh hAt hDn hS => ?cw17q_79_1)) (fun v1 hVv1 => ?rw17q_79_1)
                  case hw17q_79_1 => go_simp; refine ⟨?_, ?_⟩ <;> rfl
                  case cw17q_79_1 =>
                    have hs1 := reach_no hSh (f := 10) (j := 8) (d := 1) (by kernel_rfl) hDn
                    have hs2 := reach_no hSh (f := 10) (j := 9) (d := 1) (by kernel_rfl) hDn
                    have hT := TwoS.any hS
                    have hsz := hT.size
                    refine (recvC_any (fun b => b < w5.heap.size) (fun b => b < w5.heap.size) s1 xA xn xc xB xm xd w9 (Lay.rd_below HRXa.out hT) (Lay.rd_below HRXb.out hT) hxm.1 hxm.2.1 hxm.2.2.1 hxm.2.2.2).mono ?_
                    rintro e w8 ⟨zA, zn, zc, zB, zm, zd, rfl, hr, hr2, h1, h2, h3, h4, q8⟩
                    have rd : LH4.rd w8 (Av 6 7 m9) zA zn (recC s1).ahead := Lay.rd_weak (fun b hb _ => (hS.at0 hs1).avoid (hb.elim (fun h => .inl h.1) (fun h => .inr (by omega)))) hr
                    have rd2 : LB3.rd w8 (Av 6 7 m9) zB zm (recC s1).buf := Lay.rd_weak (fun b hb _ => (hS.at0 hs1).avoid (hb.elim (fun h => .inl h.1) (fun h => .inr (by omega)))) hr2
                    exact ⟨_, rfl, ⟨zA, zn, zc, zB, zm, zd, rfl⟩, TwoS.call hS NoRes.res (LRes.res _ _) (LRes.res _ _) hs1 hs2 (by decide) q8 (fun e => absurd e (by decide)) (fun _ => ⟨recC s1, _, rfl, ⟨zA, zn, zc, zB, zm, zd, rfl, h1, h2, h3, h4, rd, rd2⟩, rfl⟩) (fun e => absurd e (by decide))⟩
                  try simp only [Act.put, List.setIfInBounds_toArray, List.set_cons_zero, List.set_cons_succ]
                  obtain ⟨uA, un, uc, uB, um, ud, rfl⟩ := hVv1
                  refine Ps.some2 (i := 5) (j := 7) (by kernel_rfl) ?tw17q_80_5 ?tw17q_80_7
                  case tw17q_80_5 =>
                    refine Turns.mk (d := some 87) rfl rfl (TurnS.call (V := fun v => ∃ zA zn zc zB zm zd, v = .agg #[.int .u32 (recC s0).ses, .int .u64 (recC s0).next, .slice zA zn zc, .slice zB zm zd, .int .i64 (recC s0).room, .bool (recC s0).over]) ?fw17q_80_5 ?aw17q_80_5 [] (by kernel_rfl) (by rfl) (fun w9 => ?hw17q_80_5) (fun L9 m9 w9 hSh hAt hDn hS => ?cw17q_80_5)) (fun v5 hVv5 => ?rw17q_80_5)
                    case hw17q_80_5 => go_simp; refine ⟨?_, ?_⟩ <;> rfl
                    case cw17q_80_5 =>
                      have hs1 := reach_no hSh (f := 10) (j := 8) (d := 5) (by kernel_rfl) hDn
                      have hs2 := reach_no hSh (f := 10) (j := 9) (d := 5) (by kernel_rfl) hDn
                      have hT := TwoS.any hS
                      have hsz := hT.size
                      refine (recvC_any (fun b => b < w5.heap.size) (fun b => b < w5.heap.size) s0 yA yn yc yB ym yd w9 (Lay.rd_below HRYa.out hT) (Lay.rd_below HRYb.out hT) hym.1 hym.2.1 hym.2.2.1 hym.2.2.2).mono ?_
                      rintro e w8 ⟨zA, zn, zc, zB, zm, zd, rfl, hr, hr2, h1, h2, h3, h4, q8⟩
                      have rd : LH4.rd w8 (Av 6 7 m9) zA zn (recC s0).ahead := Lay.rd_weak (fun b hb _ => (hS.at0 hs1).avoid (hb.elim (fun h => .inl h.1) (fun h => .inr (by omega)))) hr
                      have rd2 : LB3.rd w8 (Av 6 7 m9) zB zm (recC s0).buf := Lay.rd_weak (fun b hb _ => (hS.at0 hs1).avoid (hb.elim (fun h => .inl h.1) (fun h => .inr (by omega)))) hr2
                      exact ⟨_, rfl, ⟨zA, zn, zc, zB, zm, zd, rfl⟩, TwoS.call hS NoRes.res (LRes.res _ _) (LRes.res _ _) hs1 hs2 (by decide) q8 (fun e => absurd e (by decide)) (fun e => absurd e (by decide)) (fun _ => ⟨recC s0, _, rfl, ⟨zA, zn, zc, zB, zm, zd, rfl, h1, h2, h3, h4, rd, rd2⟩, rfl⟩)⟩
                    try simp only [Act.put, List.setIfInBounds_toArray, List.set_cons_zero, List.set_cons_succ]
                    obtain ⟨vA, vn, vc, vB, vm, vd, rfl⟩ := hVv5
                    refine Ps.some1 (i := 7) (by kernel_rfl) ?tw17q_81_7
                    case tw17q_81_7 =>
                      refine Turns.mk (d := some 16) rfl rfl (TurnS.value (V := fun v => ∃ g, v = .pointer (some ⟨g, 0, none⟩)) [] (by kernel_rfl) (by rfl) (fun L9 m9 w9 hSh hAt hDn hS => ?cw17q_81_7)) (fun v7 hVv7 => ?rw17q_81_7)
                      case cw17q_81_7 =>
                        have hs1 := reach_no hSh (f := 10) (j := 8) (d := 7) (by kernel_rfl) hDn
                        have hs2 := reach_no hSh (f := 10) (j := 9) (d := 7) (by kernel_rfl) hDn
                        refine ⟨.pointer (some ⟨w9.heap.size, 0, none⟩), w9.alloc (.cells #[.int .u32 0, .int .u64 0, .slice none 0 0, .slice none 0 0, .int .i64 0, .bool false] 36), ?_, ⟨_, rfl⟩, TwoS.make2 hS NoRes.res (LRes.res _ _) (LRes.res _ _) hs1 hs2 (by decide)⟩
                        clear hS
                        go_simp
                        try rfl
                      try simp only [Act.put, List.setIfInBounds_toArray, List.set_cons_zero, List.set_cons_succ]
                      obtain ⟨g7, rfl⟩ := hVv7
                      refine Ps.step (i := 8) (d := none) (u := undef) rfl rfl (by kernel_rfl) (by kernel_rfl) (by kernel_rfl) (by kernel_rfl) ?yw17q_82 ?rw17q_82
                      case yw17q_82 =>
                        refine StepS.store [1, 5, 6, 7] (by kernel_rfl) (by rfl) (fun L9 m9 w9 hSh hAt hDn hS => ?_)
                        have hs2 := reach_no hSh (f := 10) (j := 9) (d := 8) (by kernel_rfl) hDn
                        obtain ⟨p1, p2, hB⟩ := TwoS.ready1 hS hDn (hAt 6 (by simp)).1 (hAt 7 (by simp)).1 (hAt 1 (by simp)).1 (hAt 5 (by simp)).1
                        obtain rfl : g6 = p1 := pt_inj ((hAt 6 (by simp)).2.symm.trans hB.e1)
                        refine (exec_store_blk (w := w9) 36 (.tmp 15) (.tmp 83) (by rfl) g6 36 #[.int .u32 0, .int .u64 0, .slice none 0 0, .slice none 0 0, .int .i64 0, .bool false] #[.int .u32 (recC s1).ses, .int .u64 (recC s1).next, .slice uA un uc, .slice uB um ud, .int .i64 (recC s1).room, .bool (recC s1).over] (by rfl) (by rfl) hB.b1 rfl receiverI (by simp [Value.oneCell'])).imp fun w7 hx => ⟨hx.1, TwoS.set1 hs2 (by decide) (hAt 1 (by simp)).2 (hB.store1 (LRes.res _ _) (LRes.res _ _) hx.2.1 hx.2.2)⟩
                      try simp only [Act.put]
                      refine Ps.step (i := 9) (d := none) (u := undef) rfl rfl (by kernel_rfl) (by kernel_rfl) (by kernel_rfl) (by kernel_rfl) ?yw17q_83 ?rw17q_83
                      case yw17q_83 =>
                        refine StepS.store [1, 5, 6, 7, 8] (by kernel_rfl) (by rfl) (fun L9 m9 w9 hSh hAt hDn hS => ?_)
                        obtain ⟨p1, p2, cc, hk, hB⟩ := TwoS.at1 hS (hAt 8 (by simp)).1 hDn
                        obtain rfl : g7 = p2 := pt_inj ((hAt 7 (by simp)).2.symm.trans hB.e2)
                        refine (exec_store_blk (w := w9) 36 (.tmp 16) (.tmp 87) (by rfl) g7 36 #[.int .u32 0, .int .u64 0, .slice none 0 0, .slice none 0 0, .int .i64 0, .bool false] #[.int .u32 (recC s0).ses, .int .u64 (recC s0).next, .slice vA vn vc, .slice vB vm vd, .int .i64 (recC s0).room, .bool (recC s0).over] (by rfl) (by rfl) hB.b2 rfl receiverI (by simp [Value.oneCell'])).imp fun w7 hx => ⟨hx.1, TwoS.set2 (by decide) (hAt 8 (by simp)).1 hk (hAt 5 (by simp)).2 (hB.store2 (LRes.res _ _) (LRes.res _ _) hx.2.1 hx.2.2)⟩
                      try simp only [Act.put]
                      refine Ps.done (by kernel_rfl) (fun w17q hS => ?_) _
                      obtain ⟨p1, p2, d1, d2, hk1, hk2, hB⟩ := TwoS.fin hS (by rfl)
                      clear hS
                      obtain rfl : g6 = p1 := pt_inj hB.e1
                      obtain rfl : g7 = p2 := pt_inj hB.e2
                      have hk1 : Value.agg #[.int .u32 (recC s1).ses, .int .u64 (recC s1).next, .slice uA un uc, .slice uB um ud, .int .i64 (recC s1).room, .bool (recC s1).over] = .agg d1 := hk1
                      have hk2 : Value.agg #[.int .u32 (recC s0).ses, .int .u64 (recC s0).next, .slice vA vn vc, .slice vB vm vd, .int .i64 (recC s0).room, .bool (recC s0).over] = .agg d2 := hk2
                      injection hk1 with hk1
                      injection hk2 with hk2
                      subst hk1 hk2
                      refine ⟨g6, g7, uA, un, uc, uB, um, ud, vA, vn, vc, vB, vm, vd, ?_, hB.b1, hB.b2, ⟨res_rdR hB.r1, res_rdR hB.r2⟩, hB.bel, ⟨(res_capR hB.r1).1, (res_capR hB.r1).2, (res_capR hB.r2).1, (res_capR hB.r2).2⟩⟩
                      simp only
                  case tw17q_80_7 =>
                    refine Turns.mk (d := some 16) rfl rfl (TurnS.value (V := fun v => ∃ g, v = .pointer (some ⟨g, 0, none⟩)) [] (by kernel_rfl) (by rfl) (fun L9 m9 w9 hSh hAt hDn hS => ?cw17q_80_7)) (fun v7 hVv7 => ?rw17q_80_7)
                    case cw17q_80_7 =>
                      have hs1 := reach_no hSh (f := 10) (j := 8) (d := 7) (by kernel_rfl) hDn
                      have hs2 := reach_no hSh (f := 10) (j := 9) (d := 7) (by kernel_rfl) hDn
                      refine ⟨.pointer (some ⟨w9.heap.size, 0, none⟩), w9.alloc (.cells #[.int .u32 0, .int .u64 0, .slice none 0 0, .slice none 0 0, .int .i64 0, .bool false] 36), ?_, ⟨_, rfl⟩, TwoS.make2 hS NoRes.res (LRes.res _ _) (LRes.res _ _) hs1 hs2 (by decide)⟩
                      clear hS
                      go_simp
                      try rfl
                    try simp only [Act.put, List.setIfInBounds_toArray, List.set_cons_zero, List.set_cons_succ]
                    obtain ⟨g7, rfl⟩ := hVv7
                    refine Ps.some1 (i := 5) (by kernel_rfl) ?tw17q_84_5
                    case tw17q_84_5 =>
                      refine Turns.mk (d := some 87) rfl rfl (TurnS.call (V := fun v => ∃ zA zn zc zB zm zd, v = .agg #[.int .u32 (recC s0).ses, .int .u64 (recC s0).next, .slice zA zn zc, .slice zB zm zd, .int .i64 (recC s0).room, .bool (recC s0).over]) ?fw17q_84_5 ?aw17q_84_5 [] (by kernel_rfl) (by rfl) (fun w9 => ?hw17q_84_5) (fun L9 m9 w9 hSh hAt hDn hS => ?cw17q_84_5)) (fun v5 hVv5 => ?rw17q_84_5)
                      case hw17q_84_5 => go_simp; refine ⟨?_, ?_⟩ <;> rfl
                      case cw17q_84_5 =>
                        have hs1 := reach_no hSh (f := 10) (j := 8) (d := 5) (by kernel_rfl) hDn
                        have hs2 := reach_no hSh (f := 10) (j := 9) (d := 5) (by kernel_rfl) hDn
                        have hT := TwoS.any hS
                        have hsz := hT.size
                        refine (recvC_any (fun b => b < w5.heap.size) (fun b => b < w5.heap.size) s0 yA yn yc yB ym yd w9 (Lay.rd_below HRYa.out hT) (Lay.rd_below HRYb.out hT) hym.1 hym.2.1 hym.2.2.1 hym.2.2.2).mono ?_
                        rintro e w8 ⟨zA, zn, zc, zB, zm, zd, rfl, hr, hr2, h1, h2, h3, h4, q8⟩
                        have rd : LH4.rd w8 (Av 6 7 m9) zA zn (recC s0).ahead := Lay.rd_weak (fun b hb _ => (hS.at0 hs1).avoid (hb.elim (fun h => .inl h.1) (fun h => .inr (by omega)))) hr
                        have rd2 : LB3.rd w8 (Av 6 7 m9) zB zm (recC s0).buf := Lay.rd_weak (fun b hb _ => (hS.at0 hs1).avoid (hb.elim (fun h => .inl h.1) (fun h => .inr (by omega)))) hr2
                        exact ⟨_, rfl, ⟨zA, zn, zc, zB, zm, zd, rfl⟩, TwoS.call hS NoRes.res (LRes.res _ _) (LRes.res _ _) hs1 hs2 (by decide) q8 (fun e => absurd e (by decide)) (fun e => absurd e (by decide)) (fun _ => ⟨recC s0, _, rfl, ⟨zA, zn, zc, zB, zm, zd, rfl, h1, h2, h3, h4, rd, rd2⟩, rfl⟩)⟩
                      try simp only [Act.put, List.setIfInBounds_toArray, List.set_cons_zero, List.set_cons_succ]
                      obtain ⟨vA, vn, vc, vB, vm, vd, rfl⟩ := hVv5
                      refine Ps.step (i := 8) (d := none) (u := undef) rfl rfl (by kernel_rfl) (by kernel_rfl) (by kernel_rfl) (by kernel_rfl) ?yw17q_85 ?rw17q_85
                      case yw17q_85 =>
                        refine StepS.store [1, 5, 6, 7] (by kernel_rfl) (by rfl) (fun L9 m9 w9 hSh hAt hDn hS => ?_)
                        have hs2 := reach_no hSh (f := 10) (j := 9) (d := 8) (by kernel_rfl) hDn
                        obtain ⟨p1, p2, hB⟩ := TwoS.ready1 hS hDn (hAt 6 (by simp)).1 (hAt 7 (by simp)).1 (hAt 1 (by simp)).1 (hAt 5 (by simp)).1
                        obtain rfl : g6 = p1 := pt_inj ((hAt 6 (by simp)).2.symm.trans hB.e1)
                        refine (exec_store_blk (w := w9) 36 (.tmp 15) (.tmp 83) (by rfl) g6 36 #[.int .u32 0, .int .u64 0, .slice none 0 0, .slice none 0 0, .int .i64 0, .bool false] #[.int .u32 (recC s1).ses, .int .u64 (recC s1).next, .slice uA un uc, .slice uB um ud, .int .i64 (recC s1).room, .bool (recC s1).over] (by rfl) (by rfl) hB.b1 rfl receiverI (by simp [Value.oneCell'])).imp fun w7 hx => ⟨hx.1, TwoS.set1 hs2 (by decide) (hAt 1 (by simp)).2 (hB.store1 (LRes.res _ _) (LRes.res _ _) hx.2.1 hx.2.2)⟩
                      try simp only [Act.put]
                      refine Ps.step (i := 9) (d := none) (u := undef) rfl rfl (by kernel_rfl) (by kernel_rfl) (by kernel_rfl) (by kernel_rfl) ?yw17q_86 ?rw17q_86
                      case yw17q_86 =>
                        refine StepS.store [1, 5, 6, 7, 8] (by kernel_rfl) (by rfl) (fun L9 m9 w9 hSh hAt hDn hS => ?_)
                        obtain ⟨p1, p2, cc, hk, hB⟩ := TwoS.at1 hS (hAt 8 (by simp)).1 hDn
                        obtain rfl : g7 = p2 := pt_inj ((hAt 7 (by simp)).2.symm.trans hB.e2)
                        refine (exec_store_blk (w := w9) 36 (.tmp 16) (.tmp 87) (by rfl) g7 36 #[.int .u32 0, .int .u64 0, .slice none 0 0, .slice none 0 0, .int .i64 0, .bool false] #[.int .u32 (recC s0).ses, .int .u64 (recC s0).next, .slice vA vn vc, .slice vB vm vd, .int .i64 (recC s0).room, .bool (recC s0).over] (by rfl) (by rfl) hB.b2 rfl receiverI (by simp [Value.oneCell'])).imp fun w7 hx => ⟨hx.1, TwoS.set2 (by decide) (hAt 8 (by simp)).1 hk (hAt 5 (by simp)).2 (hB.store2 (LRes.res _ _) (LRes.res _ _) hx.2.1 hx.2.2)⟩
                      try simp only [Act.put]
                      refine Ps.done (by kernel_rfl) (fun w17q hS => ?_) _
                      obtain ⟨p1, p2, d1, d2, hk1, hk2, hB⟩ := TwoS.fin hS (by rfl)
                      clear hS
                      obtain rfl : g6 = p1 := pt_inj hB.e1
                      obtain rfl : g7 = p2 := pt_inj hB.e2
                      have hk1 : Value.agg #[.int .u32 (recC s1).ses, .int .u64 (recC s1).next, .slice uA un uc, .slice uB um ud, .int .i64 (recC s1).room, .bool (recC s1).over] = .agg d1 := hk1
                      have hk2 : Value.agg #[.int .u32 (recC s0).ses, .int .u64 (recC s0).next, .slice vA vn vc, .slice vB vm vd, .int .i64 (recC s0).room, .bool (recC s0).over] = .agg d2 := hk2
                      injection hk1 with hk1
                      injection hk2 with hk2
                      subst hk1 hk2
                      refine ⟨g6, g7, uA, un, uc, uB, um, ud, vA, vn, vc, vB, vm, vd, ?_, hB.b1, hB.b2, ⟨res_rdR hB.r1, res_rdR hB.r2⟩, hB.bel, ⟨(res_capR hB.r1).1, (res_capR hB.r1).2, (res_capR hB.r2).1, (res_capR hB.r2).2⟩⟩
                      simp only
                case tw17q_79_7 =>
                  refine Turns.mk (d := some 16) rfl rfl (TurnS.value (V := fun v => ∃ g, v = .pointer (some ⟨g, 0, none⟩)) [] (by kernel_rfl) (by rfl) (fun L9 m9 w9 hSh hAt hDn hS => ?cw17q_79_7)) (fun v7 hVv7 => ?rw17q_79_7)
                  case cw17q_79_7 =>
                    have hs1 := reach_no hSh (f := 10) (j := 8) (d := 7) (by kernel_rfl) hDn
                    have hs2 := reach_no hSh (f := 10) (j := 9) (d := 7) (by kernel_rfl) hDn
                    refine ⟨.pointer (some ⟨w9.heap.size, 0, none⟩), w9.alloc (.cells #[.int .u32 0, .int .u64 0, .slice none 0 0, .slice none 0 0, .int .i64 0, .bool false] 36), ?_, ⟨_, rfl⟩, TwoS.make2 hS NoRes.res (LRes.res _ _) (LRes.res _ _) hs1 hs2 (by decide)⟩
                    clear hS
                    go_simp
                    try rfl
                  try simp only [Act.put, List.setIfInBounds_toArray, List.set_cons_zero, List.set_cons_succ]
                  obtain ⟨g7, rfl⟩ := hVv7
                  refine Ps.some1 (i := 1) (by kernel_rfl) ?tw17q_87_1
                  case tw17q_87_1 =>
                    refine Turns.mk (d := some 83) rfl rfl (TurnS.call (V := fun v => ∃ zA zn zc zB zm zd, v = .agg #[.int .u32 (recC s1).ses, .int .u64 (recC s1).next, .slice zA zn zc, .slice zB zm zd, .int .i64 (recC s1).room, .bool (recC s1).over]) ?fw17q_87_1 ?aw17q_87_1 [] (by kernel_rfl) (by rfl) (fun w9 => ?hw17q_87_1) (fun L9 m9 w9 hSh hAt hDn hS => ?cw17q_87_1)) (fun v1 hVv1 => ?rw17q_87_1)
                    case hw17q_87_1 => go_simp; refine ⟨?_, ?_⟩ <;> rfl
                    case cw17q_87_1 =>
                      have hs1 := reach_no hSh (f := 10) (j := 8) (d := 1) (by kernel_rfl) hDn
                      have hs2 := reach_no hSh (f := 10) (j := 9) (d := 1) (by kernel_rfl) hDn
                      have hT := TwoS.any hS
                      have hsz := hT.size
                      refine (recvC_any (fun b => b < w5.heap.size) (fun b => b < w5.heap.size) s1 xA xn xc xB xm xd w9 (Lay.rd_below HRXa.out hT) (Lay.rd_below HRXb.out hT) hxm.1 hxm.2.1 hxm.2.2.1 hxm.2.2.2).mono ?_
                      rintro e w8 ⟨zA, zn, zc, zB, zm, zd, rfl, hr, hr2, h1, h2, h3, h4, q8⟩
                      have rd : LH4.rd w8 (Av 6 7 m9) zA zn (recC s1).ahead := Lay.rd_weak (fun b hb _ => (hS.at0 hs1).avoid (hb.elim (fun h => .inl h.1) (fun h => .inr (by omega)))) hr
                      have rd2 : LB3.rd w8 (Av 6 7 m9) zB zm (recC s1).buf := Lay.rd_weak (fun b hb _ => (hS.at0 hs1).avoid (hb.elim (fun h => .inl h.1) (fun h => .inr (by omega)))) hr2
                      exact ⟨_, rfl, ⟨zA, zn, zc, zB, zm, zd, rfl⟩, TwoS.call hS NoRes.res (LRes.res _ _) (LRes.res _ _) hs1 hs2 (by decide) q8 (fun e => absurd e (by decide)) (fun _ => ⟨recC s1, _, rfl, ⟨zA, zn, zc, zB, zm, zd, rfl, h1, h2, h3, h4, rd, rd2⟩, rfl⟩) (fun e => absurd e (by decide))⟩
                    try simp only [Act.put, List.setIfInBounds_toArray, List.set_cons_zero, List.set_cons_succ]
                    obtain ⟨uA, un, uc, uB, um, ud, rfl⟩ := hVv1
                    refine Ps.some1 (i := 5) (by kernel_rfl) ?tw17q_88_5
                    case tw17q_88_5 =>
                      refine Turns.mk (d := some 87) rfl rfl (TurnS.call (V := fun v => ∃ zA zn zc zB zm zd, v = .agg #[.int .u32 (recC s0).ses, .int .u64 (recC s0).next, .slice zA zn zc, .slice zB zm zd, .int .i64 (recC s0).room, .bool (recC s0).over]) ?fw17q_88_5 ?aw17q_88_5 [] (by kernel_rfl) (by rfl) (fun w9 => ?hw17q_88_5) (fun L9 m9 w9 hSh hAt hDn hS => ?cw17q_88_5)) (fun v5 hVv5 => ?rw17q_88_5)
                      case hw17q_88_5 => go_simp; refine ⟨?_, ?_⟩ <;> rfl
                      case cw17q_88_5 =>
                        have hs1 := reach_no hSh (f := 10) (j := 8) (d := 5) (by kernel_rfl) hDn
                        have hs2 := reach_no hSh (f := 10) (j := 9) (d := 5) (by kernel_rfl) hDn
                        have hT := TwoS.any hS
                        have hsz := hT.size
                        refine (recvC_any (fun b => b < w5.heap.size) (fun b => b < w5.heap.size) s0 yA yn yc yB ym yd w9 (Lay.rd_below HRYa.out hT) (Lay.rd_below HRYb.out hT) hym.1 hym.2.1 hym.2.2.1 hym.2.2.2).mono ?_
                        rintro e w8 ⟨zA, zn, zc, zB, zm, zd, rfl, hr, hr2, h1, h2, h3, h4, q8⟩
                        have rd : LH4.rd w8 (Av 6 7 m9) zA zn (recC s0).ahead := Lay.rd_weak (fun b hb _ => (hS.at0 hs1).avoid (hb.elim (fun h => .inl h.1) (fun h => .inr (by omega)))) hr
                        have rd2 : LB3.rd w8 (Av 6 7 m9) zB zm (recC s0).buf := Lay.rd_weak (fun b hb _ => (hS.at0 hs1).avoid (hb.elim (fun h => .inl h.1) (fun h => .inr (by omega)))) hr2
                        exact ⟨_, rfl, ⟨zA, zn, zc, zB, zm, zd, rfl⟩, TwoS.call hS NoRes.res (LRes.res _ _) (LRes.res _ _) hs1 hs2 (by decide) q8 (fun e => absurd e (by decide)) (fun e => absurd e (by decide)) (fun _ => ⟨recC s0, _, rfl, ⟨zA, zn, zc, zB, zm, zd, rfl, h1, h2, h3, h4, rd, rd2⟩, rfl⟩)⟩
                      try simp only [Act.put, List.setIfInBounds_toArray, List.set_cons_zero, List.set_cons_succ]
                      obtain ⟨vA, vn, vc, vB, vm, vd, rfl⟩ := hVv5
                      refine Ps.step (i := 8) (d := none) (u := undef) rfl rfl (by kernel_rfl) (by kernel_rfl) (by kernel_rfl) (by kernel_rfl) ?yw17q_89 ?rw17q_89
                      case yw17q_89 =>
                        refine StepS.store [1, 5, 6, 7] (by kernel_rfl) (by rfl) (fun L9 m9 w9 hSh hAt hDn hS => ?_)
                        have hs2 := reach_no hSh (f := 10) (j := 9) (d := 8) (by kernel_rfl) hDn
                        obtain ⟨p1, p2, hB⟩ := TwoS.ready1 hS hDn (hAt 6 (by simp)).1 (hAt 7 (by simp)).1 (hAt 1 (by simp)).1 (hAt 5 (by simp)).1
                        obtain rfl : g6 = p1 := pt_inj ((hAt 6 (by simp)).2.symm.trans hB.e1)
                        refine (exec_store_blk (w := w9) 36 (.tmp 15) (.tmp 83) (by rfl) g6 36 #[.int .u32 0, .int .u64 0, .slice none 0 0, .slice none 0 0, .int .i64 0, .bool false] #[.int .u32 (recC s1).ses, .int .u64 (recC s1).next, .slice uA un uc, .slice uB um ud, .int .i64 (recC s1).room, .bool (recC s1).over] (by rfl) (by rfl) hB.b1 rfl receiverI (by simp [Value.oneCell'])).imp fun w7 hx => ⟨hx.1, TwoS.set1 hs2 (by decide) (hAt 1 (by simp)).2 (hB.store1 (LRes.res _ _) (LRes.res _ _) hx.2.1 hx.2.2)⟩
                      try simp only [Act.put]
                      refine Ps.step (i := 9) (d := none) (u := undef) rfl rfl (by kernel_rfl) (by kernel_rfl) (by kernel_rfl) (by kernel_rfl) ?yw17q_90 ?rw17q_90
                      case yw17q_90 =>
                        refine StepS.store [1, 5, 6, 7, 8] (by kernel_rfl) (by rfl) (fun L9 m9 w9 hSh hAt hDn hS => ?_)
                        obtain ⟨p1, p2, cc, hk, hB⟩ := TwoS.at1 hS (hAt 8 (by simp)).1 hDn
                        obtain rfl : g7 = p2 := pt_inj ((hAt 7 (by simp)).2.symm.trans hB.e2)
                        refine (exec_store_blk (w := w9) 36 (.tmp 16) (.tmp 87) (by rfl) g7 36 #[.int .u32 0, .int .u64 0, .slice none 0 0, .slice none 0 0, .int .i64 0, .bool false] #[.int .u32 (recC s0).ses, .int .u64 (recC s0).next, .slice vA vn vc, .slice vB vm vd, .int .i64 (recC s0).room, .bool (recC s0).over] (by rfl) (by rfl) hB.b2 rfl receiverI (by simp [Value.oneCell'])).imp fun w7 hx => ⟨hx.1, TwoS.set2 (by decide) (hAt 8 (by simp)).1 hk (hAt 5 (by simp)).2 (hB.store2 (LRes.res _ _) (LRes.res _ _) hx.2.1 hx.2.2)⟩
                      try simp only [Act.put]
                      refine Ps.done (by kernel_rfl) (fun w17q hS => ?_) _
                      obtain ⟨p1, p2, d1, d2, hk1, hk2, hB⟩ := TwoS.fin hS (by rfl)
                      clear hS
                      obtain rfl : g6 = p1 := pt_inj hB.e1
                      obtain rfl : g7 = p2 := pt_inj hB.e2
                      have hk1 : Value.agg #[.int .u32 (recC s1).ses, .int .u64 (recC s1).next, .slice uA un uc, .slice uB um ud, .int .i64 (recC s1).room, .bool (recC s1).over] = .agg d1 := hk1
                      have hk2 : Value.agg #[.int .u32 (recC s0).ses, .int .u64 (recC s0).next, .slice vA vn vc, .slice vB vm vd, .int .i64 (recC s0).room, .bool (recC s0).over] = .agg d2 := hk2
                      injection hk1 with hk1
                      injection hk2 with hk2
                      subst hk1 hk2
                      refine ⟨g6, g7, uA, un, uc, uB, um, ud, vA, vn, vc, vB, vm, vd, ?_, hB.b1, hB.b2, ⟨res_rdR hB.r1, res_rdR hB.r2⟩, hB.bel, ⟨(res_capR hB.r1).1, (res_capR hB.r1).2, (res_capR hB.r2).1, (res_capR hB.r2).2⟩⟩
                      simp only
              case tw17q_56_7 =>
                refine Turns.mk (d := some 16) rfl rfl (TurnS.value (V := fun v => ∃ g, v = .pointer (some ⟨g, 0, none⟩)) [] (by kernel_rfl) (by rfl) (fun L9 m9 w9 hSh hAt hDn hS => ?cw17q_56_7)) (fun v7 hVv7 => ?rw17q_56_7)
                case cw17q_56_7 =>
                  have hs1 := reach_no hSh (f := 10) (j := 8) (d := 7) (by kernel_rfl) hDn
                  have hs2 := reach_no hSh (f := 10) (j := 9) (d := 7) (by kernel_rfl) hDn
                  refine ⟨.pointer (some ⟨w9.heap.size, 0, none⟩), w9.alloc (.cells #[.int .u32 0, .int .u64 0, .slice none 0 0, .slice none 0 0, .int .i64 0, .bool false] 36), ?_, ⟨_, rfl⟩, TwoS.make2 hS NoRes.res (LRes.res _ _) (LRes.res _ _) hs1 hs2 (by decide)⟩
                  clear hS
                  go_simp
                  try rfl
                try simp only [Act.put, List.setIfInBounds_toArray, List.set_cons_zero, List.set_cons_succ]
                obtain ⟨g7, rfl⟩ := hVv7
                refine Ps.some2 (i := 1) (j := 6) (by kernel_rfl) ?tw17q_91_1 ?tw17q_91_6
                case tw17q_91_1 =>
                  refine Turns.mk (d := some 83) rfl rfl (TurnS.call (V := fun v => ∃ zA zn zc zB zm zd, v = .agg #[.int .u32 (recC s1).ses, .int .u64 (recC s1).next, .slice zA zn zc, .slice zB zm zd, .int .i64 (recC s1).room, .bool (recC s1).over]) ?fw17q_91_1 ?aw17q_91_1 [] (by kernel_rfl) (by rfl) (fun w9 => ?hw17q_91_1) (fun L9 m9 w9 hSh hAt hDn hS => ?cw17q_91_1)) (fun v1 hVv1 => ?rw17q_91_1)
                  case hw17q_91_1 => go_simp; refine ⟨?_, ?_⟩ <;> rfl
                  case cw17q_91_1 =>
                    have hs1 := reach_no hSh (f := 10) (j := 8) (d := 1) (by kernel_rfl) hDn
                    have hs2 := reach_no hSh (f := 10) (j := 9) (d := 1) (by kernel_rfl) hDn
                    have hT := TwoS.any hS
                    have hsz := hT.size
                    refine (recvC_any (fun b => b < w5.heap.size) (fun b => b < w5.heap.size) s1 xA xn xc xB xm xd w9 (Lay.rd_below HRXa.out hT) (Lay.rd_below HRXb.out hT) hxm.1 hxm.2.1 hxm.2.2.1 hxm.2.2.2).mono ?_
                    rintro e w8 ⟨zA, zn, zc, zB, zm, zd, rfl, hr, hr2, h1, h2, h3, h4, q8⟩
                    have rd : LH4.rd w8 (Av 6 7 m9) zA zn (recC s1).ahead := Lay.rd_weak (fun b hb _ => (hS.at0 hs1).avoid (hb.elim (fun h => .inl h.1) (fun h => .inr (by omega)))) hr
                    have rd2 : LB3.rd w8 (Av 6 7 m9) zB zm (recC s1).buf := Lay.rd_weak (fun b hb _ => (hS.at0 hs1).avoid (hb.elim (fun h => .inl h.1) (fun h => .inr (by omega)))) hr2
                    exact ⟨_, rfl, ⟨zA, zn, zc, zB, zm, zd, rfl⟩, TwoS.call hS NoRes.res (LRes.res _ _) (LRes.res _ _) hs1 hs2 (by decide) q8 (fun e => absurd e (by decide)) (fun _ => ⟨recC s1, _, rfl, ⟨zA, zn, zc, zB, zm, zd, rfl, h1, h2, h3, h4, rd, rd2⟩, rfl⟩) (fun e => absurd e (by decide))⟩
                  try simp only [Act.put, List.setIfInBounds_toArray, List.set_cons_zero, List.set_cons_succ]
                  obtain ⟨uA, un, uc, uB, um, ud, rfl⟩ := hVv1
                  refine Ps.some2 (i := 5) (j := 6) (by kernel_rfl) ?tw17q_92_5 ?tw17q_92_6
                  case tw17q_92_5 =>
                    refine Turns.mk (d := some 87) rfl rfl (TurnS.call (V := fun v => ∃ zA zn zc zB zm zd, v = .agg #[.int .u32 (recC s0).ses, .int .u64 (recC s0).next, .slice zA zn zc, .slice zB zm zd, .int .i64 (recC s0).room, .bool (recC s0).over]) ?fw17q_92_5 ?aw17q_92_5 [] (by kernel_rfl) (by rfl) (fun w9 => ?hw17q_92_5) (fun L9 m9 w9 hSh hAt hDn hS => ?cw17q_92_5)) (fun v5 hVv5 => ?rw17q_92_5)
                    case hw17q_92_5 => go_simp; refine ⟨?_, ?_⟩ <;> rfl
                    case cw17q_92_5 =>
                      have hs1 := reach_no hSh (f := 10) (j := 8) (d := 5) (by kernel_rfl) hDn
                      have hs2 := reach_no hSh (f := 10) (j := 9) (d := 5) (by kernel_rfl) hDn
                      have hT := TwoS.any hS
                      have hsz := hT.size
                      refine (recvC_any (fun b => b < w5.heap.size) (fun b => b < w5.heap.size) s0 yA yn yc yB ym yd w9 (Lay.rd_below HRYa.out hT) (Lay.rd_below HRYb.out hT) hym.1 hym.2.1 hym.2.2.1 hym.2.2.2).mono ?_
                      rintro e w8 ⟨zA, zn, zc, zB, zm, zd, rfl, hr, hr2, h1, h2, h3, h4, q8⟩
                      have rd : LH4.rd w8 (Av 6 7 m9) zA zn (recC s0).ahead := Lay.rd_weak (fun b hb _ => (hS.at0 hs1).avoid (hb.elim (fun h => .inl h.1) (fun h => .inr (by omega)))) hr
                      have rd2 : LB3.rd w8 (Av 6 7 m9) zB zm (recC s0).buf := Lay.rd_weak (fun b hb _ => (hS.at0 hs1).avoid (hb.elim (fun h => .inl h.1) (fun h => .inr (by omega)))) hr2
                      exact ⟨_, rfl, ⟨zA, zn, zc, zB, zm, zd, rfl⟩, TwoS.call hS NoRes.res (LRes.res _ _) (LRes.res _ _) hs1 hs2 (by decide) q8 (fun e => absurd e (by decide)) (fun e => absurd e (by decide)) (fun _ => ⟨recC s0, _, rfl, ⟨zA, zn, zc, zB, zm, zd, rfl, h1, h2, h3, h4, rd, rd2⟩, rfl⟩)⟩
                    try simp only [Act.put, List.setIfInBounds_toArray, List.set_cons_zero, List.set_cons_succ]
                    obtain ⟨vA, vn, vc, vB, vm, vd, rfl⟩ := hVv5
                    refine Ps.some1 (i := 6) (by kernel_rfl) ?tw17q_93_6
                    case tw17q_93_6 =>
                      refine Turns.mk (d := some 15) rfl rfl (TurnS.value (V := fun v => ∃ g, v = .pointer (some ⟨g, 0, none⟩)) [] (by kernel_rfl) (by rfl) (fun L9 m9 w9 hSh hAt hDn hS => ?cw17q_93_6)) (fun v6 hVv6 => ?rw17q_93_6)
                      case cw17q_93_6 =>
                        have hs1 := reach_no hSh (f := 10) (j := 8) (d := 6) (by kernel_rfl) hDn
                        have hs2 := reach_no hSh (f := 10) (j := 9) (d := 6) (by kernel_rfl) hDn
                        refine ⟨.pointer (some ⟨w9.heap.size, 0, none⟩), w9.alloc (.cells #[.int .u32 0, .int .u64 0, .slice none 0 0, .slice none 0 0, .int .i64 0, .bool false] 36), ?_, ⟨_, rfl⟩, TwoS.make1 hS NoRes.res (LRes.res _ _) (LRes.res _ _) hs1 hs2 (by decide)⟩
                        clear hS
                        go_simp
                        try rfl
                      try simp only [Act.put, List.setIfInBounds_toArray, List.set_cons_zero, List.set_cons_succ]
                      obtain ⟨g6, rfl⟩ := hVv6
                      refine Ps.step (i := 8) (d := none) (u := undef) rfl rfl (by kernel_rfl) (by kernel_rfl) (by kernel_rfl) (by kernel_rfl) ?yw17q_94 ?rw17q_94
                      case yw17q_94 =>
                        refine StepS.store [1, 5, 6, 7] (by kernel_rfl) (by rfl) (fun L9 m9 w9 hSh hAt hDn hS => ?_)
                        have hs2 := reach_no hSh (f := 10) (j := 9) (d := 8) (by kernel_rfl) hDn
                        obtain ⟨p1, p2, hB⟩ := TwoS.ready1 hS hDn (hAt 6 (by simp)).1 (hAt 7 (by simp)).1 (hAt 1 (by simp)).1 (hAt 5 (by simp)).1
                        obtain rfl : g6 = p1 := pt_inj ((hAt 6 (by simp)).2.symm.trans hB.e1)
                        refine (exec_store_blk (w := w9) 36 (.tmp 15) (.tmp 83) (by rfl) g6 36 #[.int .u32 0, .int .u64 0, .slice none 0 0, .slice none 0 0, .int .i64 0, .bool false] #[.int .u32 (recC s1).ses, .int .u64 (recC s1).next, .slice uA un uc, .slice uB um ud, .int .i64 (recC s1).room, .bool (recC s1).over] (by rfl) (by rfl) hB.b1 rfl receiverI (by simp [Value.oneCell'])).imp fun w7 hx => ⟨hx.1, TwoS.set1 hs2 (by decide) (hAt 1 (by simp)).2 (hB.store1 (LRes.res _ _) (LRes.res _ _) hx.2.1 hx.2.2)⟩
                      try simp only [Act.put]
                      refine Ps.step (i := 9) (d := none) (u := undef) rfl rfl (by kernel_rfl) (by kernel_rfl) (by kernel_rfl) (by kernel_rfl) ?yw17q_95 ?rw17q_95
                      case yw17q_95 =>
                        refine StepS.store [1, 5, 6, 7, 8] (by kernel_rfl) (by rfl) (fun L9 m9 w9 hSh hAt hDn hS => ?_)
                        obtain ⟨p1, p2, cc, hk, hB⟩ := TwoS.at1 hS (hAt 8 (by simp)).1 hDn
                        obtain rfl : g7 = p2 := pt_inj ((hAt 7 (by simp)).2.symm.trans hB.e2)
                        refine (exec_store_blk (w := w9) 36 (.tmp 16) (.tmp 87) (by rfl) g7 36 #[.int .u32 0, .int .u64 0, .slice none 0 0, .slice none 0 0, .int .i64 0, .bool false] #[.int .u32 (recC s0).ses, .int .u64 (recC s0).next, .slice vA vn vc, .slice vB vm vd, .int .i64 (recC s0).room, .bool (recC s0).over] (by rfl) (by rfl) hB.b2 rfl receiverI (by simp [Value.oneCell'])).imp fun w7 hx => ⟨hx.1, TwoS.set2 (by decide) (hAt 8 (by simp)).1 hk (hAt 5 (by simp)).2 (hB.store2 (LRes.res _ _) (LRes.res _ _) hx.2.1 hx.2.2)⟩
                      try simp only [Act.put]
                      refine Ps.done (by kernel_rfl) (fun w17q hS => ?_) _
                      obtain ⟨p1, p2, d1, d2, hk1, hk2, hB⟩ := TwoS.fin hS (by rfl)
                      clear hS
                      obtain rfl : g6 = p1 := pt_inj hB.e1
                      obtain rfl : g7 = p2 := pt_inj hB.e2
                      have hk1 : Value.agg #[.int .u32 (recC s1).ses, .int .u64 (recC s1).next, .slice uA un uc, .slice uB um ud, .int .i64 (recC s1).room, .bool (recC s1).over] = .agg d1 := hk1
                      have hk2 : Value.agg #[.int .u32 (recC s0).ses, .int .u64 (recC s0).next, .slice vA vn vc, .slice vB vm vd, .int .i64 (recC s0).room, .bool (recC s0).over] = .agg d2 := hk2
                      injection hk1 with hk1
                      injection hk2 with hk2
                      subst hk1 hk2
                      refine ⟨g6, g7, uA, un, uc, uB, um, ud, vA, vn, vc, vB, vm, vd, ?_, hB.b1, hB.b2, ⟨res_rdR hB.r1, res_rdR hB.r2⟩, hB.bel, ⟨(res_capR hB.r1).1, (res_capR hB.r1).2, (res_capR hB.r2).1, (res_capR hB.r2).2⟩⟩
                      simp only
                  case tw17q_92_6 =>
                    refine Turns.mk (d := some 15) rfl rfl (TurnS.value (V := fun v => ∃ g, v = .pointer (some ⟨g, 0, none⟩)) [] (by kernel_rfl) (by rfl) (fun L9 m9 w9 hSh hAt hDn hS => ?cw17q_92_6)) (fun v6 hVv6 => ?rw17q_92_6)
                    case cw17q_92_6 =>
                      have hs1 := reach_no hSh (f := 10) (j := 8) (d := 6) (by kernel_rfl) hDn
                      have hs2 := reach_no hSh (f := 10) (j := 9) (d := 6) (by kernel_rfl) hDn
                      refine ⟨.pointer (some ⟨w9.heap.size, 0, none⟩), w9.alloc (.cells #[.int .u32 0, .int .u64 0, .slice none 0 0, .slice none 0 0, .int .i64 0, .bool false] 36), ?_, ⟨_, rfl⟩, TwoS.make1 hS NoRes.res (LRes.res _ _) (LRes.res _ _) hs1 hs2 (by decide)⟩
                      clear hS
                      go_simp
                      try rfl
                    try simp only [Act.put, List.setIfInBounds_toArray, List.set_cons_zero, List.set_cons_succ]
                    obtain ⟨g6, rfl⟩ := hVv6
                    refine Ps.some1 (i := 5) (by kernel_rfl) ?tw17q_96_5
                    case tw17q_96_5 =>
                      refine Turns.mk (d := some 87) rfl rfl (TurnS.call (V := fun v => ∃ zA zn zc zB zm zd, v = .agg #[.int .u32 (recC s0).ses, .int .u64 (recC s0).next, .slice zA zn zc, .slice zB zm zd, .int .i64 (recC s0).room, .bool (recC s0).over]) ?fw17q_96_5 ?aw17q_96_5 [] (by kernel_rfl) (by rfl) (fun w9 => ?hw17q_96_5) (fun L9 m9 w9 hSh hAt hDn hS => ?cw17q_96_5)) (fun v5 hVv5 => ?rw17q_96_5)
                      case hw17q_96_5 => go_simp; refine ⟨?_, ?_⟩ <;> rfl
                      case cw17q_96_5 =>
                        have hs1 := reach_no hSh (f := 10) (j := 8) (d := 5) (by kernel_rfl) hDn
                        have hs2 := reach_no hSh (f := 10) (j := 9) (d := 5) (by kernel_rfl) hDn
                        have hT := TwoS.any hS
                        have hsz := hT.size
                        refine (recvC_any (fun b => b < w5.heap.size) (fun b => b < w5.heap.size) s0 yA yn yc yB ym yd w9 (Lay.rd_below HRYa.out hT) (Lay.rd_below HRYb.out hT) hym.1 hym.2.1 hym.2.2.1 hym.2.2.2).mono ?_
                        rintro e w8 ⟨zA, zn, zc, zB, zm, zd, rfl, hr, hr2, h1, h2, h3, h4, q8⟩
                        have rd : LH4.rd w8 (Av 6 7 m9) zA zn (recC s0).ahead := Lay.rd_weak (fun b hb _ => (hS.at0 hs1).avoid (hb.elim (fun h => .inl h.1) (fun h => .inr (by omega)))) hr
                        have rd2 : LB3.rd w8 (Av 6 7 m9) zB zm (recC s0).buf := Lay.rd_weak (fun b hb _ => (hS.at0 hs1).avoid (hb.elim (fun h => .inl h.1) (fun h => .inr (by omega)))) hr2
                        exact ⟨_, rfl, ⟨zA, zn, zc, zB, zm, zd, rfl⟩, TwoS.call hS NoRes.res (LRes.res _ _) (LRes.res _ _) hs1 hs2 (by decide) q8 (fun e => absurd e (by decide)) (fun e => absurd e (by decide)) (fun _ => ⟨recC s0, _, rfl, ⟨zA, zn, zc, zB, zm, zd, rfl, h1, h2, h3, h4, rd, rd2⟩, rfl⟩)⟩
                      try simp only [Act.put, List.setIfInBounds_toArray, List.set_cons_zero, List.set_cons_succ]
                      obtain ⟨vA, vn, vc, vB, vm, vd, rfl⟩ := hVv5
                      refine Ps.step (i := 8) (d := none) (u := undef) rfl rfl (by kernel_rfl) (by kernel_rfl) (by kernel_rfl) (by kernel_rfl) ?yw17q_97 ?rw17q_97
                      case yw17q_97 =>
                        refine StepS.store [1, 5, 6, 7] (by kernel_rfl) (by rfl) (fun L9 m9 w9 hSh hAt hDn hS => ?_)
                        have hs2 := reach_no hSh (f := 10) (j := 9) (d := 8) (by kernel_rfl) hDn
                        obtain ⟨p1, p2, hB⟩ := TwoS.ready1 hS hDn (hAt 6 (by simp)).1 (hAt 7 (by simp)).1 (hAt 1 (by simp)).1 (hAt 5 (by simp)).1
                        obtain rfl : g6 = p1 := pt_inj ((hAt 6 (by simp)).2.symm.trans hB.e1)
                        refine (exec_store_blk (w := w9) 36 (.tmp 15) (.tmp 83) (by rfl) g6 36 #[.int .u32 0, .int .u64 0, .slice none 0 0, .slice none 0 0, .int .i64 0, .bool false] #[.int .u32 (recC s1).ses, .int .u64 (recC s1).next, .slice uA un uc, .slice uB um ud, .int .i64 (recC s1).room, .bool (recC s1).over] (by rfl) (by rfl) hB.b1 rfl receiverI (by simp [Value.oneCell'])).imp fun w7 hx => ⟨hx.1, TwoS.set1 hs2 (by decide) (hAt 1 (by simp)).2 (hB.store1 (LRes.res _ _) (LRes.res _ _) hx.2.1 hx.2.2)⟩
                      try simp only [Act.put]
                      refine Ps.step (i := 9) (d := none) (u := undef) rfl rfl (by kernel_rfl) (by kernel_rfl) (by kernel_rfl) (by kernel_rfl) ?yw17q_98 ?rw17q_98
                      case yw17q_98 =>
                        refine StepS.store [1, 5, 6, 7, 8] (by kernel_rfl) (by rfl) (fun L9 m9 w9 hSh hAt hDn hS => ?_)
                        obtain ⟨p1, p2, cc, hk, hB⟩ := TwoS.at1 hS (hAt 8 (by simp)).1 hDn
                        obtain rfl : g7 = p2 := pt_inj ((hAt 7 (by simp)).2.symm.trans hB.e2)
                        refine (exec_store_blk (w := w9) 36 (.tmp 16) (.tmp 87) (by rfl) g7 36 #[.int .u32 0, .int .u64 0, .slice none 0 0, .slice none 0 0, .int .i64 0, .bool false] #[.int .u32 (recC s0).ses, .int .u64 (recC s0).next, .slice vA vn vc, .slice vB vm vd, .int .i64 (recC s0).room, .bool (recC s0).over] (by rfl) (by rfl) hB.b2 rfl receiverI (by simp [Value.oneCell'])).imp fun w7 hx => ⟨hx.1, TwoS.set2 (by decide) (hAt 8 (by simp)).1 hk (hAt 5 (by simp)).2 (hB.store2 (LRes.res _ _) (LRes.res _ _) hx.2.1 hx.2.2)⟩
                      try simp only [Act.put]
                      refine Ps.done (by kernel_rfl) (fun w17q hS => ?_) _
                      obtain ⟨p1, p2, d1, d2, hk1, hk2, hB⟩ := TwoS.fin hS (by rfl)
                      clear hS
                      obtain rfl : g6 = p1 := pt_inj hB.e1
                      obtain rfl : g7 = p2 := pt_inj hB.e2
                      have hk1 : Value.agg #[.int .u32 (recC s1).ses, .int .u64 (recC s1).next, .slice uA un uc, .slice uB um ud, .int .i64 (recC s1).room, .bool (recC s1).over] = .agg d1 := hk1
                      have hk2 : Value.agg #[.int .u32 (recC s0).ses, .int .u64 (recC s0).next, .slice vA vn vc, .slice vB vm vd, .int .i64 (recC s0).room, .bool (recC s0).over] = .agg d2 := hk2
                      injection hk1 with hk1
                      injection hk2 with hk2
                      subst hk1 hk2
                      refine ⟨g6, g7, uA, un, uc, uB, um, ud, vA, vn, vc, vB, vm, vd, ?_, hB.b1, hB.b2, ⟨res_rdR hB.r1, res_rdR hB.r2⟩, hB.bel, ⟨(res_capR hB.r1).1, (res_capR hB.r1).2, (res_capR hB.r2).1, (res_capR hB.r2).2⟩⟩
                      simp only
                case tw17q_91_6 =>
                  refine Turns.mk (d := some 15) rfl rfl (TurnS.value (V := fun v => ∃ g, v = .pointer (some ⟨g, 0, none⟩)) [] (by kernel_rfl) (by rfl) (fun L9 m9 w9 hSh hAt hDn hS => ?cw17q_91_6)) (fun v6 hVv6 => ?rw17q_91_6)
                  case cw17q_91_6 =>
                    have hs1 := reach_no hSh (f := 10) (j := 8) (d := 6) (by kernel_rfl) hDn
                    have hs2 := reach_no hSh (f := 10) (j := 9) (d := 6) (by kernel_rfl) hDn
                    refine ⟨.pointer (some ⟨w9.heap.size, 0, none⟩), w9.alloc (.cells #[.int .u32 0, .int .u64 0, .slice none 0 0, .slice none 0 0, .int .i64 0, .bool false] 36), ?_, ⟨_, rfl⟩, TwoS.make1 hS NoRes.res (LRes.res _ _) (LRes.res _ _) hs1 hs2 (by decide)⟩
                    clear hS
                    go_simp
                    try rfl
                  try simp only [Act.put, List.setIfInBounds_toArray, List.set_cons_zero, List.set_cons_succ]
                  obtain ⟨g6, rfl⟩ := hVv6
                  refine Ps.some1 (i := 1) (by kernel_rfl) ?tw17q_99_1
                  case tw17q_99_1 =>
                    refine Turns.mk (d := some 83) rfl rfl (TurnS.call (V := fun v => ∃ zA zn zc zB zm zd, v = .agg #[.int .u32 (recC s1).ses, .int .u64 (recC s1).next, .slice zA zn zc, .slice zB zm zd, .int .i64 (recC s1).room, .bool (recC s1).over]) ?fw17q_99_1 ?aw17q_99_1 [] (by kernel_rfl) (by rfl) (fun w9 => ?hw17q_99_1) (fun L9 m9 w9 hSh hAt hDn hS => ?cw17q_99_1)) (fun v1 hVv1 => ?rw17q_99_1)
                    case hw17q_99_1 => go_simp; refine ⟨?_, ?_⟩ <;> rfl
                    case cw17q_99_1 =>
                      have hs1 := reach_no hSh (f := 10) (j := 8) (d := 1) (by kernel_rfl) hDn
                      have hs2 := reach_no hSh (f := 10) (j := 9) (d := 1) (by kernel_rfl) hDn
                      have hT := TwoS.any hS
                      have hsz := hT.size
                      refine (recvC_any (fun b => b < w5.heap.size) (fun b => b < w5.heap.size) s1 xA xn xc xB xm xd w9 (Lay.rd_below HRXa.out hT) (Lay.rd_below HRXb.out hT) hxm.1 hxm.2.1 hxm.2.2.1 hxm.2.2.2).mono ?_
                      rintro e w8 ⟨zA, zn, zc, zB, zm, zd, rfl, hr, hr2, h1, h2, h3, h4, q8⟩
                      have rd : LH4.rd w8 (Av 6 7 m9) zA zn (recC s1).ahead := Lay.rd_weak (fun b hb _ => (hS.at0 hs1).avoid (hb.elim (fun h => .inl h.1) (fun h => .inr (by omega)))) hr
                      have rd2 : LB3.rd w8 (Av 6 7 m9) zB zm (recC s1).buf := Lay.rd_weak (fun b hb _ => (hS.at0 hs1).avoid (hb.elim (fun h => .inl h.1) (fun h => .inr (by omega)))) hr2
                      exact ⟨_, rfl, ⟨zA, zn, zc, zB, zm, zd, rfl⟩, TwoS.call hS NoRes.res (LRes.res _ _) (LRes.res _ _) hs1 hs2 (by decide) q8 (fun e => absurd e (by decide)) (fun _ => ⟨recC s1, _, rfl, ⟨zA, zn, zc, zB, zm, zd, rfl, h1, h2, h3, h4, rd, rd2⟩, rfl⟩) (fun e => absurd e (by decide))⟩
                    try simp only [Act.put, List.setIfInBounds_toArray, List.set_cons_zero, List.set_cons_succ]
                    obtain ⟨uA, un, uc, uB, um, ud, rfl⟩ := hVv1
                    refine Ps.some1 (i := 5) (by kernel_rfl) ?tw17q_100_5
                    case tw17q_100_5 =>
                      refine Turns.mk (d := some 87) rfl rfl (TurnS.call (V := fun v => ∃ zA zn zc zB zm zd, v = .agg #[.int .u32 (recC s0).ses, .int .u64 (recC s0).next, .slice zA zn zc, .slice zB zm zd, .int .i64 (recC s0).room, .bool (recC s0).over]) ?fw17q_100_5 ?aw17q_100_5 [] (by kernel_rfl) (by rfl) (fun w9 => ?hw17q_100_5) (fun L9 m9 w9 hSh hAt hDn hS => ?cw17q_100_5)) (fun v5 hVv5 => ?rw17q_100_5)
                      case hw17q_100_5 => go_simp; refine ⟨?_, ?_⟩ <;> rfl
                      case cw17q_100_5 =>
                        have hs1 := reach_no hSh (f := 10) (j := 8) (d := 5) (by kernel_rfl) hDn
                        have hs2 := reach_no hSh (f := 10) (j := 9) (d := 5) (by kernel_rfl) hDn
                        have hT := TwoS.any hS
                        have hsz := hT.size
                        refine (recvC_any (fun b => b < w5.heap.size) (fun b => b < w5.heap.size) s0 yA yn yc yB ym yd w9 (Lay.rd_below HRYa.out hT) (Lay.rd_below HRYb.out hT) hym.1 hym.2.1 hym.2.2.1 hym.2.2.2).mono ?_
                        rintro e w8 ⟨zA, zn, zc, zB, zm, zd, rfl, hr, hr2, h1, h2, h3, h4, q8⟩
                        have rd : LH4.rd w8 (Av 6 7 m9) zA zn (recC s0).ahead := Lay.rd_weak (fun b hb _ => (hS.at0 hs1).avoid (hb.elim (fun h => .inl h.1) (fun h => .inr (by omega)))) hr
                        have rd2 : LB3.rd w8 (Av 6 7 m9) zB zm (recC s0).buf := Lay.rd_weak (fun b hb _ => (hS.at0 hs1).avoid (hb.elim (fun h => .inl h.1) (fun h => .inr (by omega)))) hr2
                        exact ⟨_, rfl, ⟨zA, zn, zc, zB, zm, zd, rfl⟩, TwoS.call hS NoRes.res (LRes.res _ _) (LRes.res _ _) hs1 hs2 (by decide) q8 (fun e => absurd e (by decide)) (fun e => absurd e (by decide)) (fun _ => ⟨recC s0, _, rfl, ⟨zA, zn, zc, zB, zm, zd, rfl, h1, h2, h3, h4, rd, rd2⟩, rfl⟩)⟩
                      try simp only [Act.put, List.setIfInBounds_toArray, List.set_cons_zero, List.set_cons_succ]
                      obtain ⟨vA, vn, vc, vB, vm, vd, rfl⟩ := hVv5
                      refine Ps.step (i := 8) (d := none) (u := undef) rfl rfl (by kernel_rfl) (by kernel_rfl) (by kernel_rfl) (by kernel_rfl) ?yw17q_101 ?rw17q_101
                      case yw17q_101 =>
                        refine StepS.store [1, 5, 6, 7] (by kernel_rfl) (by rfl) (fun L9 m9 w9 hSh hAt hDn hS => ?_)
                        have hs2 := reach_no hSh (f := 10) (j := 9) (d := 8) (by kernel_rfl) hDn
                        obtain ⟨p1, p2, hB⟩ := TwoS.ready1 hS hDn (hAt 6 (by simp)).1 (hAt 7 (by simp)).1 (hAt 1 (by simp)).1 (hAt 5 (by simp)).1
                        obtain rfl : g6 = p1 := pt_inj ((hAt 6 (by simp)).2.symm.trans hB.e1)
                        refine (exec_store_blk (w := w9) 36 (.tmp 15) (.tmp 83) (by rfl) g6 36 #[.int .u32 0, .int .u64 0, .slice none 0 0, .slice none 0 0, .int .i64 0, .bool false] #[.int .u32 (recC s1).ses, .int .u64 (recC s1).next, .slice uA un uc, .slice uB um ud, .int .i64 (recC s1).room, .bool (recC s1).over] (by rfl) (by rfl) hB.b1 rfl receiverI (by simp [Value.oneCell'])).imp fun w7 hx => ⟨hx.1, TwoS.set1 hs2 (by decide) (hAt 1 (by simp)).2 (hB.store1 (LRes.res _ _) (LRes.res _ _) hx.2.1 hx.2.2)⟩
                      try simp only [Act.put]
                      refine Ps.step (i := 9) (d := none) (u := undef) rfl rfl (by kernel_rfl) (by kernel_rfl) (by kernel_rfl) (by kernel_rfl) ?yw17q_102 ?rw17q_102
                      case yw17q_102 =>
                        refine StepS.store [1, 5, 6, 7, 8] (by kernel_rfl) (by rfl) (fun L9 m9 w9 hSh hAt hDn hS => ?_)
                        obtain ⟨p1, p2, cc, hk, hB⟩ := TwoS.at1 hS (hAt 8 (by simp)).1 hDn
                        obtain rfl : g7 = p2 := pt_inj ((hAt 7 (by simp)).2.symm.trans hB.e2)
                        refine (exec_store_blk (w := w9) 36 (.tmp 16) (.tmp 87) (by rfl) g7 36 #[.int .u32 0, .int .u64 0, .slice none 0 0, .slice none 0 0, .int .i64 0, .bool false] #[.int .u32 (recC s0).ses, .int .u64 (recC s0).next, .slice vA vn vc, .slice vB vm vd, .int .i64 (recC s0).room, .bool (recC s0).over] (by rfl) (by rfl) hB.b2 rfl receiverI (by simp [Value.oneCell'])).imp fun w7 hx => ⟨hx.1, TwoS.set2 (by decide) (hAt 8 (by simp)).1 hk (hAt 5 (by simp)).2 (hB.store2 (LRes.res _ _) (LRes.res _ _) hx.2.1 hx.2.2)⟩
                      try simp only [Act.put]
                      refine Ps.done (by kernel_rfl) (fun w17q hS => ?_) _
                      obtain ⟨p1, p2, d1, d2, hk1, hk2, hB⟩ := TwoS.fin hS (by rfl)
                      clear hS
                      obtain rfl : g6 = p1 := pt_inj hB.e1
                      obtain rfl : g7 = p2 := pt_inj hB.e2
                      have hk1 : Value.agg #[.int .u32 (recC s1).ses, .int .u64 (recC s1).next, .slice uA un uc, .slice uB um ud, .int .i64 (recC s1).room, .bool (recC s1).over] = .agg d1 := hk1
                      have hk2 : Value.agg #[.int .u32 (recC s0).ses, .int .u64 (recC s0).next, .slice vA vn vc, .slice vB vm vd, .int .i64 (recC s0).room, .bool (recC s0).over] = .agg d2 := hk2
                      injection hk1 with hk1
                      injection hk2 with hk2
                      subst hk1 hk2
                      refine ⟨g6, g7, uA, un, uc, uB, um, ud, vA, vn, vc, vB, vm, vd, ?_, hB.b1, hB.b2, ⟨res_rdR hB.r1, res_rdR hB.r2⟩, hB.bel, ⟨(res_capR hB.r1).1, (res_capR hB.r1).2, (res_capR hB.r2).1, (res_capR hB.r2).2⟩⟩
                      simp only
            case kpsw17q =>
              intro a' w6 hF
              obtain ⟨g6, g7, uA, un, uc, uB, um, ud, vA, vn, vc, vB, vm, vd, rfl, h6, h7, hrd, hb6, hcap⟩ := hF
              have H6 := Lib.hid h6
              have H7 := Lib.hid h7
              have HRD := Lib.hid hrd
              have HCAP := Lib.hid hcap
              have HX6 := Lib.hid (HX8.out.ca hb6)
              have HB6 := Lib.hid (bl_ca HBW5.out hb6)
              have HRX6a := Lib.hid (Lay.rd_below HRXa.out hb6)
              have HRX6b := Lib.hid (Lay.rd_below HRXb.out hb6)
              clear h6 h7 hrd hb6 hcap HX8 HBW5 HRXa HRXb HRYa HRYb HF0 HF1 HF2 HF3 HF4 HF5
              obtain ⟨R, hR⟩ : ∃ R, R = recB (recC s1) := ⟨_, rfl⟩
              have HRE := Lib.hid hR
              clear hR
              have y0 : w6.cell? ⟨g6, 0, none⟩ = some (.int .u32 (recC s1).ses) := H6.out.cell 0
              have y1 : w6.cell? ⟨g6, 1, none⟩ = some (.int .u64 (recC s1).next) := H6.out.cell 1
              have y2 : w6.cell? ⟨g6, 2, none⟩ = some (.slice uA un uc) := H6.out.cell 2
              have y3 : w6.cell? ⟨g6, 3, none⟩ = some (.slice uB um ud) := H6.out.cell 3
              have y4 : w6.cell? ⟨g6, 4, none⟩ = some (.int .i64 (recC s1).room) := H6.out.cell 4
              have y5 : w6.cell? ⟨g6, 5, none⟩ = some (.bool (recC s1).over) := H6.out.cell 5
              go_wp2_with fail
              refine (rrecv_any AllB AllB (recC s1) uA un uc uB um ud w6 HRD.out.1.1 HRD.out.1.2 HCAP.out.1 HCAP.out.2.1).mono ?_
              rw [← HRE.out]
              rintro e w7 ⟨rfl, q7⟩
              have HQ7 := Lib.hid q7
              clear q7
              clear y0 y1 y2 y3 y4 y5
              have y0 : w7.cell? ⟨g6, 0, none⟩ = some (.int .u32 (recC s1).ses) := (H6.out.ca HQ7.out).cell 0
              have y1 : w7.cell? ⟨g6, 1, none⟩ = some (.int .u64 (recC s1).next) := (H6.out.ca HQ7.out).cell 1
              have y2 : w7.cell? ⟨g6, 2, none⟩ = some (.slice uA un uc) := (H6.out.ca HQ7.out).cell 2
              have y3 : w7.cell? ⟨g6, 3, none⟩ = some (.slice uB um ud) := (H6.out.ca HQ7.out).cell 3
              have y4 : w7.cell? ⟨g6, 4, none⟩ = some (.int .i64 (recC s1).room) := (H6.out.ca HQ7.out).cell 4
              have y5 : w7.cell? ⟨g6, 5, none⟩ = some (.bool (recC s1).over) := (H6.out.ca HQ7.out).cell 5
              go_wp2_with fail
              refine (crecv_any AllB AllB (recC s1) uA un uc uB um ud w7 (Lay.rd_below HRD.out.1.1 HQ7.out) (Lay.rd_below HRD.out.1.2 HQ7.out) HCAP.out.1 HCAP.out.2.1).mono ?_
              rw [← HRE.out]
              rintro e w8 ⟨rfl, q8⟩
              have HQ8 := Lib.hid (bl_ca HQ7.out q8)
              clear q8
              clear y0 y1 y2 y3 y4 y5
              obtain ⟨E, hE⟩ : ∃ E : Int, E = (if R = true then 0 else 320) := ⟨_, rfl⟩
              rw [← hE]
              have HEE := Lib.hid hE
              clear hE
              go_upto_region 20 with fail
              obtain ⟨bS, hbS⟩ : ∃ b, b = eqRC (recC s1) (recC s0) := ⟨_, rfl⟩
              have HBS := Lib.hid hbS
              clear hbS
              have HG6 := Lib.hid (H6.out.ca HQ8.out)
              have HG7 := Lib.hid (H7.out.ca HQ8.out)
              have HG8 := Lib.hid (HX6.out.ca HQ8.out)
              have HD := Lib.hid (And.intro (And.intro (Lay.rd_below HRD.out.1.1 HQ8.out) (Lay.rd_below HRD.out.1.2 HQ8.out)) (And.intro (Lay.rd_below HRD.out.2.1 HQ8.out) (Lay.rd_below HRD.out.2.2 HQ8.out)))
              have HXa := Lib.hid (Lay.rd_below HRX6a.out HQ8.out)
              have HXb := Lib.hid (Lay.rd_below HRX6b.out HQ8.out)
              refine wp_region_ps (S := SeqN [24] (fun j m w' => match j with | 0 => Below w8.heap.size w8 w' | _ => Below w8.heap.size w8 w' ∧ ∃ zA zn zc zB zm zd, m 24 = .agg #[.int .u32 (recC s1).ses, .int .u64 (recC s1).next, .slice zA zn zc, .slice zB zm zd, .int .i64 (recC s1).room, .bool (recC s1).over] ∧ LH4.rd w' AllB zA zn (recC s1).ahead ∧ LB3.rd w' AllB zB zm (recC s1).buf)) (by kernel_rfl) ?spswg32 ?ppswg32
              case spswg32 =>
                exact SeqN.start (by rfl) (Below.refl _ _).drew
              refine Ps.step (i := 0) (d := some 92) (u := (.int .i64 (E))) rfl rfl (by kernel_rfl) (by kernel_rfl) (by kernel_rfl) (by kernel_rfl) ?ywg32_33 ?rwg32_33
              case ywg32_33 =>
                refine StepS.pure (SeqN.pass (by decide)) (by rfl) (fun w9 => ?_)
                first | rfl | (go_simp; done) | (go_simp; rfl)
              try simp only [Act.put, List.setIfInBounds_toArray, List.set_cons_zero, List.set_cons_succ]
              refine Ps.step (i := 1) (d := some 93) (u := (.bool (decide (E = 0)))) rfl rfl (by kernel_rfl) (by kernel_rfl) (by kernel_rfl) (by kernel_rfl) ?ywg32_34 ?rwg32_34
              case ywg32_34 =>
                refine StepS.pure (SeqN.pass (by decide)) (by rfl) (fun w9 => ?_)
                first | rfl | (go_simp; done) | (go_simp; rfl)
              try simp only [Act.put, List.setIfInBounds_toArray, List.set_cons_zero, List.set_cons_succ]
              refine Ps.step (i := 2) (d := some 94) (u := (.bool (R))) rfl rfl (by kernel_rfl) (by kernel_rfl) (by kernel_rfl) (by kernel_rfl) ?ywg32_35 ?rwg32_35
              case ywg32_35 =>
                refine StepS.pure (SeqN.pass (by decide)) (by rfl) (fun w9 => ?_)
                first | rfl | (go_simp; done) | (go_simp; rfl)
              try simp only [Act.put, List.setIfInBounds_toArray, List.set_cons_zero, List.set_cons_succ]
              refine Ps.step (i := 3) (d := some 95) (u := (.bool (false))) rfl rfl (by kernel_rfl) (by kernel_rfl) (by kernel_rfl) (by kernel_rfl) ?ywg32_36 ?rwg32_36
              case ywg32_36 =>
                refine StepS.pure (SeqN.pass (by decide)) (by rfl) (fun w9 => ?_)
                cases R
                · obtain rfl : E = 320 := by rw [HEE.out]; rfl
                  rfl
                · obtain rfl : E = 0 := by rw [HEE.out]; rfl
                  rfl
              try simp only [Act.put, List.setIfInBounds_toArray, List.set_cons_zero, List.set_cons_succ]
              refine Ps.step (i := 4) (d := some 96) (u := (.bool (false))) rfl rfl (by kernel_rfl) (by kernel_rfl) (by kernel_rfl) (by kernel_rfl) ?ywg32_37 ?rwg32_37
              case ywg32_37 =>
                refine StepS.pure (SeqN.pass (by decide)) (by rfl) (fun w9 => ?_)
                first | rfl | (go_simp; done) | (go_simp; rfl)
              try simp only [Act.put, List.setIfInBounds_toArray, List.set_cons_zero, List.set_cons_succ]
              refine Ps.step (i := 5) (d := some 97) (u := (.bool (R))) rfl rfl (by kernel_rfl) (by kernel_rfl) (by kernel_rfl) (by kernel_rfl) ?ywg32_38 ?rwg32_38
              case ywg32_38 =>
                refine StepS.pure (SeqN.pass (by decide)) (by rfl) (fun w9 => ?_)
                first | rfl | (go_simp; done) | (go_simp; rfl)
              try simp only [Act.put, List.setIfInBounds_toArray, List.set_cons_zero, List.set_cons_succ]
              refine Ps.step (i := 6) (d := some 98) (u := (.bool (!R))) rfl rfl (by kernel_rfl) (by kernel_rfl) (by kernel_rfl) (by kernel_rfl) ?ywg32_39 ?rwg32_39
              case ywg32_39 =>
                refine StepS.pure (SeqN.pass (by decide)) (by rfl) (fun w9 => ?_)
                first | rfl | (go_simp; done) | (go_simp; rfl)
              try simp only [Act.put, List.setIfInBounds_toArray, List.set_cons_zero, List.set_cons_succ]
              obtain ⟨bR, hb9⟩ : ∃ b : Bool, b = (!R) := ⟨_, rfl⟩
              have HEbR := Lib.hid hb9
              clear hb9
              refine Ps.step (i := 7) (d := some 99) (u := (.bool (bR))) rfl rfl (by kernel_rfl) (by kernel_rfl) (by kernel_rfl) (by kernel_rfl) ?ywg32_40 ?rwg32_40
              case ywg32_40 =>
                refine StepS.pure (SeqN.pass (by decide)) (by rfl) (fun w9 => ?_)
                have e9 : (!R) = bR := by rw [HEbR.out]
                rw [← e9]
                clear e9
                first | rfl | (go_simp; done) | (go_simp; rfl)
              try simp only [Act.put, List.setIfInBounds_toArray, List.set_cons_zero, List.set_cons_succ]
              refine Ps.step (i := 8) (d := some 100) (u := (cond bR (.int .i64 (E)) (undef))) rfl rfl (by kernel_rfl) (by kernel_rfl) (by kernel_rfl) (by kernel_rfl) ?ywg32_41 ?rwg32_41
              case ywg32_41 =>
                cases bR
                · exact StepS.skip (SeqN.pass (by decide)) (by rfl)
                · skip
                  refine StepS.pure (SeqN.pass (by decide)) (by rfl) (fun w9 => ?_)
                  first | rfl | (go_simp; done) | (go_simp; rfl)
              try simp only [Act.put, List.setIfInBounds_toArray, List.set_cons_zero, List.set_cons_succ]
              refine Ps.step (i := 9) (d := some 101) (u := (cond bR (.bool (!decide (E = 320))) (undef))) rfl rfl (by kernel_rfl) (by kernel_rfl) (by kernel_rfl) (by kernel_rfl) ?ywg32_42 ?rwg32_42
              case ywg32_42 =>
                cases bR
                · exact StepS.skip (SeqN.pass (by decide)) (by rfl)
                · skip
                  refine StepS.pure (SeqN.pass (by decide)) (by rfl) (fun w9 => ?_)
                  first | rfl | (go_simp; done) | (go_simp; rfl)
              try simp only [Act.put, List.setIfInBounds_toArray, List.set_cons_zero, List.set_cons_succ]
              refine Ps.step (i := 10) (d := some 102) (u := (.bool (false))) rfl rfl (by kernel_rfl) (by kernel_rfl) (by kernel_rfl) (by kernel_rfl) ?ywg32_43 ?rwg32_43
              case ywg32_43 =>
                refine StepS.pure (SeqN.pass (by decide)) (by rfl) (fun w9 => ?_)
                cases bR
                · rfl
                · obtain rfl : E = 320 := by have h := HEbR.out; rw [HEE.out]; revert h; cases R <;> simp
                  rfl
              try simp only [Act.put, List.setIfInBounds_toArray, List.set_cons_zero, List.set_cons_succ]
              refine Ps.step (i := 11) (d := some 103) (u := (.bool (false))) rfl rfl (by kernel_rfl) (by kernel_rfl) (by kernel_rfl) (by kernel_rfl) ?ywg32_44 ?rwg32_44
              case ywg32_44 =>
                refine StepS.pure (SeqN.pass (by decide)) (by rfl) (fun w9 => ?_)
                rfl
              try simp only [Act.put, List.setIfInBounds_toArray, List.set_cons_zero, List.set_cons_succ]
              refine Ps.step (i := 12) (d := some 104) (u := (.bool (false))) rfl rfl (by kernel_rfl) (by kernel_rfl) (by kernel_rfl) (by kernel_rfl) ?ywg32_45 ?rwg32_45
              case ywg32_45 =>
                refine StepS.pure (SeqN.pass (by decide)) (by rfl) (fun w9 => ?_)
                first | rfl | (go_simp; done) | (go_simp; rfl)
              try simp only [Act.put, List.setIfInBounds_toArray, List.set_cons_zero, List.set_cons_succ]
              refine Ps.step (i := 13) (d := some 105) (u := (.agg #[.int .u32 ((recC s1).ses), .int .u64 ((recC s1).next), .slice uA un uc, .slice uB um ud, .int .i64 ((recC s1).room), .bool ((recC s1).over)])) rfl rfl (by kernel_rfl) (by kernel_rfl) (by kernel_rfl) (by kernel_rfl) ?ywg32_46 ?rwg32_46
              case ywg32_46 =>
                refine StepS.read [] (by kernel_rfl) (SeqN.pass (by decide)) (by rfl) (fun L9 m9 w9 hSh hAt hDn hS => ?_)
                have hT : Below w8.heap.size w8 w9 := SeqN.any (T := fun w9 => Below w8.heap.size w8 w9) (fun j _ _ h => by match j, h with | 0, h => exact h | _ + 1, h => exact h.1) hS
                have x0 : w9.cell? ⟨g6, 0, none⟩ = some (.int .u32 ((recC s1).ses)) := (HG6.out.ca hT).cell 0
                have x1 : w9.cell? ⟨g6, 1, none⟩ = some (.int .u64 ((recC s1).next)) := (HG6.out.ca hT).cell 1
                have x2 : w9.cell? ⟨g6, 2, none⟩ = some (.slice uA un uc) := (HG6.out.ca hT).cell 2
                have x3 : w9.cell? ⟨g6, 3, none⟩ = some (.slice uB um ud) := (HG6.out.ca hT).cell 3
                have x4 : w9.cell? ⟨g6, 4, none⟩ = some (.int .i64 ((recC s1).room)) := (HG6.out.ca hT).cell 4
                have x5 : w9.cell? ⟨g6, 5, none⟩ = some (.bool ((recC s1).over)) := (HG6.out.ca hT).cell 5
                clear hT hS
                go_simp
                try rfl
              try simp only [Act.put, List.setIfInBounds_toArray, List.set_cons_zero, List.set_cons_succ]
              refine Ps.step (i := 14) (d := some 106) (u := (.agg #[.int .u32 ((recC s0).ses), .int .u64 ((recC s0).next), .slice vA vn vc, .slice vB vm vd, .int .i64 ((recC s0).room), .bool ((recC s0).over)])) rfl rfl (by kernel_rfl) (by kernel_rfl) (by kernel_rfl) (by kernel_rfl) ?ywg32_47 ?rwg32_47
              case ywg32_47 =>
                refine StepS.read [] (by kernel_rfl) (SeqN.pass (by decide)) (by rfl) (fun L9 m9 w9 hSh hAt hDn hS => ?_)
                have hT : Below w8.heap.size w8 w9 := SeqN.any (T := fun w9 => Below w8.heap.size w8 w9) (fun j _ _ h => by match j, h with | 0, h => exact h | _ + 1, h => exact h.1) hS
                have x0 : w9.cell? ⟨g7, 0, none⟩ = some (.int .u32 ((recC s0).ses)) := (HG7.out.ca hT).cell 0
                have x1 : w9.cell? ⟨g7, 1, none⟩ = some (.int .u64 ((recC s0).next)) := (HG7.out.ca hT).cell 1
                have x2 : w9.cell? ⟨g7, 2, none⟩ = some (.slice vA vn vc) := (HG7.out.ca hT).cell 2
                have x3 : w9.cell? ⟨g7, 3, none⟩ = some (.slice vB vm vd) := (HG7.out.ca hT).cell 3
                have x4 : w9.cell? ⟨g7, 4, none⟩ = some (.int .i64 ((recC s0).room)) := (HG7.out.ca hT).cell 4
                have x5 : w9.cell? ⟨g7, 5, none⟩ = some (.bool ((recC s0).over)) := (HG7.out.ca hT).cell 5
                clear hT hS
                go_simp
                try rfl
              try simp only [Act.put, List.setIfInBounds_toArray, List.set_cons_zero, List.set_cons_succ]
              refine Ps.step (i := 15) (d := some 107) (u := (.bool (bS))) rfl rfl (by kernel_rfl) (by kernel_rfl) (by kernel_rfl) (by kernel_rfl) ?ywg32_48 ?rwg32_48
              case ywg32_48 =>
                refine StepS.call ?fwg32_48 ?awg32_48 [] (by kernel_rfl) (by rfl) (fun w9 => ?hwg32_48) (fun L9 m9 w9 hSh hAt hDn hS => ?cwg32_48)
                case hwg32_48 => go_simp; refine ⟨?_, ?_⟩ <;> rfl
                case cwg32_48 =>
                  have hT : Below w8.heap.size w8 w9 := SeqN.any (T := fun w9 => Below w8.heap.size w8 w9) (fun j _ _ h => by match j, h with | 0, h => exact h | _ + 1, h => exact h.1) hS
                  refine (sameR_any AllB AllB (recC s1) (recC s0) uA un uc uB um ud vA vn vc vB vm vd w9 (Lay.rd_below HD.out.1.1 hT) (Lay.rd_below HD.out.1.2 hT) (Lay.rd_below HD.out.2.1 hT) (Lay.rd_below HD.out.2.2 hT) HCAP.out.1 HCAP.out.2.1).mono ?_
                  rintro e w8 ⟨rfl, q8⟩
                  exact ⟨by rw [HBS.out], SeqN.move (w := w9) (by decide) (fun j m h => by match j, h with | 0, h => exact bl_ca h q8 | _ + 1, ⟨h, zA, zn, zc, zB, zm, zd, e, r, r2⟩ => exact ⟨bl_ca h q8, zA, zn, zc, zB, zm, zd, e, Lay.rd_below r q8, Lay.rd_below r2 q8⟩) hS⟩
              try simp only [Act.put, List.setIfInBounds_toArray, List.set_cons_zero, List.set_cons_succ]
              refine Ps.step (i := 16) (d := some 108) (u := (.agg #[.int .u32 ((recC s1).ses), .int .u64 ((recC s1).next), .slice uA un uc, .slice uB um ud, .int .i64 ((recC s1).room), .bool ((recC s1).over)])) rfl rfl (by kernel_rfl) (by kernel_rfl) (by kernel_rfl) (by kernel_rfl) ?ywg32_49 ?rwg32_49
              case ywg32_49 =>
                refine StepS.read [] (by kernel_rfl) (SeqN.pass (by decide)) (by rfl) (fun L9 m9 w9 hSh hAt hDn hS => ?_)
                have hT : Below w8.heap.size w8 w9 := SeqN.any (T := fun w9 => Below w8.heap.size w8 w9) (fun j _ _ h => by match j, h with | 0, h => exact h | _ + 1, h => exact h.1) hS
                have x0 : w9.cell? ⟨g6, 0, none⟩ = some (.int .u32 ((recC s1).ses)) := (HG6.out.ca hT).cell 0
                have x1 : w9.cell? ⟨g6, 1, none⟩ = some (.int .u64 ((recC s1).next)) := (HG6.out.ca hT).cell 1
                have x2 : w9.cell? ⟨g6, 2, none⟩ = some (.slice uA un uc) := (HG6.out.ca hT).cell 2
                have x3 : w9.cell? ⟨g6, 3, none⟩ = some (.slice uB um ud) := (HG6.out.ca hT).cell 3
                have x4 : w9.cell? ⟨g6, 4, none⟩ = some (.int .i64 ((recC s1).room)) := (HG6.out.ca hT).cell 4
                have x5 : w9.cell? ⟨g6, 5, none⟩ = some (.bool ((recC s1).over)) := (HG6.out.ca hT).cell 5
                clear hT hS
                go_simp
                try rfl
              try simp only [Act.put, List.setIfInBounds_toArray, List.set_cons_zero, List.set_cons_succ]
              refine Ps.step (i := 17) (d := some 109) (u := (.agg #[.int .u32 ((recC s0).ses), .int .u64 ((recC s0).next), .slice vA vn vc, .slice vB vm vd, .int .i64 ((recC s0).room), .bool ((recC s0).over)])) rfl rfl (by kernel_rfl) (by kernel_rfl) (by kernel_rfl) (by kernel_rfl) ?ywg32_50 ?rwg32_50
              case ywg32_50 =>
                refine StepS.read [] (by kernel_rfl) (SeqN.pass (by decide)) (by rfl) (fun L9 m9 w9 hSh hAt hDn hS => ?_)
                have hT : Below w8.heap.size w8 w9 := SeqN.any (T := fun w9 => Below w8.heap.size w8 w9) (fun j _ _ h => by match j, h with | 0, h => exact h | _ + 1, h => exact h.1) hS
                have x0 : w9.cell? ⟨g7, 0, none⟩ = some (.int .u32 ((recC s0).ses)) := (HG7.out.ca hT).cell 0
                have x1 : w9.cell? ⟨g7, 1, none⟩ = some (.int .u64 ((recC s0).next)) := (HG7.out.ca hT).cell 1
                have x2 : w9.cell? ⟨g7, 2, none⟩ = some (.slice vA vn vc) := (HG7.out.ca hT).cell 2
                have x3 : w9.cell? ⟨g7, 3, none⟩ = some (.slice vB vm vd) := (HG7.out.ca hT).cell 3
                have x4 : w9.cell? ⟨g7, 4, none⟩ = some (.int .i64 ((recC s0).room)) := (HG7.out.ca hT).cell 4
                have x5 : w9.cell? ⟨g7, 5, none⟩ = some (.bool ((recC s0).over)) := (HG7.out.ca hT).cell 5
                clear hT hS
                go_simp
                try rfl
              try simp only [Act.put, List.setIfInBounds_toArray, List.set_cons_zero, List.set_cons_succ]
              refine Ps.step (i := 18) (d := some 110) (u := (.bool (bS))) rfl rfl (by kernel_rfl) (by kernel_rfl) (by kernel_rfl) (by kernel_rfl) ?ywg32_51 ?rwg32_51
              case ywg32_51 =>
                refine StepS.call ?fwg32_51 ?awg32_51 [] (by kernel_rfl) (by rfl) (fun w9 => ?hwg32_51) (fun L9 m9 w9 hSh hAt hDn hS => ?cwg32_51)
                case hwg32_51 => go_simp; refine ⟨?_, ?_⟩ <;> rfl
                case cwg32_51 =>
                  have hT : Below w8.heap.size w8 w9 := SeqN.any (T := fun w9 => Below w8.heap.size w8 w9) (fun j _ _ h => by match j, h with | 0, h => exact h | _ + 1, h => exact h.1) hS
                  refine (rsameR_any AllB AllB (recC s1) (recC s0) uA un uc uB um ud vA vn vc vB vm vd w9 (Lay.rd_below HD.out.1.1 hT) (Lay.rd_below HD.out.1.2 hT) (Lay.rd_below HD.out.2.1 hT) (Lay.rd_below HD.out.2.2 hT) HCAP.out.1 HCAP.out.2.1).mono ?_
                  rintro e w8 ⟨rfl, q8⟩
                  exact ⟨by rw [HBS.out], SeqN.move (w := w9) (by decide) (fun j m h => by match j, h with | 0, h => exact bl_ca h q8 | _ + 1, ⟨h, zA, zn, zc, zB, zm, zd, e, r, r2⟩ => exact ⟨bl_ca h q8, zA, zn, zc, zB, zm, zd, e, Lay.rd_below r q8, Lay.rd_below r2 q8⟩) hS⟩
              try simp only [Act.put, List.setIfInBounds_toArray, List.set_cons_zero, List.set_cons_succ]
              refine Ps.step (i := 19) (d := some 111) (u := (.bool (false))) rfl rfl (by kernel_rfl) (by kernel_rfl) (by kernel_rfl) (by kernel_rfl) ?ywg32_52 ?rwg32_52
              case ywg32_52 =>
                refine StepS.pure (SeqN.pass (by decide)) (by rfl) (fun w9 => ?_)
                cases bS <;> rfl
              try simp only [Act.put, List.setIfInBounds_toArray, List.set_cons_zero, List.set_cons_succ]
              refine Ps.step (i := 20) (d := some 112) (u := (.bool (false))) rfl rfl (by kernel_rfl) (by kernel_rfl) (by kernel_rfl) (by kernel_rfl) ?ywg32_53 ?rwg32_53
              case ywg32_53 =>
                refine StepS.pure (SeqN.pass (by decide)) (by rfl) (fun w9 => ?_)
                rfl
              try simp only [Act.put, List.setIfInBounds_toArray, List.set_cons_zero, List.set_cons_succ]
              refine Ps.step (i := 21) (d := some 113) (u := (.bool (false))) rfl rfl (by kernel_rfl) (by kernel_rfl) (by kernel_rfl) (by kernel_rfl) ?ywg32_54 ?rwg32_54
              case ywg32_54 =>
                refine StepS.pure (SeqN.pass (by decide)) (by rfl) (fun w9 => ?_)
                first | rfl | (go_simp; done) | (go_simp; rfl)
              try simp only [Act.put, List.setIfInBounds_toArray, List.set_cons_zero, List.set_cons_succ]
              refine Ps.step (i := 22) (d := some 114) (u := (.agg #[.int .u32 ((recC s1).ses), .int .u64 ((recC s1).next), .slice uA un uc, .slice uB um ud, .int .i64 ((recC s1).room), .bool ((recC s1).over)])) rfl rfl (by kernel_rfl) (by kernel_rfl) (by kernel_rfl) (by kernel_rfl) ?ywg32_55 ?rwg32_55
              case ywg32_55 =>
                refine StepS.read [] (by kernel_rfl) (SeqN.pass (by decide)) (by rfl) (fun L9 m9 w9 hSh hAt hDn hS => ?_)
                have hT : Below w8.heap.size w8 w9 := SeqN.any (T := fun w9 => Below w8.heap.size w8 w9) (fun j _ _ h => by match j, h with | 0, h => exact h | _ + 1, h => exact h.1) hS
                have x0 : w9.cell? ⟨g6, 0, none⟩ = some (.int .u32 ((recC s1).ses)) := (HG6.out.ca hT).cell 0
                have x1 : w9.cell? ⟨g6, 1, none⟩ = some (.int .u64 ((recC s1).next)) := (HG6.out.ca hT).cell 1
                have x2 : w9.cell? ⟨g6, 2, none⟩ = some (.slice uA un uc) := (HG6.out.ca hT).cell 2
                have x3 : w9.cell? ⟨g6, 3, none⟩ = some (.slice uB um ud) := (HG6.out.ca hT).cell 3
                have x4 : w9.cell? ⟨g6, 4, none⟩ = some (.int .i64 ((recC s1).room)) := (HG6.out.ca hT).cell 4
                have x5 : w9.cell? ⟨g6, 5, none⟩ = some (.bool ((recC s1).over)) := (HG6.out.ca hT).cell 5
                clear hT hS
                go_simp
                try rfl
              try simp only [Act.put, List.setIfInBounds_toArray, List.set_cons_zero, List.set_cons_succ]
              refine Ps.step (i := 23) (d := some 115) (u := (.agg #[.int .u32 (s1.ses), .int .u64 (s1.next), .slice xA xn xc, .slice xB xm xd, .int .i64 (s1.room), .bool (s1.over)])) rfl rfl (by kernel_rfl) (by kernel_rfl) (by kernel_rfl) (by kernel_rfl) ?ywg32_56 ?rwg32_56
              case ywg32_56 =>
                refine StepS.read [] (by kernel_rfl) (SeqN.pass (by decide)) (by rfl) (fun L9 m9 w9 hSh hAt hDn hS => ?_)
                have hT : Below w8.heap.size w8 w9 := SeqN.any (T := fun w9 => Below w8.heap.size w8 w9) (fun j _ _ h => by match j, h with | 0, h => exact h | _ + 1, h => exact h.1) hS
                have x0 : w9.cell? ⟨g8, 0, none⟩ = some (.int .u32 (s1.ses)) := (HG8.out.ca hT).cell 0
                have x1 : w9.cell? ⟨g8, 1, none⟩ = some (.int .u64 (s1.next)) := (HG8.out.ca hT).cell 1
                have x2 : w9.cell? ⟨g8, 2, none⟩ = some (.slice xA xn xc) := (HG8.out.ca hT).cell 2
                have x3 : w9.cell? ⟨g8, 3, none⟩ = some (.slice xB xm xd) := (HG8.out.ca hT).cell 3
                have x4 : w9.cell? ⟨g8, 4, none⟩ = some (.int .i64 (s1.room)) := (HG8.out.ca hT).cell 4
                have x5 : w9.cell? ⟨g8, 5, none⟩ = some (.bool (s1.over)) := (HG8.out.ca hT).cell 5
                clear hT hS
                go_simp
                try rfl
              try simp only [Act.put, List.setIfInBounds_toArray, List.set_cons_zero, List.set_cons_succ]
              refine Ps.one (k := 24) (d := some 116) rfl rfl (by kernel_rfl) (TurnS.call (V := fun v => ∃ zA zn zc zB zm zd, v = .agg #[.int .u32 (recC s1).ses, .int .u64 (recC s1).next, .slice zA zn zc, .slice zB zm zd, .int .i64 (recC s1).room, .bool (recC s1).over]) ?fwg32_57 ?awg32_57 [] (by kernel_rfl) (by rfl) (fun w9 => ?hwg32_57) (fun L9 m9 w9 hSh hAt hDn hS => ?cwg32_57)) (fun v24 hVv24 => ?rwg32_57)
              case hwg32_57 => go_simp; refine ⟨?_, ?_⟩ <;> rfl
              case cwg32_57 =>
                have hT : Below w8.heap.size w8 w9 := SeqN.any (T := fun w9 => Below w8.heap.size w8 w9) (fun j _ _ h => by match j, h with | 0, h => exact h | _ + 1, h => exact h.1) hS
                refine (recvC_any _ _ s1 xA xn xc xB xm xd w9 (Lay.rd_below HXa.out hT) (Lay.rd_below HXb.out hT) hxm.1 hxm.2.1 hxm.2.2.1 hxm.2.2.2).mono ?_
                rintro e w8x ⟨zA, zn, zc, zB, zm, zd, rfl, hr, hr2, _, _, _, _, q8⟩
                exact ⟨_, rfl, ⟨zA, zn, zc, zB, zm, zd, rfl⟩, SeqN.set_ (m0 := m9) (m1 := m9) [] [] hSh (fun d hd => by cases hd) hDn (by kernel_rfl) (by decide) (by decide) ⟨bl_ca hT q8, zA, zn, zc, zB, zm, zd, upd_same _ _ _, Lay.rd_weak (fun _ _ _ => trivial) hr, Lay.rd_weak (fun _ _ _ => trivial) hr2⟩⟩
              try simp only [Act.put, List.setIfInBounds_toArray, List.set_cons_zero, List.set_cons_succ]
              obtain ⟨oA, on, oc, oB, om, od, rfl⟩ := hVv24
              refine Ps.step (i := 25) (d := some 117) (u := (.bool (true))) rfl rfl (by kernel_rfl) (by kernel_rfl) (by kernel_rfl) (by kernel_rfl) ?ywg32_58 ?rwg32_58
              case ywg32_58 =>
                refine StepS.call ?fwg32_58 ?awg32_58 [24] (by kernel_rfl) (by rfl) (fun w9 => ?hwg32_58) (fun L9 m9 w9 hSh hAt hDn hS => ?cwg32_58)
                case hwg32_58 => go_simp; refine ⟨?_, ?_⟩ <;> rfl
                case cwg32_58 =>
                  have hT : Below w8.heap.size w8 w9 := SeqN.any (T := fun w9 => Below w8.heap.size w8 w9) (fun j _ _ h => by match j, h with | 0, h => exact h | _ + 1, h => exact h.1) hS
                  obtain ⟨_, zA, zn, zc, zB, zm, zd, hm24, hr24, hr25⟩ := SeqN.after24 (hAt 24 (by simp)).1 hS
                  obtain ⟨rfl, rfl, rfl, rfl, rfl, rfl⟩ : oA = zA ∧ on = zn ∧ oc = zc ∧ oB = zB ∧ om = zm ∧ od = zd := by have h9 : Value.agg #[.int .u32 (recC s1).ses, .int .u64 (recC s1).next, .slice oA on oc, .slice oB om od, .int .i64 (recC s1).room, .bool (recC s1).over] = .agg #[.int .u32 (recC s1).ses, .int .u64 (recC s1).next, .slice zA zn zc, .slice zB zm zd, .int .i64 (recC s1).room, .bool (recC s1).over] := (hAt 24 (by simp)).2.symm.trans hm24; simpa [and_assoc] using h9
                  refine (sameR_any AllB AllB (recC s1) (recC s1) uA un uc uB um ud oA on oc oB om od w9 (Lay.rd_below HD.out.1.1 hT) (Lay.rd_below HD.out.1.2 hT) hr24 hr25 HCAP.out.1 HCAP.out.2.1).mono ?_
                  rintro e w8 ⟨rfl, q8⟩
                  exact ⟨by rw [eqRC_refl _], SeqN.move (w := w9) (by decide) (fun j m h => by match j, h with | 0, h => exact bl_ca h q8 | _ + 1, ⟨h, zA, zn, zc, zB, zm, zd, e, r, r2⟩ => exact ⟨bl_ca h q8, zA, zn, zc, zB, zm, zd, e, Lay.rd_below r q8, Lay.rd_below r2 q8⟩) hS⟩
              try simp only [Act.put, List.setIfInBounds_toArray, List.set_cons_zero, List.set_cons_succ]
              refine Ps.step (i := 26) (d := some 118) (u := (.bool (!true))) rfl rfl (by kernel_rfl) (by kernel_rfl) (by kernel_rfl) (by kernel_rfl) ?ywg32_59 ?rwg32_59
              case ywg32_59 =>
                refine StepS.pure (SeqN.pass (by decide)) (by rfl) (fun w9 => ?_)
                first | rfl | (go_simp; done) | (go_simp; rfl)
              try simp only [Act.put, List.setIfInBounds_toArray, List.set_cons_zero, List.set_cons_succ]
              refine Ps.step (i := 27) (d := some 119) (u := (.bool (false))) rfl rfl (by kernel_rfl) (by kernel_rfl) (by kernel_rfl) (by kernel_rfl) ?ywg32_60 ?rwg32_60
              case ywg32_60 =>
                refine StepS.pure (SeqN.pass (by decide)) (by rfl) (fun w9 => ?_)
                rfl
              try simp only [Act.put, List.setIfInBounds_toArray, List.set_cons_zero, List.set_cons_succ]
              refine Ps.done (by kernel_rfl) (fun wg32 hS => ?_) _
              try generalize (cond bR (.bool (!decide (E = 320))) (undef) : Value) = zz61
              try generalize (cond bR (.int .i64 (E)) (undef) : Value) = zz62
              have HT10 := Lib.hid (show Below w8.heap.size w8 wg32 from SeqN.any (T := fun w9 => Below w8.heap.size w8 w9) (fun j _ _ h => by match j, h with | 0, h => exact h | _ + 1, h => exact h.1) hS)
              clear hS
              have HQ9 := Lib.hid (bl_ca HB6.out (bl_ca HQ8.out HT10.out))
              clear HT10
              obtain ⟨wn, rfl⟩ : ∃ x, x = wg32 := ⟨_, rfl⟩
              go_wp2
              go_roundg (gk - 1)
              · exact ⟨i + 1, by omega, by omega, by go_num, HQ9.out⟩
              · omega
        · obtain rfl : i = rn := by omega
          have hi1 : (i : Int) ≤ (i : Int) := by omega
          clear hbw hig hlt
          go_wp2_with fail
          go_meet
          exact ⟨rfl, HBW.out⟩
    case rest =>
      obtain ⟨rfl, hbc⟩ := hcut
      clear HB2
      have HB2 := Lib.hid hbc
      clear hbc
      go_wp2_with fail
      go_loopg [123] pn (fun g a wr => ∃ i : Nat, i + g = pn ∧ i ≤ 10 ∧ a = .int .i64 i ∧ Below w.heap.size w wr)
      case atStart => exact ⟨0, by omega, by omega, rfl, HB2.out⟩
      case round =>
        obtain ⟨i, hig, hi6, rfl, hbw⟩ := hrel
        have HBW := Lib.hid hbw
        clear HB2
        by_cases hlt : i < pn
        · have hi1 : (i : Int) < (pn : Int) := by omega
          obtain ⟨ad, s1, xA, xn, xc, rfl, hx, hb, P1⟩ := LP7_at (Lay.rd_below HLP.out hbw) hlt
          have e0 := P1.c0
          have e1 := P1.c1
          have e2 := P1.c2
          have e3 := P1.c3
          have e4 := P1.c4
          have e5 := P1.c5
          have e6 := P1.c6
          by_cases hie : i = 10
          · have hi2 : ((i : Int) == 10) = true := by simp; omega
            clear hbw hx hb hie P1
            have HBE := Lib.hid (bl_al HBW.out (.cells #[.int .i64 s1.kind, .int .u32 s1.ses, .int .u64 s1.seq, .int .u64 s1.lim, .slice xA xn xc, .bool s1.b.fin, .int .u64 s1.b.cnt] 47))
            go_wp2
            go_ret
            exact ⟨rfl, HBE.out⟩
          · have hi2 : ((i : Int) == 10) = false := by simp; omega
            have hi7 : i < 10 := by omega
            have q5 := bl_al (Below.refl wr.heap.size wr) (.cells #[.int .i64 s1.kind, .int .u32 s1.ses, .int .u64 s1.seq, .int .u64 s1.lim, .slice xA xn xc, .bool s1.b.fin, .int .u64 s1.b.cnt] 47)
            have HX8 := Lib.hid (Blk.new wr 47 #[.int .i64 s1.kind, .int .u32 s1.ses, .int .u64 s1.seq, .int .u64 s1.lim, .slice xA xn xc, .bool s1.b.fin, .int .u64 s1.b.cnt])
            have y0 := HX8.out.cell 0
            have y1 := HX8.out.cell 1
            have y2 := HX8.out.cell 2
            have y3 := HX8.out.cell 3
            have y4 := HX8.out.cell 4
            have y5 := HX8.out.cell 5
            have y6 := HX8.out.cell 6
            have HC := Lib.hid (packetC_any _ s1 xA xn xc (wr.alloc (.cells #[.int .i64 s1.kind, .int .u32 s1.ses, .int .u64 s1.seq, .int .u64 s1.lim, .slice xA xn xc, .bool s1.b.fin, .int .u64 s1.b.cnt] 47)) (Lay.rd_below P1.rd q5) P1.nc P1.cm)
            have HB5 := Lib.hid (bl_ca hbw q5)
            clear hbw hx hb hie P1 q5
            go_upto_region 27 with fail
            clear e0 e1 e2 e3 e4 e5 e6
            go_wp2_with fail
            clear y0 y1 y2 y3 y4 y5 y6
            generalize wr.alloc (.cells #[.int .i64 s1.kind, .int .u32 s1.ses, .int .u64 s1.seq, .int .u64 s1.lim, .slice xA xn xc, .bool s1.b.fin, .int .u64 s1.b.cnt] 47) = w5 at *
            refine HC.out.mono ?_
            rintro e w6 ⟨uA, un, uc, rfl, hr, hk, hk2, q6⟩
            clear HC
            have HR7 := Lib.hid (Lay.rd_below hr (bl_al (Below.refl w6.heap.size w6) (.cells #[.int .i64 (pakC s1).kind, .int .u32 (pakC s1).ses, .int .u64 (pakC s1).seq, .int .u64 (pakC s1).lim, .slice uA un uc, .bool (pakC s1).b.fin, .int .u64 (pakC s1).b.cnt] 47)))
            have HB7 := Lib.hid (bl_al (bl_ca HB5.out q6) (.cells #[.int .i64 (pakC s1).kind, .int .u32 (pakC s1).ses, .int .u64 (pakC s1).seq, .int .u64 (pakC s1).lim, .slice uA un uc, .bool (pakC s1).b.fin, .int .u64 (pakC s1).b.cnt] 47))
            have HU := Lib.hid (Blk.new w6 47 #[.int .i64 (pakC s1).kind, .int .u32 (pakC s1).ses, .int .u64 (pakC s1).seq, .int .u64 (pakC s1).lim, .slice uA un uc, .bool (pakC s1).b.fin, .int .u64 (pakC s1).b.cnt])
            have hun := Nat.le_trans hk hk2
            clear hr q6 hk hk2
            obtain ⟨R, hR⟩ : ∃ R, R = checkP (pakC s1) := ⟨_, rfl⟩
            have HRE := Lib.hid hR
            clear hR
            have y0 := HU.out.cell 0
            have y1 := HU.out.cell 1
            have y2 := HU.out.cell 2
            have y3 := HU.out.cell 3
            have y4 := HU.out.cell 4
            have y5 := HU.out.cell 5
            have y6 := HU.out.cell 6
            go_upto_region 28 with fail
            go_wp2_with fail
            clear y0 y1 y2 y3 y4 y5 y6
            generalize w6.alloc (.cells #[.int .i64 (pakC s1).kind, .int .u32 (pakC s1).ses, .int .u64 (pakC s1).seq, .int .u64 (pakC s1).lim, .slice uA un uc, .bool (pakC s1).b.fin, .int .u64 (pakC s1).b.cnt] 47) = w7 at *
            refine (checkp_any _ (pakC s1) uA un uc w7 HR7.out hun).mono ?_
            rw [← HRE.out]
            rintro e w8 ⟨rfl, q8⟩
            obtain ⟨E, hE⟩ : ∃ E : Int, E = (if R = true then 0 else 321) := ⟨_, rfl⟩
            rw [← hE]
            have HEE := Lib.hid hE
            have HR8 := Lib.hid (Lay.rd_below HR7.out q8)
            have HB8 := Lib.hid (bl_ca HB7.out q8)
            have HU8 := Lib.hid (HU.out.ca q8)
            clear hE q8 HR7 HB7 HU
            go_upto_region 29 with fail
            refine wp_region_ps0 .text (S := fun _ _ w' => Below w8.heap.size w8 w') (by kernel_rfl) ?spswg63 ?ppswg63
            case spswg63 =>
              exact (Below.refl w8.heap.size w8)
            refine Ps.step (i := 0) (d := some 134) (u := (.int .i64 (E))) rfl rfl (by kernel_rfl) (by kernel_rfl) (by kernel_rfl) (by kernel_rfl) ?ywg63_64 ?rwg63_64
            case ywg63_64 =>
              refine StepS.pure (fun _ _ _ h => h) (by rfl) (fun w9 => ?_)
              first | rfl | (go_simp; done) | (go_simp; rfl)
            try simp only [Act.put, List.setIfInBounds_toArray, List.set_cons_zero, List.set_cons_succ]
            refine Ps.step (i := 1) (d := some 135) (u := (.bool (decide (E = 0)))) rfl rfl (by kernel_rfl) (by kernel_rfl) (by kernel_rfl) (by kernel_rfl) ?ywg63_65 ?rwg63_65
            case ywg63_65 =>
              refine StepS.pure (fun _ _ _ h => h) (by rfl) (fun w9 => ?_)
              first | rfl | (go_simp; done) | (go_simp; rfl)
            try simp only [Act.put, List.setIfInBounds_toArray, List.set_cons_zero, List.set_cons_succ]
            refine Ps.step (i := 2) (d := some 136) (u := (.agg #[.int .i64 ((pakC s1).kind), .int .u32 ((pakC s1).ses), .int .u64 ((pakC s1).seq), .int .u64 ((pakC s1).lim), .slice uA un uc, .bool ((pakC s1).b.fin), .int .u64 ((pakC s1).b.cnt)])) rfl rfl (by kernel_rfl) (by kernel_rfl) (by kernel_rfl) (by kernel_rfl) ?ywg63_66 ?rwg63_66
            case ywg63_66 =>
              refine StepS.read [] (by kernel_rfl) (fun _ _ _ h => h) (by rfl) (fun L9 m9 w9 hSh hAt hDn hS => ?_)
              have hT : Below _ _ w9 := hS
              have x0 : w9.cell? ⟨w6.heap.size, 0, none⟩ = some (.int .i64 ((pakC s1).kind)) := (HU8.out.ca hT).cell 0
              have x1 : w9.cell? ⟨w6.heap.size, 1, none⟩ = some (.int .u32 ((pakC s1).ses)) := (HU8.out.ca hT).cell 1
              have x2 : w9.cell? ⟨w6.heap.size, 2, none⟩ = some (.int .u64 ((pakC s1).seq)) := (HU8.out.ca hT).cell 2
              have x3 : w9.cell? ⟨w6.heap.size, 3, none⟩ = some (.int .u64 ((pakC s1).lim)) := (HU8.out.ca hT).cell 3
              have x4 : w9.cell? ⟨w6.heap.size, 4, none⟩ = some (.slice uA un uc) := (HU8.out.ca hT).cell 4
              have x5 : w9.cell? ⟨w6.heap.size, 5, none⟩ = some (.bool ((pakC s1).b.fin)) := (HU8.out.ca hT).cell 5
              have x6 : w9.cell? ⟨w6.heap.size, 6, none⟩ = some (.int .u64 ((pakC s1).b.cnt)) := (HU8.out.ca hT).cell 6
              clear hT hS
              go_simp
              try rfl
            try simp only [Act.put, List.setIfInBounds_toArray, List.set_cons_zero, List.set_cons_succ]
            refine Ps.step (i := 3) (d := some 137) (u := (.bool (R))) rfl rfl (by kernel_rfl) (by kernel_rfl) (by kernel_rfl) (by kernel_rfl) ?ywg63_67 ?rwg63_67
            case ywg63_67 =>
              refine StepS.call ?fwg63_67 ?awg63_67 [] (by kernel_rfl) (by rfl) (fun w9 => ?hwg63_67) (fun L9 m9 w9 hSh hAt hDn hS => ?cwg63_67)
              case hwg63_67 => go_simp; refine ⟨?_, ?_⟩ <;> rfl
              case cwg63_67 =>
                have hT : Below _ _ w9 := hS
                refine (rpacket_any _ (pakC s1) uA un uc w9 (Lay.rd_below HR8.out hT) hun).mono ?_
                rintro e w8 ⟨rfl, q8⟩
                exact ⟨by rw [HRE.out], bl_ca hT q8⟩
            try simp only [Act.put, List.setIfInBounds_toArray, List.set_cons_zero, List.set_cons_succ]
            refine Ps.step (i := 4) (d := some 138) (u := (.bool (false))) rfl rfl (by kernel_rfl) (by kernel_rfl) (by kernel_rfl) (by kernel_rfl) ?ywg63_68 ?rwg63_68
            case ywg63_68 =>
              refine StepS.pure (fun _ _ _ h => h) (by rfl) (fun w9 => ?_)
              cases R
              · obtain rfl : E = 321 := by rw [HEE.out]; rfl
                rfl
              · obtain rfl : E = 0 := by rw [HEE.out]; rfl
                rfl
            try simp only [Act.put, List.setIfInBounds_toArray, List.set_cons_zero, List.set_cons_succ]
            refine Ps.step (i := 5) (d := some 139) (u := (.bool (false))) rfl rfl (by kernel_rfl) (by kernel_rfl) (by kernel_rfl) (by kernel_rfl) ?ywg63_69 ?rwg63_69
            case ywg63_69 =>
              refine StepS.pure (fun _ _ _ h => h) (by rfl) (fun w9 => ?_)
              first | rfl | (go_simp; done) | (go_simp; rfl)
            try simp only [Act.put, List.setIfInBounds_toArray, List.set_cons_zero, List.set_cons_succ]
            refine Ps.step (i := 6) (d := some 140) (u := (.int .i64 (E))) rfl rfl (by kernel_rfl) (by kernel_rfl) (by kernel_rfl) (by kernel_rfl) ?ywg63_70 ?rwg63_70
            case ywg63_70 =>
              refine StepS.pure (fun _ _ _ h => h) (by rfl) (fun w9 => ?_)
              first | rfl | (go_simp; done) | (go_simp; rfl)
            try simp only [Act.put, List.setIfInBounds_toArray, List.set_cons_zero, List.set_cons_succ]
            refine Ps.step (i := 7) (d := some 141) (u := (.bool (!decide (E = 0)))) rfl rfl (by kernel_rfl) (by kernel_rfl) (by kernel_rfl) (by kernel_rfl) ?ywg63_71 ?rwg63_71
            case ywg63_71 =>
              refine StepS.pure (fun _ _ _ h => h) (by rfl) (fun w9 => ?_)
              first | rfl | (go_simp; done) | (go_simp; rfl)
            try simp only [Act.put, List.setIfInBounds_toArray, List.set_cons_zero, List.set_cons_succ]
            obtain ⟨bR, hb9⟩ : ∃ b : Bool, b = (!decide (E = 0)) := ⟨_, rfl⟩
            have HEbR := Lib.hid hb9
            clear hb9
            refine Ps.step (i := 8) (d := some 142) (u := (.bool (bR))) rfl rfl (by kernel_rfl) (by kernel_rfl) (by kernel_rfl) (by kernel_rfl) ?ywg63_72 ?rwg63_72
            case ywg63_72 =>
              refine StepS.pure (fun _ _ _ h => h) (by rfl) (fun w9 => ?_)
              have e9 : (!decide (E = 0)) = bR := by rw [HEbR.out]
              rw [← e9]
              clear e9
              first | rfl | (go_simp; done) | (go_simp; rfl)
            try simp only [Act.put, List.setIfInBounds_toArray, List.set_cons_zero, List.set_cons_succ]
            refine Ps.step (i := 9) (d := some 143) (u := (cond bR (.int .i64 (E)) (undef))) rfl rfl (by kernel_rfl) (by kernel_rfl) (by kernel_rfl) (by kernel_rfl) ?ywg63_73 ?rwg63_73
            case ywg63_73 =>
              cases bR
              · exact StepS.skip (fun _ _ _ h => h) (by rfl)
              · skip
                refine StepS.pure (fun _ _ _ h => h) (by rfl) (fun w9 => ?_)
                first | rfl | (go_simp; done) | (go_simp; rfl)
            try simp only [Act.put, List.setIfInBounds_toArray, List.set_cons_zero, List.set_cons_succ]
            refine Ps.step (i := 10) (d := some 144) (u := (cond bR (.bool (!decide (E = 321))) (undef))) rfl rfl (by kernel_rfl) (by kernel_rfl) (by kernel_rfl) (by kernel_rfl) ?ywg63_74 ?rwg63_74
            case ywg63_74 =>
              cases bR
              · exact StepS.skip (fun _ _ _ h => h) (by rfl)
              · skip
                refine StepS.pure (fun _ _ _ h => h) (by rfl) (fun w9 => ?_)
                first | rfl | (go_simp; done) | (go_simp; rfl)
            try simp only [Act.put, List.setIfInBounds_toArray, List.set_cons_zero, List.set_cons_succ]
            refine Ps.step (i := 11) (d := some 145) (u := (.bool (false))) rfl rfl (by kernel_rfl) (by kernel_rfl) (by kernel_rfl) (by kernel_rfl) ?ywg63_75 ?rwg63_75
            case ywg63_75 =>
              refine StepS.pure (fun _ _ _ h => h) (by rfl) (fun w9 => ?_)
              cases bR
              · rfl
              · obtain rfl : E = 321 := by have h := HEbR.out; have h2 := HEE.out; cases R; exact h2; (have h3 : E = 0 := h2; rw [h3] at h; simp at h)
                rfl
            try simp only [Act.put, List.setIfInBounds_toArray, List.set_cons_zero, List.set_cons_succ]
            refine Ps.step (i := 12) (d := some 146) (u := (.bool (false))) rfl rfl (by kernel_rfl) (by kernel_rfl) (by kernel_rfl) (by kernel_rfl) ?ywg63_76 ?rwg63_76
            case ywg63_76 =>
              refine StepS.pure (fun _ _ _ h => h) (by rfl) (fun w9 => ?_)
              rfl
            try simp only [Act.put, List.setIfInBounds_toArray, List.set_cons_zero, List.set_cons_succ]
            refine Ps.done (by kernel_rfl) (fun wg63 hS => ?_) _
            try generalize (cond bR (.bool (!decide (E = 321))) (undef) : Value) = zz77
            try generalize (cond bR (.int .i64 (E)) (undef) : Value) = zz78
            have HW79 := Lib.hid (show Below w8.heap.size w8 wg63 from hS)
            clear hS
            obtain ⟨w180, rfl⟩ : ∃ x, x = wg63 := ⟨_, rfl⟩
            have HQ9 := Lib.hid (bl_ca HB8.out HW79.out)
            go_wp2
            go_roundg (gk - 1)
            · exact ⟨i + 1, by omega, by omega, by go_num, HQ9.out⟩
            · omega
        · obtain rfl : i = pn := by omega
          have hi1 : (i : Int) ≤ (i : Int) := by omega
          clear hbw hig hlt
          go_wp2
          go_ret
          exact ⟨rfl, HBW.out⟩
end Go.Proofs.Ytojghgbaiiajfaa
