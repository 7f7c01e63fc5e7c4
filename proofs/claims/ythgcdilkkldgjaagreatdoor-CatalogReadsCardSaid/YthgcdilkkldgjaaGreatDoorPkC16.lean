/- The reference's read. Conditions: what the tables hold; the words are short. -/
import Derived.Test.YthgcdilkkldgjaaGreatDoorPkC15
namespace Go.Proofs.YthgcdilkkldgjaaGreatDoor
open Go.RowKit
theorem wrap_in {z : Int} (h1 : 0 ≤ z) (h2 : z < 9223372036854775808) : IntKind.i64.wrap z = z := by
  simp [IntKind.wrap, IntKind.bits, IntKind.signed]
  omega
def RfO (l : List ByteArray) (k : Nat) (w : World) (e : Ending) (w' : World) : Prop :=
  ∃ (t : TC) (A : Option Addr) (n c : Nat) (K : Option Addr) (m d : Nat) (b : Bool), e = .returned (.tuple #[.agg (t.cells A n c K m d), .bool b]) ∧ (b = true → RdP l k ∧ t = rT l k ∧ LCO.rd w' (fun b => w.heap.size ≤ b) A n t.cols ∧ LK.rd w' (fun b => w.heap.size ≤ b) K m t.keys ∧ n ≤ c ∧ c ≤ 9223372036854775807 ∧ m ≤ d ∧ d ≤ 9223372036854775807) ∧ (b = false → ¬ RdP l k) ∧ Below w.heap.size w w'
theorem RfO.no {l : List ByteArray} {k : Nat} {w w' : World} (hn : ¬ RdP l k) (q : Below w.heap.size w w') : RfO l k w (.returned (.tuple #[.agg #[.string ⟨#[]⟩, .slice none 0 0, .slice none 0 0], .bool false])) w' :=
  ⟨⟨⟨#[]⟩, [], []⟩, none, 0, 0, none, 0, 0, false, rfl, (fun h => by cases h), fun _ => hn, q⟩
theorem LS_at' {w : World} {F : Nat → Prop} {A : Option Addr} {n i : Nat} {xs : List ByteArray} (h : LS.rd w F A n xs) (hi : i < n) : ∃ ad x, A = some ad ∧ xs[i]? = some x ∧ w.cell? (ad.add i) = some (.string x) := LS_at h hi
theorem rC_len {l : List ByteArray} (h : ∀ x ∈ l, x.size ≤ 1000) (n : Nat) : ∀ (k : Nat) (c : CO), (rCols l n)[k]? = some c → c.name.size ≤ 9223372036854775807 := fun k c hc => by
  rcases Nat.lt_or_ge k n with h9 | h9
  · rw [rCols_at h9] at hc
    injection hc with hc
    subst hc
    show ((l[2 + 2 * k]?).getD ⟨#[]⟩).size ≤ _
    cases hx : l[2 + 2 * k]? with
    | none => exact Nat.zero_le _
    | some x => have := h x (List.mem_of_getElem? hx); show x.size ≤ _; omega
  · rw [List.getElem?_eq_none (by rw [rCols_len]; exact h9)] at hc; cases hc
theorem RfO.end_ {l : List ByteArray} {i : Nat} {w wr wz w' : World} {ad K A : Option Addr} {nw n c m d : Nat} {nm : ByteArray} {ks : List Int} {b : Bool} (hS : RfS w wr ad nw l nm A n c K m d (rCols l i) ks) (q : Below wr.heap.size wr wz) (hg : wz.grownBy w' (some w.heap.size))
    (h0 : l[0]? = some sTable) (h1 : l[1]? = some nm) (hlen : 2 + 2 * i ≤ l.length) (hby : l.length = 2 + 2 * i ∨ (2 + 2 * i + 2 ≤ l.length ∧ l[2 + 2 * i]? = some sBy)) (hks : ks = rKeys l i) (hb : b = tabB (⟨nm, rCols l i, ks⟩ : TC)) :
    RfO l i w (.returned (.tuple #[.agg #[.string nm, .slice A n c, .slice K m d], .bool b])) w' := by
  obtain ⟨r1, r2, r3, r4, r5, r6, r7⟩ := (hS.below q).stored hg
  have hT : (⟨nm, rCols l i, ks⟩ : TC) = rT l i := by unfold rT; rw [h1, hks]; rfl
  refine ⟨⟨nm, rCols l i, ks⟩, A, n, c, K, m, d, b, rfl, fun h9 => ⟨⟨hlen, h0, hby, ?_⟩, hT, r1, r2, r3, r4, r5, r6⟩, fun h9 hp => ?_, r7⟩
  · rw [← hT]; exact (tabB_iff _).1 (hb.symm.trans h9)
  · rw [h9, hT, (tabB_iff _).2 hp.tab] at hb; cases hb
set_option maxRecDepth 100000 in
set_option maxHeartbeats 16000000 in
theorem rread_any (F : Nat → Prop) (l : List ByteArray) (A0 : Option Addr) (nw cw : Nat) (k : Nat) (w : World) (h : LS.rd w F A0 nw l) (hnw : nw ≤ 1001) (hcw : nw ≤ cw) (hcw2 : cw ≤ 9223372036854775807) (hk : 1 ≤ k ∧ k ≤ 4) (hsz : ∀ x ∈ l, x.size ≤ 1000) :
    Calls Tryz.prog 48 #[.slice A0 nw cw, .int .i64 k] w (RfO l k w) := by
  have HL := Lib.hid (Lay.rd_len h)
  have HW := Lib.hid (Lay.rd_weak (G := fun b => b < w.heap.size) (fun b _ hb => hb) h)
  have q1 := bl_al (Below.refl w.heap.size w) (.cells #[.string ⟨#[]⟩, .slice none 0 0, .slice none 0 0] 41)
  have HR1 := Lib.hid (Blk.new w 41 #[.string ⟨#[]⟩, .slice none 0 0, .slice none 0 0])
  have HQ1 := Lib.hid q1
  have HW1 := Lib.hid (Lay.rd_below HW.out q1)
  have hs1 : (w.alloc (.cells #[.string ⟨#[]⟩, .slice none 0 0, .slice none 0 0] 41)).heap.size = w.heap.size + 1 := World.size_alloc _ _
  obtain ⟨hk1, hk4⟩ := hk
  have HSZ := Lib.hid hsz
  clear q1 h hsz
  go_enter Tryz.func48, Tryz.ntmps48
  have hZ := HR1.out
  by_cases h1 : (nw : Int) < 2 + 2 * (k : Int)
  · go_wp2
    exact bodyPost_ret (res2 Tryz.results48 rfl rfl hZ Tryz.underlying41 rfl tableI) rfl (RfO.no (fun hp => by have := hp.len; have := HL.out; omega) HQ1.out)
  obtain ⟨p, x0, rfl, hx0, e0⟩ := LS_at' HW1.out (show 0 < nw by omega)
  rw [addr_add0] at e0
  by_cases hx : x0 = sTable
  case neg =>
    have e1 : (x0.toList == [116, 97, 98, 108, 101]) = false := by rw [show [116, 97, 98, 108, 101] = sTable.toList from by decide +kernel]; exact eqf hx
    have HN := Lib.hid (show ¬ RdP l k from fun hp => hx (by have h9 := hp.hd; rw [hx0] at h9; injection h9))
    clear hx hx0
    go_wp2
    exact bodyPost_ret (res2 Tryz.results48 rfl rfl hZ Tryz.underlying41 rfl tableI) rfl (RfO.no HN.out HQ1.out)
  have e1 : (x0.toList == [116, 97, 98, 108, 101]) = true := by rw [show [116, 97, 98, 108, 101] = sTable.toList from by decide +kernel]; exact eqt hx
  have HX0 := Lib.hid (show l[0]? = some sTable from by rw [hx0, hx])
  clear hx hx0
  obtain ⟨p', nm, hp', hnm, e2⟩ := LS_at' HW1.out (show 1 < nw by omega)
  obtain rfl : p = p' := by injection hp'
  have HNM := Lib.hid hnm
  have e2 : (w.alloc (.cells #[.string ⟨#[]⟩, .slice none 0 0, .slice none 0 0] 41)).cell? ⟨p.block, p.off + 1, none⟩ = some (.string nm) := e2
  clear hnm hp'
  have q2 := bl_al (Below.refl (w.alloc (.cells #[.string ⟨#[]⟩, .slice none 0 0, .slice none 0 0] 41)).heap.size (w.alloc (.cells #[.string ⟨#[]⟩, .slice none 0 0, .slice none 0 0] 41))) (.cells #[.string nm, .slice none 0 0, .slice none 0 0] 41)
  have HT2 := Lib.hid (Blk.new (w.alloc (.cells #[.string ⟨#[]⟩, .slice none 0 0, .slice none 0 0] 41)) 41 #[.string nm, .slice none 0 0, .slice none 0 0])
  rw [hs1] at HT2
  have HS2 := Lib.hid (show RfS w ((w.alloc (.cells #[.string ⟨#[]⟩, .slice none 0 0, .slice none 0 0] 41)).alloc (.cells #[.string nm, .slice none 0 0, .slice none 0 0] 41)) (some p) nw l nm none 0 0 none 0 0 [] [] from
    ⟨Lay.rd_below HW1.out q2, HT2.out, Lay.own_nil _ _, Lay.own_nil _ _, fun k e => by simp [Value.ownBlock] at e, HR1.out.ca q2, bl_ca HQ1.out q2, by rw [World.size_alloc, hs1]; omega⟩)
  clear q2 HT2 HW1
  go_wp2_with fail
  clear e0 e1 e2 hZ
  generalize (w.alloc (.cells #[.string ⟨#[]⟩, .slice none 0 0, .slice none 0 0] 41)).alloc (.cells #[.string nm, .slice none 0 0, .slice none 0 0] 41) = w2 at *
  clear HR1 HQ1 hs1
  go_loopg [7] k (fun g v wr => ∃ (i : Nat) (A : Option Addr) (c : Nat), i + g = k ∧ v = .int .i64 i ∧ Hid (RfS w wr (some p) nw l nm A i c none 0 0 (rCols l i) []))
  case atStart => exact ⟨0, none, 0, by omega, rfl, HS2⟩
  case round =>
    obtain ⟨i, A, c, hig, rfl, HS⟩ := hrel
    have hgr := HS.out.sz
    by_cases hlt : i < k
    · have hi1 : (i : Int) < (k : Int) := by omega
      obtain ⟨a, ha⟩ : ∃ a, a = 2 + 2 * i := ⟨_, rfl⟩
      obtain ⟨b, hb⟩ : ∃ b, b = 3 + 2 * i := ⟨_, rfl⟩
      obtain ⟨p', x, hp', hx, cx⟩ := LS_at' HS.out.ws (show a < nw by omega)
      obtain rfl : p = p' := by injection hp'
      obtain ⟨p', y, hp', hy, cy⟩ := LS_at' HS.out.ws (show b < nw by omega)
      obtain rfl : p = p' := by injection hp'
      obtain ⟨kd, hkd⟩ : ∃ kd, kd = kindOf y := ⟨_, rfl⟩
      have HKD := Lib.hid hkd
      have HC := Lib.hid (show rCols l (i + 1) = rCols l i ++ [⟨x, kd⟩] from by
        rw [rCols_snoc]
        unfold rC
        rw [← ha, ← hb, hx, hy, hkd]; rfl)
      have hA : 2 + 2 * (i : Int) = (a : Int) := by omega
      have hB : 3 + 2 * (i : Int) = (b : Int) := by omega
      have han : (a : Int) < (nw : Int) := by omega
      have hbn : (b : Int) < (nw : Int) := by omega
      clear hp' hx hy hkd ha hb HS2
      go_upto_region 7 with fail
      refine wp_region_ps (S := SeqN [16, 17, 19] (fun z mm w' => match z with | 0 => Below wr.heap.size wr w' | 1 => Below wr.heap.size wr w' ∧ ∃ gb, mm 16 = .slice (some ⟨gb, 0, none⟩) 1 1 ∧ Blk w' gb 71 #[.string x, .int .i64 kd] ∧ wr.heap.size ≤ gb | 2 => ∃ wq A6 c6, mm 17 = .slice A6 (i + 1) c6 ∧ RfS w wq (some p) nw l nm A i c none 0 0 (rCols l i) [] ∧ LCO.own 71 w' (w.heap.size + 2) (fun _ => True) A6 (i + 1) c6 (rCols l i ++ [⟨x, kd⟩]) ∧ wq.grownBy w' (Value.slice A i c).ownBlock ∧ ((Value.slice A6 (i + 1) c6).ownBlock = (Value.slice A i c).ownBlock ∨ (Value.slice A6 (i + 1) c6).ownBlock = some wq.heap.size) | _ => ∃ A6 c6, mm 17 = .slice A6 (i + 1) c6 ∧ RfS w w' (some p) nw l nm A6 (i + 1) c6 none 0 0 (rCols l i ++ [⟨x, kd⟩]) [])) (by kernel_rfl) ?spswg1 ?ppswg1
      case spswg1 =>
        exact SeqN.start (by decide) (Below.refl _ _).drew
      refine Ps.st (i := 0) (d := some 32) (u := (.pointer (some ⟨w.heap.size + 1, 1, none⟩))) rfl rfl (by exact StepS.pure (SeqN.pass (by decide)) rfl fun _ => rfl) ?_
      try simp only [Act.put, sA, sZ, sS]
      refine Ps.st (i := 1) (d := some 33) (u := (.slice A i c)) rfl rfl ?ywg1_3 ?rwg1_3
      case ywg1_3 =>
        refine StepS.read [] (by kernel_rfl) (SeqN.pass (by decide)) (by rfl) (fun L9 m9 w9 hSh hAt hDn hS => ?_)
        have hT : Below wr.heap.size wr w9 := SeqN.z01 hSh (reach_no hSh (f := 20) (j := 17) (by kernel_rfl) hDn) (by kernel_rfl) (fun _ _ h => h) (fun _ _ h => h.1) hS
        have x0 : w9.cell? ⟨w.heap.size + 1, 1, none⟩ = some (.slice A i c) := (HS.out.below hT).t.cell 1
        clear hT hS
        go_simp
        try rfl
      try simp only [Act.put, sA, sZ, sS]
      refine Ps.st (i := 2) (d := some 34) (u := (.slice (some p) nw cw)) rfl rfl (by exact StepS.pure (SeqN.pass (by decide)) rfl fun _ => rfl) ?_
      try simp only [Act.put, sA, sZ, sS]
      refine Ps.st (i := 3) (d := some 35) (u := (.int .i64 ((i : Int)))) rfl rfl (by exact StepS.pure (SeqN.pass (by decide)) rfl fun _ => rfl) ?_
      try simp only [Act.put, sA, sZ, sS]
      refine Ps.st (i := 4) (d := some 36) (u := (.int .i64 (2 * (i : Int)))) rfl rfl ?ywg1_6 ?rwg1_6
      case ywg1_6 =>
        refine StepS.pure (SeqN.pass (by decide)) (by rfl) (fun w9 => ?_)
        first | (go_simp; exact wrap_in (by omega) (by omega)) | (go_simp; done) | (go_simp; rfl) | rfl
      try simp only [Act.put, sA, sZ, sS]
      refine Ps.st (i := 5) (d := some 37) (u := (.int .i64 ((a : Int)))) rfl rfl ?ywg1_7 ?rwg1_7
      case ywg1_7 =>
        refine StepS.pure (SeqN.pass (by decide)) (by rfl) (fun w9 => ?_)
        first | (go_simp; exact wrap_in (by omega) (by omega)) | (go_simp; done) | (go_simp; rfl) | rfl
      try simp only [Act.put, sA, sZ, sS]
      refine Ps.st (i := 6) (d := some 38) (u := (.pointer (some (p.add a)))) rfl rfl (by exact StepS.pure (SeqN.pass (by decide)) rfl fun _ => by first | rfl | (go_simp; done) | (go_simp; rfl)) ?_
      try simp only [Act.put, sA, sZ, sS]
      refine Ps.st (i := 7) (d := some 39) (u := (.string x)) rfl rfl ?ywg1_9 ?rwg1_9
      case ywg1_9 =>
        refine StepS.read [] (by kernel_rfl) (SeqN.pass (by decide)) (by rfl) (fun L9 m9 w9 hSh hAt hDn hS => ?_)
        have hT : Below wr.heap.size wr w9 := SeqN.z01 hSh (reach_no hSh (f := 20) (j := 17) (by kernel_rfl) hDn) (by kernel_rfl) (fun _ _ h => h) (fun _ _ h => h.1) hS
        have x0 : w9.cell? (p.add a) = some (.string x) := ce cx hT
        clear hT hS
        go_simp
        try rfl
      try simp only [Act.put, sA, sZ, sS]
      refine Ps.st (i := 8) (d := some 40) (u := (.slice (some p) nw cw)) rfl rfl (by exact StepS.pure (SeqN.pass (by decide)) rfl fun _ => rfl) ?_
      try simp only [Act.put, sA, sZ, sS]
      refine Ps.st (i := 9) (d := some 41) (u := (.int .i64 ((i : Int)))) rfl rfl (by exact StepS.pure (SeqN.pass (by decide)) rfl fun _ => rfl) ?_
      try simp only [Act.put, sA, sZ, sS]
      refine Ps.st (i := 10) (d := some 42) (u := (.int .i64 (2 * (i : Int)))) rfl rfl ?ywg1_12 ?rwg1_12
      case ywg1_12 =>
        refine StepS.pure (SeqN.pass (by decide)) (by rfl) (fun w9 => ?_)
        first | (go_simp; exact wrap_in (by omega) (by omega)) | (go_simp; done) | (go_simp; rfl) | rfl
      try simp only [Act.put, sA, sZ, sS]
      refine Ps.st (i := 11) (d := some 43) (u := (.int .i64 ((b : Int)))) rfl rfl ?ywg1_13 ?rwg1_13
      case ywg1_13 =>
        refine StepS.pure (SeqN.pass (by decide)) (by rfl) (fun w9 => ?_)
        first | (go_simp; exact wrap_in (by omega) (by omega)) | (go_simp; done) | (go_simp; rfl) | rfl
      try simp only [Act.put, sA, sZ, sS]
      refine Ps.st (i := 12) (d := some 44) (u := (.pointer (some (p.add b)))) rfl rfl (by exact StepS.pure (SeqN.pass (by decide)) rfl fun _ => by first | rfl | (go_simp; done) | (go_simp; rfl)) ?_
      try simp only [Act.put, sA, sZ, sS]
      refine Ps.st (i := 13) (d := some 45) (u := (.string y)) rfl rfl ?ywg1_15 ?rwg1_15
      case ywg1_15 =>
        refine StepS.read [] (by kernel_rfl) (SeqN.pass (by decide)) (by rfl) (fun L9 m9 w9 hSh hAt hDn hS => ?_)
        have hT : Below wr.heap.size wr w9 := SeqN.z01 hSh (reach_no hSh (f := 20) (j := 17) (by kernel_rfl) hDn) (by kernel_rfl) (fun _ _ h => h) (fun _ _ h => h.1) hS
        have x0 : w9.cell? (p.add b) = some (.string y) := ce cy hT
        clear hT hS
        go_simp
        try rfl
      try simp only [Act.put, sA, sZ, sS]
      refine Ps.st (i := 14) (d := some 46) (u := (.int .i64 (kd))) rfl rfl ?ywg1_16 ?rwg1_16
      case ywg1_16 =>
        refine StepS.call ?fwg1_16 ?awg1_16 [] (by kernel_rfl) (by rfl) (fun w9 => ?hwg1_16) (fun L9 m9 w9 hSh hAt hDn hS => ?cwg1_16)
        case hwg1_16 => go_simp; refine ⟨?_, ?_⟩ <;> rfl
        case cwg1_16 =>
          have hT : Below wr.heap.size wr w9 := SeqN.z01 hSh (reach_no hSh (f := 20) (j := 17) (by kernel_rfl) hDn) (by kernel_rfl) (fun _ _ h => h) (fun _ _ h => h.1) hS
          refine (rkind_any y w9).mono ?_
          rintro e w8 ⟨rfl, rfl⟩
          exact ⟨by rw [HKD.out], SeqN.pass (by decide) _ _ _ hS⟩
      try simp only [Act.put, sA, sZ, sS]
      refine Ps.st (i := 15) (d := some 47) (u := (.agg #[.string x, .int .i64 (kd)])) rfl rfl (by exact StepS.pure (SeqN.pass (by decide)) rfl fun _ => by first | rfl | (go_simp; done) | (go_simp; rfl)) ?_
      try simp only [Act.put, sA, sZ, sS]
      refine Ps.one (k := 16) (d := some 48) rfl rfl (by kernel_rfl) (TurnS.value (V := fun v => ∃ gb, v = .slice (some ⟨gb, 0, none⟩) 1 1) [] (by kernel_rfl) (by rfl) (fun L9 m9 w9 hSh hAt hDn hS => ?cwg1_18)) (fun v16 hVv16 => ?rwg1_18)
      case cwg1_18 =>
        have hT := SeqN.at_ (m0 := m9) (m1 := m9) [] [17, 19] hSh (fun d hd => by cases hd) hDn (by kernel_rfl) hS
        have hsz9 := hT.size
        refine ⟨.slice (some ⟨w9.heap.size, 0, none⟩) 1 1, w9.alloc (.cells #[.string x, .int .i64 kd] 71), ?_, ⟨_, rfl⟩, SeqN.set_ (m0 := m9) (m1 := m9) [] [17, 19] hSh (fun d hd => by cases hd) hDn (by kernel_rfl) (by decide) (by decide) ⟨bl_al hT _, _, upd_same _ _ _, Blk.new _ _ _, hsz9⟩⟩
        clear hT hS
        go_simp
      try simp only [Act.put, sA, sZ, sS]
      obtain ⟨gb, rfl⟩ := hVv16
      refine Ps.one (k := 17) (d := some 49) rfl rfl (by kernel_rfl) (TurnS.value (V := fun v => ∃ A6 c6, v = .slice A6 (i + 1) c6) [16] (by kernel_rfl) (by rfl) (fun L9 m9 w9 hSh hAt hDn hS => ?cwg1_19)) (fun v17 hVv17 => ?rwg1_19)
      case cwg1_19 =>
        obtain ⟨hT, gb2, hv, hbk, hgb⟩ := SeqN.at_ [16] [19] hSh hAt hDn (by kernel_rfl) hS
        obtain rfl : gb = gb2 := by have h9 : Value.slice (some ⟨gb, 0, none⟩) 1 1 = .slice (some ⟨gb2, 0, none⟩) 1 1 := (hAt 16 (by simp)).2.symm.trans hv; simpa using h9
        have hsz9 := hT.size
        have hs9 := HS.out.below hT
        have hob := own_lt HS.out.co
        obtain ⟨A6, c6, w8, hrun, ho6, hgr, hat6⟩ := run_appL (L := LCO) (e := 71) (P := Tryz.prog) (w := w9) 38 38 _ 2 24 Tryz.underlying38 Tryz.colInfo rfl rfl (by decide) (w.heap.size + 2) (fun b => b < w9.heap.size) A i c (rCols l i) gb 1 71 #[.string x, .int .i64 kd] ⟨x, kd⟩ (LCO_own_to hs9.co (fun _ _ => rfl)) hbk rfl (fun b hb => hb) (by omega) (by unfold maxLen; omega) (by omega)
        exact ⟨_, w8, exec_append (.tmp 33) (.tmp 48) 38 rfl rfl rfl hrun, ⟨A6, c6, rfl⟩, SeqN.set_ [16] [19] hSh hAt hDn (by kernel_rfl) (by decide) (by decide) ⟨w9, A6, c6, upd_same _ _ _, hs9, LCO_own_to ho6 (fun _ _ => rfl), hgr, hat6⟩⟩
      try simp only [Act.put, sA, sZ, sS]
      obtain ⟨A6, c6, rfl⟩ := hVv17
      refine Ps.st (i := 18) (d := some 50) (u := (.pointer (some ⟨w.heap.size + 1, 1, none⟩))) rfl rfl (by exact StepS.pure (SeqN.pass (by decide)) rfl fun _ => rfl) ?_
      try simp only [Act.put, sA, sZ, sS]
      refine Ps.st (i := 19) (d := none) (u := undef) rfl rfl ?ywg1_21 ?rwg1_21
      case ywg1_21 =>
        refine StepS.store [16, 17] (by kernel_rfl) (by rfl) (fun L9 m9 w9 hSh hAt hDn hS => ?_)
        obtain ⟨wq, A7, c7, hv, hs9, ho, hgr, hat7⟩ := SeqN.at_ [16, 17] [] hSh hAt hDn (by kernel_rfl) hS
        obtain ⟨rfl, rfl⟩ : A6 = A7 ∧ c6 = c7 := by have h9 : Value.slice A6 (i + 1) c6 = .slice A7 (i + 1) c7 := (hAt 17 (by simp)).2.symm.trans hv; simpa using h9
        have hob := own_lt hs9.co
        have hsz9 := hs9.sz
        have hb9 : Blk w9 (w.heap.size + 1) 41 #[.string nm, .slice A i c, .slice none 0 0] := hs9.t.grown hgr (fun e => by have := (hob _ e.symm).1; omega)
        have x2 : w9.cell? ⟨w.heap.size + 1, 1, none⟩ = some (.slice A i c) := hb9.cell 1
        have fx : w9.frozen? ⟨w.heap.size + 1, 1, none⟩ = false := hb9.frozen 1
        refine ⟨w9.setCell ⟨w.heap.size + 1, 1, none⟩ (.slice A6 (i + 1) c6), ?_, SeqN.set_ [16, 17] [] hSh hAt hDn (by kernel_rfl) (by decide) (by decide) ⟨A6, c6, hv, hs9.coled ho hgr hat7⟩⟩
        clear hv ho hs9 hgr hat7 hb9 hS
        go_simp
      try simp only [Act.put]
      refine Ps.done (by kernel_rfl) (fun wg1 hS => ?_) _
      obtain ⟨A7, c7, hv, hs7⟩ := SeqN.fin (by rfl) hS
      clear hS
      obtain ⟨rfl, rfl⟩ : A6 = A7 ∧ c6 = c7 := by have h9 : Value.slice A6 (i + 1) c6 = .slice A7 (i + 1) c7 := hv; simpa using h9
      clear hv
      obtain ⟨wz, rfl⟩ : ∃ x, x = wg1 := ⟨_, rfl⟩
      have HS7 := Lib.hid hs7
      clear hs7 cx cy HS
      go_wp2_with fail
      go_roundg (gk - 1)
      · exact ⟨i + 1, A6, c6, by omega, by go_num, by rw [HC.out]; exact HS7⟩
      · omega
    · obtain rfl : i = k := by omega
      have hi1 : (i : Int) ≤ (i : Int) := by omega
      have HLC := Lib.hid (fun (ks : List Int) => rC_len HSZ.out i)
      have HNL := Lib.hid (show nm.size ≤ 9223372036854775807 from by have := HSZ.out nm (List.mem_of_getElem? HNM.out); omega)
      clear HS2
      rcases (show nw = 2 + 2 * i ∨ nw = 2 + 2 * i + 1 ∨ 2 + 2 * i + 2 ≤ nw from by omega) with hz | hz | hz
      · have f1 : nw - (2 + 2 * i) = 0 := by omega
        obtain ⟨bq, hbq⟩ : ∃ bq, bq = tabB (⟨nm, rCols l i, []⟩ : TC) := ⟨_, rfl⟩
        have HBB := Lib.hid hbq
        clear hbq
        by_cases f3 : cw = 2 + 2 * i
        · skip
          go_wp2_with fail
          go_loopg [9] 0 (fun g v wq => v = .int .i64 1 ∧ wr = wq)
          case atStart => exact ⟨rfl, rfl⟩
          case round =>
            obtain ⟨rfl, rfl⟩ := hrel
            go_upto_region 15 with fail
            refine wp_region_ps (S := SeqN [2, 3] (fun z mm w' => match z with | 0 => Below wr.heap.size wr w' | 1 => Below wr.heap.size wr w' | _ => ∃ wq, Below wr.heap.size wr wq ∧ Blk w' w.heap.size 41 #[.string nm, .slice A i c, .slice none 0 0] ∧ wq.grownBy w' (some w.heap.size))) (by kernel_rfl) ?spswg35 ?ppswg35
            case spswg35 =>
              exact SeqN.start (by decide) (Below.refl _ _).drew
            refine Ps.st (i := 0) (d := some 88) (u := (.agg #[.string nm, .slice A i c, .slice none 0 0])) rfl rfl ?ywg35_36 ?rwg35_36
            case ywg35_36 =>
              refine StepS.read [] (by kernel_rfl) (SeqN.pass (by decide)) (by rfl) (fun L9 m9 w9 hSh hAt hDn hS => ?_)
              have hT : Below wr.heap.size wr w9 := SeqN.lt (ks := [2, 3]) (k := 3) (by simp) (reach_no hSh (f := 5) (j := 3) (by kernel_rfl) hDn) (fun z _ _ hz h => by match z, hz, h with | 0, _, h => exact h | 1, _, h => exact h | _ + 2, hz, _ => exact absurd hz (by simp)) hS
              have x0 : w9.cell? ⟨w.heap.size + 1, 0, none⟩ = some (.string nm) := (HS.out.below hT).t.cell 0
              have x1 : w9.cell? ⟨w.heap.size + 1, 1, none⟩ = some (.slice A i c) := (HS.out.below hT).t.cell 1
              have x2 : w9.cell? ⟨w.heap.size + 1, 2, none⟩ = some (.slice none 0 0) := (HS.out.below hT).t.cell 2
              clear hT hS
              go_simp
              try rfl
            try simp only [Act.put, sA, sZ, sS]
            refine Ps.st (i := 1) (d := some 89) (u := (.agg #[.string nm, .slice A i c, .slice none 0 0])) rfl rfl ?ywg35_37 ?rwg35_37
            case ywg35_37 =>
              refine StepS.read [] (by kernel_rfl) (SeqN.pass (by decide)) (by rfl) (fun L9 m9 w9 hSh hAt hDn hS => ?_)
              have hT : Below wr.heap.size wr w9 := SeqN.lt (ks := [2, 3]) (k := 3) (by simp) (reach_no hSh (f := 5) (j := 3) (by kernel_rfl) hDn) (fun z _ _ hz h => by match z, hz, h with | 0, _, h => exact h | 1, _, h => exact h | _ + 2, hz, _ => exact absurd hz (by simp)) hS
              have x0 : w9.cell? ⟨w.heap.size + 1, 0, none⟩ = some (.string nm) := (HS.out.below hT).t.cell 0
              have x1 : w9.cell? ⟨w.heap.size + 1, 1, none⟩ = some (.slice A i c) := (HS.out.below hT).t.cell 1
              have x2 : w9.cell? ⟨w.heap.size + 1, 2, none⟩ = some (.slice none 0 0) := (HS.out.below hT).t.cell 2
              clear hT hS
              go_simp
              try rfl
            try simp only [Act.put, sA, sZ, sS]
            refine Ps.one (k := 2) (d := some 90) rfl rfl (by kernel_rfl) (TurnS.call (V := fun v => v = .bool bq) ?fwg35_38 ?awg35_38 [] (by kernel_rfl) (by rfl) (fun w9 => ?hwg35_38) (fun L9 m9 w9 hSh hAt hDn hS => ?cwg35_38)) (fun v2 hVv2 => ?rwg35_38)
            case hwg35_38 => go_simp; refine ⟨?_, ?_⟩ <;> rfl
            case cwg35_38 =>
              have hT := SeqN.at_ (m0 := m9) (m1 := m9) [] [3] hSh (fun d hd => by cases hd) hDn (by kernel_rfl) hS
              refine (rtable_any AllB AllB (⟨nm, rCols l i, []⟩ : TC) A i c none 0 0 w9 (HS.out.below hT).reads.1 (HS.out.below hT).reads.2 (by omega) (by omega) HNL.out (HLC.out [])).mono ?_
              rintro e w8 ⟨rfl, q8⟩
              exact ⟨_, rfl, by rw [HBB.out], SeqN.set_ (m0 := m9) (m1 := m9) [] [3] hSh (fun d hd => by cases hd) hDn (by kernel_rfl) (by decide) (by decide) (bl_ca hT q8)⟩
            try simp only [Act.put, sA, sZ, sS]
            subst hVv2
            refine Ps.st (i := 3) (d := none) (u := undef) rfl rfl ?ywg35_39 ?rwg35_39
            case ywg35_39 =>
              refine StepS.store [2] (by kernel_rfl) (by rfl) (fun L9 m9 w9 hSh hAt hDn hS => ?_)
              have hT := SeqN.at_ [2] [] hSh hAt hDn (by kernel_rfl) hS
              refine (exec_store_blk (w := w9) 41 (.tmp 4) (.tmp 88) (by rfl) w.heap.size 41 #[.string ⟨#[]⟩, .slice none 0 0, .slice none 0 0] #[.string nm, .slice A i c, .slice none 0 0] (by rfl) (by rfl) (HS.out.below hT).r rfl tableI (by simp [Value.oneCell'])).imp fun w7 hx => ⟨hx.1, SeqN.set_ [2] [] hSh hAt hDn (by kernel_rfl) (by decide) (by decide) ⟨w9, hT, hx.2.1, hx.2.2⟩⟩
            try simp only [Act.put]
            refine Ps.st (i := 4) (d := some 5) (u := (.bool (bq))) rfl rfl (by exact StepS.pure (SeqN.pass (by decide)) rfl fun _ => rfl) ?_
            try simp only [Act.put, sA, sZ, sS]
            refine Ps.done (by kernel_rfl) (fun wg35 hS => ?_) _
            obtain ⟨wq, hQX, hBX, hgX⟩ := SeqN.fin (by rfl) hS
            clear hS
            obtain ⟨wz, rfl⟩ : ∃ x, x = wg35 := ⟨_, rfl⟩
            go_wp2_with fail
            exact bodyPost_ret (res2 Tryz.results48 rfl rfl hBX Tryz.underlying41 rfl tableI) rfl (RfO.end_ HS.out hQX hgX HX0.out HNM.out (by have := HL.out; omega) (.inl (by have := HL.out; omega)) (by unfold rKeys; rw [List.drop_of_length_le (by have := HL.out; omega)]; rfl) HBB.out)
        · skip
          go_wp2_with fail
          go_loopg [9] 0 (fun g v wq => v = .int .i64 1 ∧ wr = wq)
          case atStart => exact ⟨rfl, rfl⟩
          case round =>
            obtain ⟨rfl, rfl⟩ := hrel
            go_upto_region 15 with fail
            refine wp_region_ps (S := SeqN [2, 3] (fun z mm w' => match z with | 0 => Below wr.heap.size wr w' | 1 => Below wr.heap.size wr w' | _ => ∃ wq, Below wr.heap.size wr wq ∧ Blk w' w.heap.size 41 #[.string nm, .slice A i c, .slice none 0 0] ∧ wq.grownBy w' (some w.heap.size))) (by kernel_rfl) ?spswg41 ?ppswg41
            case spswg41 =>
              exact SeqN.start (by decide) (Below.refl _ _).drew
            refine Ps.st (i := 0) (d := some 88) (u := (.agg #[.string nm, .slice A i c, .slice none 0 0])) rfl rfl ?ywg41_42 ?rwg41_42
            case ywg41_42 =>
              refine StepS.read [] (by kernel_rfl) (SeqN.pass (by decide)) (by rfl) (fun L9 m9 w9 hSh hAt hDn hS => ?_)
              have hT : Below wr.heap.size wr w9 := SeqN.lt (ks := [2, 3]) (k := 3) (by simp) (reach_no hSh (f := 5) (j := 3) (by kernel_rfl) hDn) (fun z _ _ hz h => by match z, hz, h with | 0, _, h => exact h | 1, _, h => exact h | _ + 2, hz, _ => exact absurd hz (by simp)) hS
              have x0 : w9.cell? ⟨w.heap.size + 1, 0, none⟩ = some (.string nm) := (HS.out.below hT).t.cell 0
              have x1 : w9.cell? ⟨w.heap.size + 1, 1, none⟩ = some (.slice A i c) := (HS.out.below hT).t.cell 1
              have x2 : w9.cell? ⟨w.heap.size + 1, 2, none⟩ = some (.slice none 0 0) := (HS.out.below hT).t.cell 2
              clear hT hS
              go_simp
              try rfl
            try simp only [Act.put, sA, sZ, sS]
            refine Ps.st (i := 1) (d := some 89) (u := (.agg #[.string nm, .slice A i c, .slice none 0 0])) rfl rfl ?ywg41_43 ?rwg41_43
            case ywg41_43 =>
              refine StepS.read [] (by kernel_rfl) (SeqN.pass (by decide)) (by rfl) (fun L9 m9 w9 hSh hAt hDn hS => ?_)
              have hT : Below wr.heap.size wr w9 := SeqN.lt (ks := [2, 3]) (k := 3) (by simp) (reach_no hSh (f := 5) (j := 3) (by kernel_rfl) hDn) (fun z _ _ hz h => by match z, hz, h with | 0, _, h => exact h | 1, _, h => exact h | _ + 2, hz, _ => exact absurd hz (by simp)) hS
              have x0 : w9.cell? ⟨w.heap.size + 1, 0, none⟩ = some (.string nm) := (HS.out.below hT).t.cell 0
              have x1 : w9.cell? ⟨w.heap.size + 1, 1, none⟩ = some (.slice A i c) := (HS.out.below hT).t.cell 1
              have x2 : w9.cell? ⟨w.heap.size + 1, 2, none⟩ = some (.slice none 0 0) := (HS.out.below hT).t.cell 2
              clear hT hS
              go_simp
              try rfl
            try simp only [Act.put, sA, sZ, sS]
            refine Ps.one (k := 2) (d := some 90) rfl rfl (by kernel_rfl) (TurnS.call (V := fun v => v = .bool bq) ?fwg41_44 ?awg41_44 [] (by kernel_rfl) (by rfl) (fun w9 => ?hwg41_44) (fun L9 m9 w9 hSh hAt hDn hS => ?cwg41_44)) (fun v2 hVv2 => ?rwg41_44)
            case hwg41_44 => go_simp; refine ⟨?_, ?_⟩ <;> rfl
            case cwg41_44 =>
              have hT := SeqN.at_ (m0 := m9) (m1 := m9) [] [3] hSh (fun d hd => by cases hd) hDn (by kernel_rfl) hS
              refine (rtable_any AllB AllB (⟨nm, rCols l i, []⟩ : TC) A i c none 0 0 w9 (HS.out.below hT).reads.1 (HS.out.below hT).reads.2 (by omega) (by omega) HNL.out (HLC.out [])).mono ?_
              rintro e w8 ⟨rfl, q8⟩
              exact ⟨_, rfl, by rw [HBB.out], SeqN.set_ (m0 := m9) (m1 := m9) [] [3] hSh (fun d hd => by cases hd) hDn (by kernel_rfl) (by decide) (by decide) (bl_ca hT q8)⟩
            try simp only [Act.put, sA, sZ, sS]
            subst hVv2
            refine Ps.st (i := 3) (d := none) (u := undef) rfl rfl ?ywg41_45 ?rwg41_45
            case ywg41_45 =>
              refine StepS.store [2] (by kernel_rfl) (by rfl) (fun L9 m9 w9 hSh hAt hDn hS => ?_)
              have hT := SeqN.at_ [2] [] hSh hAt hDn (by kernel_rfl) hS
              refine (exec_store_blk (w := w9) 41 (.tmp 4) (.tmp 88) (by rfl) w.heap.size 41 #[.string ⟨#[]⟩, .slice none 0 0, .slice none 0 0] #[.string nm, .slice A i c, .slice none 0 0] (by rfl) (by rfl) (HS.out.below hT).r rfl tableI (by simp [Value.oneCell'])).imp fun w7 hx => ⟨hx.1, SeqN.set_ [2] [] hSh hAt hDn (by kernel_rfl) (by decide) (by decide) ⟨w9, hT, hx.2.1, hx.2.2⟩⟩
            try simp only [Act.put]
            refine Ps.st (i := 4) (d := some 5) (u := (.bool (bq))) rfl rfl (by exact StepS.pure (SeqN.pass (by decide)) rfl fun _ => rfl) ?_
            try simp only [Act.put, sA, sZ, sS]
            refine Ps.done (by kernel_rfl) (fun wg41 hS => ?_) _
            obtain ⟨wq, hQX, hBX, hgX⟩ := SeqN.fin (by rfl) hS
            clear hS
            obtain ⟨wz, rfl⟩ : ∃ x, x = wg41 := ⟨_, rfl⟩
            go_wp2_with fail
            exact bodyPost_ret (res2 Tryz.results48 rfl rfl hBX Tryz.underlying41 rfl tableI) rfl (RfO.end_ HS.out hQX hgX HX0.out HNM.out (by have := HL.out; omega) (.inl (by have := HL.out; omega)) (by unfold rKeys; rw [List.drop_of_length_le (by have := HL.out; omega)]; rfl) HBB.out)
      · have f1 : nw - (2 + 2 * i) = 1 := by omega
        have f3 : ¬ cw = 2 + 2 * i := by omega
        have HN := Lib.hid (show ¬ RdP l i from fun hp => by have := HL.out; rcases hp.by_ with h9 | h9 <;> omega)
        go_wp2_with (first | (refine wpList_store_blk rfl 41 (.tmp 4) (.tmp 70) rfl w.heap.size 41 #[.string ⟨#[]⟩, .slice none 0 0, .slice none 0 0] #[.string ⟨#[]⟩, .slice none 0 0, .slice none 0 0] rfl rfl HS.out.r rfl tableI (by simp [Value.oneCell']) ?_; intro w8 h8 g8))
        exact bodyPost_ret (res2 Tryz.results48 rfl rfl h8 Tryz.underlying41 rfl tableI) rfl (RfO.no HN.out (bl_gr HS.out.q g8 (by omega)))
      · obtain ⟨p', y, hp', hy, cy⟩ := LS_at' HS.out.ws (show 2 + 2 * i < nw by omega)
        obtain rfl : p = p' := by injection hp'
        have f1 : 0 < (nw - (2 + 2 * i)) := by omega
        have f2 : ¬ ((nw - (2 + 2 * i) : Nat) : Int) < 2 := by omega
        have f3 : ¬ cw = 2 + 2 * i := by omega
        have HY := Lib.hid hy
        clear hp' hy
        by_cases hyb : y = sBy
        case neg =>
          have e1 : (y.toList == [98, 121]) = false := by rw [show [98, 121] = sBy.toList from by decide +kernel]; exact eqf hyb
          have HN := Lib.hid (show ¬ RdP l i from fun hp => by
            have := HL.out
            rcases hp.by_ with h9 | h9
            · omega
            · rw [HY.out] at h9; injection h9.2 with h8; exact hyb h8)
          clear hyb
          go_wp2_with (first | (refine wpList_store_blk rfl 41 (.tmp 4) (.tmp 70) rfl w.heap.size 41 #[.string ⟨#[]⟩, .slice none 0 0, .slice none 0 0] #[.string ⟨#[]⟩, .slice none 0 0, .slice none 0 0] rfl rfl HS.out.r rfl tableI (by simp [Value.oneCell']) ?_; intro w8 h8 g8))
          exact bodyPost_ret (res2 Tryz.results48 rfl rfl h8 Tryz.underlying41 rfl tableI) rfl (RfO.no HN.out (bl_gr HS.out.q g8 (by omega)))
        have e1 : (y.toList == [98, 121]) = true := by rw [show [98, 121] = sBy.toList from by decide +kernel]; exact eqt hyb
        have HBY := Lib.hid (show l[2 + 2 * i]? = some sBy from by rw [HY.out, hyb])
        clear hyb
        go_wp2_with fail
        clear e1 cy
        go_loopg [9] ((nw - (2 + 2 * i)) - 1) (fun g v wq => ∃ (j : Nat) (K : Option Addr) (d : Nat), j + g = (nw - (2 + 2 * i)) - 1 ∧ v = .int .i64 ((j : Int) + 1) ∧ Hid (RfS w wq (some p) nw l nm A i c K j d (rCols l i) (((l.drop (3 + 2 * i)).take j).map (rKey (rCols l i)))))
        case atStart => exact ⟨0, none, 0, by omega, rfl, HS⟩
        case round =>
          clear HS
          obtain ⟨j, K, d, hjg, rfl, HS⟩ := hrel
          obtain ⟨ks, hks⟩ : ∃ ks, ks = ((l.drop (3 + 2 * i)).take j).map (rKey (rCols l i)) := ⟨_, rfl⟩
          rw [← hks] at HS
          have HKT := Lib.hid hks
          clear hks
          have hgr := HS.out.sz
          by_cases hlt : j < (nw - (2 + 2 * i)) - 1
          · have hi1 : (j : Int) + 1 < ((nw - (2 + 2 * i) : Nat) : Int) := by omega
            obtain ⟨p', z, hp', hz', cz⟩ := LS_at' HS.out.ws (show 2 + 2 * i + (j + 1) < nw by omega)
            obtain rfl : p = p' := by injection hp'
            rw [addr_more _ _ _ (by omega)] at cz
            obtain ⟨kz, hkz⟩ : ∃ kz, kz = rKey (rCols l i) z := ⟨_, rfl⟩
            have HKZ := Lib.hid hkz
            have HC := Lib.hid (show ((l.drop (3 + 2 * i)).take (j + 1)).map (rKey (rCols l i)) = ks ++ [kz] from by
              rw [List.take_add_one, List.map_append, HKT.out, List.getElem?_drop, show 3 + 2 * i + j = 2 + 2 * i + (j + 1) from by omega, hz', hkz]; rfl)
            clear hp' hz' hkz
            have hj0 : ¬ ((j : Int) + 1 < 0) := by omega
            go_upto_region 14 with fail
            refine wp_region_ps (S := SeqN [7, 8, 9, 11] (fun z mm w' => match z with | 0 => Below wr.heap.size wr w' | 1 => Below wr.heap.size wr w' | 2 => Below wr.heap.size wr w' ∧ ∃ gb, mm 8 = .slice (some ⟨gb, 0, none⟩) 1 1 ∧ Blk w' gb 3 #[.int .i64 kz] ∧ wr.heap.size ≤ gb | 3 => ∃ wq A6 c6, mm 9 = .slice A6 (j + 1) c6 ∧ RfS w wq (some p) nw l nm A i c K j d (rCols l i) ks ∧ LK.own 3 w' (w.heap.size + 2) (fun _ => True) A6 (j + 1) c6 (ks ++ [kz]) ∧ wq.grownBy w' (Value.slice K j d).ownBlock ∧ ((Value.slice A6 (j + 1) c6).ownBlock = (Value.slice K j d).ownBlock ∨ (Value.slice A6 (j + 1) c6).ownBlock = some wq.heap.size) | _ => ∃ A6 c6, mm 9 = .slice A6 (j + 1) c6 ∧ RfS w w' (some p) nw l nm A i c A6 (j + 1) c6 (rCols l i) (ks ++ [kz]))) (by kernel_rfl) ?spswg22 ?ppswg22
            case spswg22 =>
              exact SeqN.start (by decide) (Below.refl _ _).drew
            refine Ps.st (i := 0) (d := some 77) (u := (.pointer (some ⟨w.heap.size + 1, 2, none⟩))) rfl rfl (by exact StepS.pure (SeqN.pass (by decide)) rfl fun _ => rfl) ?_
            try simp only [Act.put, sA, sZ, sS]
            refine Ps.st (i := 1) (d := some 78) (u := (.slice K j d)) rfl rfl ?ywg22_24 ?rwg22_24
            case ywg22_24 =>
              refine StepS.read [] (by kernel_rfl) (SeqN.pass (by decide)) (by rfl) (fun L9 m9 w9 hSh hAt hDn hS => ?_)
              have hT : Below wr.heap.size wr w9 := SeqN.z012 hSh (reach_no hSh (f := 12) (j := 9) (by kernel_rfl) hDn) (by kernel_rfl) (fun _ _ h => h) (fun _ _ h => h) (fun _ _ h => h.1) hS
              have x0 : w9.cell? ⟨w.heap.size + 1, 2, none⟩ = some (.slice K j d) := (HS.out.below hT).t.cell 2
              clear hT hS
              go_simp
              try rfl
            try simp only [Act.put, sA, sZ, sS]
            refine Ps.st (i := 2) (d := some 79) (u := (.agg #[.string nm, .slice A i c, .slice K j d])) rfl rfl ?ywg22_25 ?rwg22_25
            case ywg22_25 =>
              refine StepS.read [] (by kernel_rfl) (SeqN.pass (by decide)) (by rfl) (fun L9 m9 w9 hSh hAt hDn hS => ?_)
              have hT : Below wr.heap.size wr w9 := SeqN.z012 hSh (reach_no hSh (f := 12) (j := 9) (by kernel_rfl) hDn) (by kernel_rfl) (fun _ _ h => h) (fun _ _ h => h) (fun _ _ h => h.1) hS
              have x0 : w9.cell? ⟨w.heap.size + 1, 0, none⟩ = some (.string nm) := (HS.out.below hT).t.cell 0
              have x1 : w9.cell? ⟨w.heap.size + 1, 1, none⟩ = some (.slice A i c) := (HS.out.below hT).t.cell 1
              have x2 : w9.cell? ⟨w.heap.size + 1, 2, none⟩ = some (.slice K j d) := (HS.out.below hT).t.cell 2
              clear hT hS
              go_simp
              try rfl
            try simp only [Act.put, sA, sZ, sS]
            refine Ps.st (i := 3) (d := some 80) (u := (.slice (some (p.add (2 + 2 * i))) (nw - (2 + 2 * i)) (cw - (2 + 2 * i)))) rfl rfl (by exact StepS.pure (SeqN.pass (by decide)) rfl fun _ => rfl) ?_
            try simp only [Act.put, sA, sZ, sS]
            refine Ps.st (i := 4) (d := some 81) (u := (.int .i64 ((j : Int) + 1))) rfl rfl (by exact StepS.pure (SeqN.pass (by decide)) rfl fun _ => rfl) ?_
            try simp only [Act.put, sA, sZ, sS]
            refine Ps.st (i := 5) (d := some 82) (u := (.pointer (some (⟨(p.add (2 + 2 * i)).block, (p.add (2 + 2 * i)).off + (j + 1), none⟩)))) rfl rfl (by exact StepS.pure (SeqN.pass (by decide)) rfl fun _ => by first | rfl | (go_simp; done) | (go_simp; rfl)) ?_
            try simp only [Act.put, sA, sZ, sS]
            refine Ps.st (i := 6) (d := some 83) (u := (.string z)) rfl rfl ?ywg22_29 ?rwg22_29
            case ywg22_29 =>
              refine StepS.read [] (by kernel_rfl) (SeqN.pass (by decide)) (by rfl) (fun L9 m9 w9 hSh hAt hDn hS => ?_)
              have hT : Below wr.heap.size wr w9 := SeqN.z012 hSh (reach_no hSh (f := 12) (j := 9) (by kernel_rfl) hDn) (by kernel_rfl) (fun _ _ h => h) (fun _ _ h => h) (fun _ _ h => h.1) hS
              have x0 : w9.cell? (⟨(p.add (2 + 2 * i)).block, (p.add (2 + 2 * i)).off + (j + 1), none⟩) = some (.string z) := ce cz hT
              clear hT hS
              go_simp
              try rfl
            try simp only [Act.put, sA, sZ, sS]
            refine Ps.one (k := 7) (d := some 84) rfl rfl (by kernel_rfl) (TurnS.call (V := fun v => v = .int .i64 kz) ?fwg22_30 ?awg22_30 [] (by kernel_rfl) (by rfl) (fun w9 => ?hwg22_30) (fun L9 m9 w9 hSh hAt hDn hS => ?cwg22_30)) (fun v7 hVv7 => ?rwg22_30)
            case hwg22_30 => go_simp; refine ⟨?_, ?_⟩ <;> rfl
            case cwg22_30 =>
              have hT := SeqN.at_ (m0 := m9) (m1 := m9) [] [8, 9, 11] hSh (fun d hd => by cases hd) hDn (by kernel_rfl) hS
              refine (rcolumn_any AllB (⟨nm, rCols l i, ks⟩ : TC) A i c K j d z w9 (HS.out.below hT).reads.1 (by omega)).mono ?_
              rintro e w8 ⟨rfl, q8⟩
              exact ⟨_, rfl, by rw [HKZ.out]; rfl, SeqN.set_ (m0 := m9) (m1 := m9) [] [8, 9, 11] hSh (fun d hd => by cases hd) hDn (by kernel_rfl) (by decide) (by decide) (bl_ca hT q8)⟩
            try simp only [Act.put, sA, sZ, sS]
            subst hVv7
            refine Ps.one (k := 8) (d := some 85) rfl rfl (by kernel_rfl) (TurnS.value (V := fun v => ∃ gb, v = .slice (some ⟨gb, 0, none⟩) 1 1) [7] (by kernel_rfl) (by rfl) (fun L9 m9 w9 hSh hAt hDn hS => ?cwg22_31)) (fun v8 hVv8 => ?rwg22_31)
            case cwg22_31 =>
              have hT := SeqN.at_ [7] [9, 11] hSh hAt hDn (by kernel_rfl) hS
              have hsz9 := hT.size
              refine ⟨.slice (some ⟨w9.heap.size, 0, none⟩) 1 1, w9.alloc (.cells #[.int .i64 kz] 3), ?_, ⟨_, rfl⟩, SeqN.set_ [7] [9, 11] hSh hAt hDn (by kernel_rfl) (by decide) (by decide) ⟨bl_al hT _, _, upd_same _ _ _, Blk.new _ _ _, hsz9⟩⟩
              clear hT hS
              go_simp
            try simp only [Act.put, sA, sZ, sS]
            obtain ⟨gb, rfl⟩ := hVv8
            refine Ps.one (k := 9) (d := some 86) rfl rfl (by kernel_rfl) (TurnS.value (V := fun v => ∃ A6 c6, v = .slice A6 (j + 1) c6) [7, 8] (by kernel_rfl) (by rfl) (fun L9 m9 w9 hSh hAt hDn hS => ?cwg22_32)) (fun v9 hVv9 => ?rwg22_32)
            case cwg22_32 =>
              obtain ⟨hT, gb2, hv, hbk, hgb⟩ := SeqN.at_ [7, 8] [11] hSh hAt hDn (by kernel_rfl) hS
              obtain rfl : gb = gb2 := by have h9 : Value.slice (some ⟨gb, 0, none⟩) 1 1 = .slice (some ⟨gb2, 0, none⟩) 1 1 := (hAt 8 (by simp)).2.symm.trans hv; simpa using h9
              have hsz9 := hT.size
              have hs9 := HS.out.below hT
              have hob := own_lt HS.out.ko
              obtain ⟨A6, c6, w8, hrun, ho6, hgr, hat6⟩ := run_appL (L := LK) (e := 3) (P := Tryz.prog) (w := w9) 39 39 _ 1 8 Tryz.underlying39 Tryz.intInfo9 rfl rfl (by decide) (w.heap.size + 2) (fun b => b < w9.heap.size) K j d ks gb 1 3 #[.int .i64 kz] kz (LK_own_to hs9.ko (fun _ _ => rfl)) hbk rfl (fun b hb => hb) (by omega) (by unfold maxLen; omega) (by omega)
              exact ⟨_, w8, exec_append (.tmp 78) (.tmp 85) 39 rfl rfl rfl hrun, ⟨A6, c6, rfl⟩, SeqN.set_ [7, 8] [11] hSh hAt hDn (by kernel_rfl) (by decide) (by decide) ⟨w9, A6, c6, upd_same _ _ _, hs9, LK_own_to ho6 (fun _ _ => rfl), hgr, hat6⟩⟩
            try simp only [Act.put, sA, sZ, sS]
            obtain ⟨A6, c6, rfl⟩ := hVv9
            refine Ps.st (i := 10) (d := some 87) (u := (.pointer (some ⟨w.heap.size + 1, 2, none⟩))) rfl rfl (by exact StepS.pure (SeqN.pass (by decide)) rfl fun _ => rfl) ?_
            try simp only [Act.put, sA, sZ, sS]
            refine Ps.st (i := 11) (d := none) (u := undef) rfl rfl ?ywg22_34 ?rwg22_34
            case ywg22_34 =>
              refine StepS.store [7, 8, 9] (by kernel_rfl) (by rfl) (fun L9 m9 w9 hSh hAt hDn hS => ?_)
              obtain ⟨wq, A7, c7, hv, hs9, ho, hgr, hat7⟩ := SeqN.at_ [7, 8, 9] [] hSh hAt hDn (by kernel_rfl) hS
              obtain ⟨rfl, rfl⟩ : A6 = A7 ∧ c6 = c7 := by have h9 : Value.slice A6 (j + 1) c6 = .slice A7 (j + 1) c7 := (hAt 9 (by simp)).2.symm.trans hv; simpa using h9
              have hob := own_lt hs9.ko
              have hsz9 := hs9.sz
              have hb9 : Blk w9 (w.heap.size + 1) 41 #[.string nm, .slice A i c, .slice K j d] := hs9.t.grown hgr (fun e => by have := (hob _ e.symm).1; omega)
              have x2 : w9.cell? ⟨w.heap.size + 1, 2, none⟩ = some (.slice K j d) := hb9.cell 2
              have fx : w9.frozen? ⟨w.heap.size + 1, 2, none⟩ = false := hb9.frozen 2
              refine ⟨w9.setCell ⟨w.heap.size + 1, 2, none⟩ (.slice A6 (j + 1) c6), ?_, SeqN.set_ [7, 8, 9] [] hSh hAt hDn (by kernel_rfl) (by decide) (by decide) ⟨A6, c6, hv, hs9.keyed ho hgr hat7⟩⟩
              clear hv ho hs9 hgr hat7 hb9 hS
              go_simp
            try simp only [Act.put]
            refine Ps.done (by kernel_rfl) (fun wg22 hS => ?_) _
            obtain ⟨A7, c7, hv, hs7⟩ := SeqN.fin (by rfl) hS
            clear hS
            obtain ⟨rfl, rfl⟩ : A6 = A7 ∧ c6 = c7 := by have h9 : Value.slice A6 (j + 1) c6 = .slice A7 (j + 1) c7 := hv; simpa using h9
            clear hv
            obtain ⟨wz, rfl⟩ : ∃ x, x = wg22 := ⟨_, rfl⟩
            have HS7 := Lib.hid hs7
            clear hs7 cz HS
            go_wp2_with fail
            go_roundg (gk - 1)
            · exact ⟨j + 1, A6, c6, by omega, by go_num, by rw [HC.out]; exact HS7⟩
            · omega
          · obtain rfl : j = (nw - (2 + 2 * i)) - 1 := by omega
            have hi1 : ((nw - (2 + 2 * i) : Nat) : Int) ≤ (((nw - (2 + 2 * i)) - 1 : Nat) : Int) + 1 := by omega
            have HKS := Lib.hid (show ks = rKeys l i from by
              rw [HKT.out]; unfold rKeys
              rw [List.take_of_length_le (by rw [List.length_drop]; have := HL.out; omega)])
            obtain ⟨bq, hbq⟩ : ∃ bq, bq = tabB (⟨nm, rCols l i, ks⟩ : TC) := ⟨_, rfl⟩
            have HBB := Lib.hid hbq
            clear hbq
            go_wp2_with fail
            go_upto_region 15 with fail
            refine wp_region_ps (S := SeqN [2, 3] (fun z mm w' => match z with | 0 => Below wr.heap.size wr w' | 1 => Below wr.heap.size wr w' | _ => ∃ wq, Below wr.heap.size wr wq ∧ Blk w' w.heap.size 41 #[.string nm, .slice A i c, .slice K (nw - (2 + 2 * i) - 1) d] ∧ wq.grownBy w' (some w.heap.size))) (by kernel_rfl) ?spswg47 ?ppswg47
            case spswg47 =>
              exact SeqN.start (by decide) (Below.refl _ _).drew
            refine Ps.st (i := 0) (d := some 88) (u := (.agg #[.string nm, .slice A i c, .slice K (nw - (2 + 2 * i) - 1) d])) rfl rfl ?ywg47_48 ?rwg47_48
            case ywg47_48 =>
              refine StepS.read [] (by kernel_rfl) (SeqN.pass (by decide)) (by rfl) (fun L9 m9 w9 hSh hAt hDn hS => ?_)
              have hT : Below wr.heap.size wr w9 := SeqN.lt (ks := [2, 3]) (k := 3) (by simp) (reach_no hSh (f := 5) (j := 3) (by kernel_rfl) hDn) (fun z _ _ hz h => by match z, hz, h with | 0, _, h => exact h | 1, _, h => exact h | _ + 2, hz, _ => exact absurd hz (by simp)) hS
              have x0 : w9.cell? ⟨w.heap.size + 1, 0, none⟩ = some (.string nm) := (HS.out.below hT).t.cell 0
              have x1 : w9.cell? ⟨w.heap.size + 1, 1, none⟩ = some (.slice A i c) := (HS.out.below hT).t.cell 1
              have x2 : w9.cell? ⟨w.heap.size + 1, 2, none⟩ = some (.slice K (nw - (2 + 2 * i) - 1) d) := (HS.out.below hT).t.cell 2
              clear hT hS
              go_simp
              try rfl
            try simp only [Act.put, sA, sZ, sS]
            refine Ps.st (i := 1) (d := some 89) (u := (.agg #[.string nm, .slice A i c, .slice K (nw - (2 + 2 * i) - 1) d])) rfl rfl ?ywg47_49 ?rwg47_49
            case ywg47_49 =>
              refine StepS.read [] (by kernel_rfl) (SeqN.pass (by decide)) (by rfl) (fun L9 m9 w9 hSh hAt hDn hS => ?_)
              have hT : Below wr.heap.size wr w9 := SeqN.lt (ks := [2, 3]) (k := 3) (by simp) (reach_no hSh (f := 5) (j := 3) (by kernel_rfl) hDn) (fun z _ _ hz h => by match z, hz, h with | 0, _, h => exact h | 1, _, h => exact h | _ + 2, hz, _ => exact absurd hz (by simp)) hS
              have x0 : w9.cell? ⟨w.heap.size + 1, 0, none⟩ = some (.string nm) := (HS.out.below hT).t.cell 0
              have x1 : w9.cell? ⟨w.heap.size + 1, 1, none⟩ = some (.slice A i c) := (HS.out.below hT).t.cell 1
              have x2 : w9.cell? ⟨w.heap.size + 1, 2, none⟩ = some (.slice K (nw - (2 + 2 * i) - 1) d) := (HS.out.below hT).t.cell 2
              clear hT hS
              go_simp
              try rfl
            try simp only [Act.put, sA, sZ, sS]
            refine Ps.one (k := 2) (d := some 90) rfl rfl (by kernel_rfl) (TurnS.call (V := fun v => v = .bool bq) ?fwg47_50 ?awg47_50 [] (by kernel_rfl) (by rfl) (fun w9 => ?hwg47_50) (fun L9 m9 w9 hSh hAt hDn hS => ?cwg47_50)) (fun v2 hVv2 => ?rwg47_50)
            case hwg47_50 => go_simp; refine ⟨?_, ?_⟩ <;> rfl
            case cwg47_50 =>
              have hT := SeqN.at_ (m0 := m9) (m1 := m9) [] [3] hSh (fun d hd => by cases hd) hDn (by kernel_rfl) hS
              refine (rtable_any AllB AllB (⟨nm, rCols l i, ks⟩ : TC) A i c K (nw - (2 + 2 * i) - 1) d w9 (HS.out.below hT).reads.1 (HS.out.below hT).reads.2 (by omega) (by omega) HNL.out (HLC.out [])).mono ?_
              rintro e w8 ⟨rfl, q8⟩
              exact ⟨_, rfl, by rw [HBB.out], SeqN.set_ (m0 := m9) (m1 := m9) [] [3] hSh (fun d hd => by cases hd) hDn (by kernel_rfl) (by decide) (by decide) (bl_ca hT q8)⟩
            try simp only [Act.put, sA, sZ, sS]
            subst hVv2
            refine Ps.st (i := 3) (d := none) (u := undef) rfl rfl ?ywg47_51 ?rwg47_51
            case ywg47_51 =>
              refine StepS.store [2] (by kernel_rfl) (by rfl) (fun L9 m9 w9 hSh hAt hDn hS => ?_)
              have hT := SeqN.at_ [2] [] hSh hAt hDn (by kernel_rfl) hS
              refine (exec_store_blk (w := w9) 41 (.tmp 4) (.tmp 88) (by rfl) w.heap.size 41 #[.string ⟨#[]⟩, .slice none 0 0, .slice none 0 0] #[.string nm, .slice A i c, .slice K (nw - (2 + 2 * i) - 1) d] (by rfl) (by rfl) (HS.out.below hT).r rfl tableI (by simp [Value.oneCell'])).imp fun w7 hx => ⟨hx.1, SeqN.set_ [2] [] hSh hAt hDn (by kernel_rfl) (by decide) (by decide) ⟨w9, hT, hx.2.1, hx.2.2⟩⟩
            try simp only [Act.put]
            refine Ps.st (i := 4) (d := some 5) (u := (.bool (bq))) rfl rfl (by exact StepS.pure (SeqN.pass (by decide)) rfl fun _ => rfl) ?_
            try simp only [Act.put, sA, sZ, sS]
            refine Ps.done (by kernel_rfl) (fun wg47 hS => ?_) _
            obtain ⟨wq, hQX, hBX, hgX⟩ := SeqN.fin (by rfl) hS
            clear hS
            obtain ⟨wz, rfl⟩ : ∃ x, x = wg47 := ⟨_, rfl⟩
            go_wp2_with fail
            exact bodyPost_ret (res2 Tryz.results48 rfl rfl hBX Tryz.underlying41 rfl tableI) rfl (RfO.end_ HS.out hQX hgX HX0.out HNM.out (by have := HL.out; omega) (.inr ⟨by have := HL.out; omega, HBY.out⟩) HKS.out HBB.out)
end Go.Proofs.YthgcdilkkldgjaaGreatDoor
/- The reference's Read. Conditions: the line is short. -/
namespace Go.Proofs.YthgcdilkkldgjaaGreatDoor
open Go.RowKit
theorem wsp_len : ∀ (l : List UInt8), (wsp l).length ≤ l.length + 1
  | [] => Nat.le_refl _
  | b :: r => by
    have ih := wsp_len r
    unfold wsp
    split
    · simp only [List.length_cons]; omega
    · simp only [List.length_cons, List.length_tail]; omega
theorem wsp_word : ∀ (l : List UInt8), ∀ x ∈ wsp l, x.length ≤ l.length
  | [], x, h => by
    rw [show wsp [] = [[]] from rfl] at h
    obtain rfl := List.mem_singleton.1 h
    exact Nat.le_refl _
  | b :: r, x, h => by
    have ih := wsp_word r
    obtain ⟨p, ps, e⟩ := wsp_cons r
    unfold wsp at h
    rw [e] at ih h
    split at h
    · rcases List.mem_cons.1 h with rfl | h
      · exact Nat.zero_le _
      · have := ih x h; simp only [List.length_cons]; omega
    · rcases List.mem_cons.1 h with rfl | h
      · have := ih p List.mem_cons_self; simp only [List.headD_cons, List.length_cons]; omega
      · have := ih x (List.mem_cons_of_mem _ h); simp only [List.length_cons]; omega
theorem bW_len (l : List (List UInt8)) : (bW l).length = l.length := by unfold bW; rw [List.length_map]
def R2O (L : List ByteArray) (w : World) (e : Ending) (w' : World) : Prop :=
  ∃ (t : TC) (A : Option Addr) (n c : Nat) (K : Option Addr) (m d : Nat) (b : Bool), e = .returned (.tuple #[.agg (t.cells A n c K m d), .bool b]) ∧ (b = true → TabP t ∧ lineW t = L ∧ LCO.rd w' (fun b => w.heap.size ≤ b) A n t.cols ∧ LK.rd w' (fun b => w.heap.size ≤ b) K m t.keys ∧ n ≤ c ∧ c ≤ 9223372036854775807 ∧ m ≤ d ∧ d ≤ 9223372036854775807) ∧ (b = false → ∀ t, TabP t → lineW t ≠ L) ∧ Below w.heap.size w w'
theorem none_read {L : List ByteArray} (h : ∀ j : Nat, 1 ≤ j → j < 5 → ¬ RdP L j) (t : TC) (ht : TabP t) : lineW t ≠ L := fun e => by
  have := ht.lo
  have := ht.hi
  exact h t.cols.length (by omega) (by omega) (RdP.of_line ht e).1
set_option maxRecDepth 100000 in
set_option maxHeartbeats 8000000 in
theorem rRead_any (s : ByteArray) (w : World) (hs : s.size ≤ 1000) : Calls Tryz.prog 25 #[.string s] w (R2O (bW (wsp s.data.toList)) w) := by
  have HSL := Lib.hid (show s.data.toList.length = s.size from Array.length_toList)
  obtain ⟨L, hL⟩ : ∃ L, L = bW (wsp s.data.toList) := ⟨_, rfl⟩
  have HLEN := Lib.hid (show L.length ≤ 1001 from by rw [hL, bW_len]; have := wsp_len s.data.toList; rw [HSL.out] at this; omega)
  have HWD := Lib.hid (show ∀ x ∈ L, x.size ≤ 1000 from fun x hx => by
    rw [hL] at hx
    unfold bW at hx
    obtain ⟨y, hy, rfl⟩ := List.mem_map.1 hx
    have := wsp_word _ y hy
    show y.toArray.size ≤ 1000
    rw [List.size_toArray]; rw [HSL.out] at this; omega)
  have HL := Lib.hid hL
  rw [← hL]
  clear hL
  have q1 := bl_al (Below.refl w.heap.size w) (.cells #[.string ⟨#[]⟩, .slice none 0 0, .slice none 0 0] 41)
  have HR1 := Lib.hid (Blk.new w 41 #[.string ⟨#[]⟩, .slice none 0 0, .slice none 0 0])
  have HQ1 := Lib.hid q1
  have hs1 : (w.alloc (.cells #[.string ⟨#[]⟩, .slice none 0 0, .slice none 0 0] 41)).heap.size = w.heap.size + 1 := World.size_alloc _ _
  clear q1
  go_enter Tryz.func25, Tryz.ntmps25
  go_wp2_with fail
  generalize w.alloc (.cells #[.string ⟨#[]⟩, .slice none 0 0, .slice none 0 0] 41) = w1 at *
  go_loopg [4] 4 (fun g v wr => ∃ k : Nat, k + g = 5 ∧ 1 ≤ k ∧ v = .int .i64 k ∧ (∀ j : Nat, 1 ≤ j → j < k → ¬ RdP L j) ∧ Hid (Below w1.heap.size w1 wr))
  case atStart => exact ⟨1, by omega, by omega, rfl, fun j h1 h2 => by omega, Lib.hid (Below.refl _ _)⟩
  case round =>
    obtain ⟨k, hkg, hk1, rfl, hno, HBL⟩ := hrel
    have HNO := Lib.hid hno
    have HRX := Lib.hid (HR1.out.ca HBL.out)
    clear hno
    by_cases hlt : k ≤ 4
    · have hi1 : (k : Int) ≤ 4 := by omega
      go_wp2_with fail
      refine (rwords_any s wr hs).mono ?_
      rintro e w3 ⟨A0, n0, c0, rfl, hrd, hn0, hc0, q3⟩
      rw [← HL.out] at hrd
      have HRD := Lib.hid hrd
      have HB3 := Lib.hid (bl_ca HBL.out q3)
      have hl0 := Lay.rd_len hrd
      have hs3 : w.heap.size + 1 ≤ w3.heap.size := by have := HBL.out.size; have := q3.size; omega
      clear hrd q3
      go_wp2_with fail
      refine (rread_any _ L A0 n0 c0 k w3 HRD.out (by have := HLEN.out; omega) hn0 hc0 ⟨hk1, hlt⟩ HWD.out).mono ?_
      rintro e w4 ⟨t, A, n, c, K, m, d, b, rfl, hT, hF, q4⟩
      have HB4 := Lib.hid (bl_ca HB3.out q4)
      have q5 := bl_al (Below.refl w4.heap.size w4) (.cells (t.cells A n c K m d) 41)
      have HB5 := Lib.hid (bl_ca HB4.out q5)
      have HN5 := Lib.hid (Blk.new w4 41 (t.cells A n c K m d))
      have HR5 := Lib.hid (HR1.out.ca HB5.out)
      have hs5 := HB5.out.size
      have HTT := Lib.hid hT
      have HFF := Lib.hid hF
      have HQ5 := Lib.hid q5
      clear hT hF q4 q5 HRX
      cases b
      case true =>
        have y0 := HN5.out.cell 0
        have y1 := HN5.out.cell 1
        have y2 := HN5.out.cell 2
        obtain ⟨t1, t2, t3, t4, t5, t6, t7, t8⟩ := HTT.out rfl
        have HP := Lib.hid (And.intro t1.tab t2)
        have HX3 := Lib.hid (Lay.rd_below t3 HQ5.out)
        have HX4 := Lib.hid (Lay.rd_below t4 HQ5.out)
        have HCP := Lib.hid (And.intro (And.intro t5 t6) (And.intro t7 t8))
        have HLN := Lib.hid t1.line
        clear t1 t2 t3 t4 t5 t6 t7 t8 HTT HFF
        go_wp2_with (first | (refine wpList_store_blk rfl 41 (.tmp 2) (.tmp 19) rfl w.heap.size 41 #[.string ⟨#[]⟩, .slice none 0 0, .slice none 0 0] (t.cells A n c K m d) rfl rfl HR5.out rfl tableI (by simp [TC.cells, Value.oneCell']) ?_; intro w8 h8 g8))
        exact bodyPost_ret (res2 Tryz.results25 rfl rfl h8 Tryz.underlying41 rfl tableI) rfl ⟨t, A, n, c, K, m, d, true, rfl, fun _ => ⟨by rw [HP.out.2]; exact HP.out.1, by rw [HP.out.2]; exact HLN.out, Lay.rd_weak (fun b hb _ => by omega) (rd_grownH HX3.out g8 (fun b hb => by omega)), Lay.rd_weak (fun b hb _ => by omega) (rd_grownH HX4.out g8 (fun b hb => by omega)), HCP.out.1.1, HCP.out.1.2, HCP.out.2.1, HCP.out.2.2⟩, (fun h => by cases h), bl_gr (bl_ca HQ1.out HB5.out) g8 (by omega)⟩
      case false =>
        have HNO2 := Lib.hid (show ∀ j : Nat, 1 ≤ j → j < k + 1 → ¬ RdP L j from fun j h1 h2 => by
          rcases Nat.lt_or_ge j k with h9 | h9
          · exact HNO.out j h1 h9
          · obtain rfl : j = k := by omega
            exact HFF.out rfl)
        clear HFF HTT
        go_wp2_with fail
        go_roundg (gk - 1)
        · exact ⟨k + 1, by omega, by omega, by go_num, HNO2.out, HB5⟩
        · omega
    · obtain rfl : k = 5 := by omega
      go_wp2_with (first | (refine wpList_store_blk rfl 41 (.tmp 2) (.tmp 20) rfl w.heap.size 41 #[.string ⟨#[]⟩, .slice none 0 0, .slice none 0 0] #[.string ⟨#[]⟩, .slice none 0 0, .slice none 0 0] rfl rfl HRX.out rfl tableI (by simp [Value.oneCell']) ?_; intro w8 h8 g8))
      exact bodyPost_ret (res2 Tryz.results25 rfl rfl h8 Tryz.underlying41 rfl tableI) rfl ⟨⟨⟨#[]⟩, [], []⟩, none, 0, 0, none, 0, 0, false, rfl, (fun h => by cases h), fun _ => none_read HNO.out, bl_gr (bl_ca HQ1.out HBL.out) g8 (by omega)⟩
end Go.Proofs.YthgcdilkkldgjaaGreatDoor
