/- The layer's line. Conditions: the slices read so; the keys lie within the columns; what the tables hold; the line is not endless. -/
import Derived.Test.YthgcdilkkldgjaaDoorCDrop
import Derived.Test.YthgcdilkkldgjaaDoorShelf
namespace Go.Proofs.YthgcdilkkldgjaaDoor
open Go.RowKit
def sTable : ByteArray := ⟨#[116, 97, 98, 108, 101]⟩
def sBy : ByteArray := ⟨#[98, 121]⟩
noncomputable def colW (c : CO) : List ByteArray := [c.name, wordS c.kind]
def nameAt (t : TC) (k : Int) : ByteArray := ((t.cols[k.toNat]?).map CO.name).getD ⟨#[]⟩
noncomputable def colsW (l : List CO) : List ByteArray := l.flatMap colW
def keysW (t : TC) (l : List Int) : List ByteArray := l.map (nameAt t)
noncomputable def lineW (t : TC) : List ByteArray := (sTable :: t.name :: colsW t.cols) ++ (if t.keys.length = 0 then [] else sBy :: keysW t t.keys)
noncomputable def lineL (t : TC) : List UInt8 := Lib.join ((lineW t).map (·.data.toList)) [32] ++ [10]
theorem colsW_snoc (l : List CO) (c : CO) : colsW (l ++ [c]) = colsW l ++ [c.name, wordS c.kind] := by unfold colsW; rw [List.flatMap_append]; rfl
theorem colsW_len (l : List CO) : (colsW l).length = 2 * l.length := by
  induction l with
  | nil => rfl
  | cons c l ih => show (colW c ++ colsW l).length = _; rw [List.length_append, ih]; show 2 + _ = 2 * (l.length + 1); omega
theorem keysW_snoc (t : TC) (l : List Int) (k : Int) : keysW t (l ++ [k]) = keysW t l ++ [nameAt t k] := by unfold keysW; rw [List.map_append]; rfl
theorem LS_reps_any {w : World} {F F' : Nat → Prop} : ∀ {xs : List ByteArray} {cs : List Value}, LS.reps w F xs cs → LS.reps w F' xs cs
  | [], _, h => h
  | _ :: _, _, ⟨c, d, e, hx, hr⟩ => ⟨c, d, e, hx, LS_reps_any hr⟩
theorem LS_own_any {e : TypeId} {w : World} {B n c : Nat} {G G' : Nat → Prop} {A : Option Addr} {xs : List ByteArray} (h : LS.own e w B G A n c xs) : LS.own e w B G' A n c xs := by
  obtain ⟨hl, cs, hr, ho⟩ := h
  exact ⟨hl, cs, LS_reps_any hr, ho⟩
theorem LS_own_new (w : World) (e : TypeId) (B : Nat) (G : Nat → Prop) (l : List ByteArray) (n : Nat) (hl : l.length = n) (hn : n ≤ 1000) (hB : B ≤ w.heap.size) : LS.own e (w.alloc (.cells (l.map fun s => Value.string s).toArray e)) B G (some ⟨w.heap.size, 0, none⟩) n n l :=
  ⟨hl, l.map fun s => .string s, LS_reps l, by rw [List.length_map, hl]; show n = n * 1; omega, .inr ⟨w.heap.size, n, (l.map fun s => Value.string s).toArray, rfl, hB, heap_alloc_new w _, Nat.le_refl _, by unfold maxLen; omega, by rw [List.size_toArray, List.length_map, hl]; show n = n * 1; omega, by rw [List.take_of_length_le]; rw [List.length_map, hl]; show n ≤ n * 1; omega⟩⟩
theorem LS_own_cells {e : TypeId} {w : World} {B n c : Nat} {G : Nat → Prop} {A : Option Addr} {xs : List ByteArray} (h : LS.own e w B G A n c xs) (hn : 0 < n) : ∃ g, A = some ⟨g, 0, none⟩ ∧ g < w.heap.size ∧ (∀ (j : Nat) x, xs[j]? = some x → w.cell? ⟨g, 0 + j, none⟩ = some (.string x)) ∧ n ≤ c := by
  have hc := Lay.own_caps h
  have hl := Lay.own_len h
  have h2 := Lay.own_rd2 (F := fun _ => True) h (fun _ _ => trivial) (fun _ _ _ => trivial)
  have hb := Lay.own_base h
  obtain ⟨_, cs, hr, hrow⟩ := h
  rcases hrow.2 with ⟨_, h9⟩ | ⟨g, cap, cur, e9, hg, hh, _⟩
  · omega
  injection e9 with e1 _ _
  subst e1
  refine ⟨g, rfl, (hb g (by simp [Value.ownBlock])).2, fun j x hx => ?_, hc.1⟩
  have hj : j < n := by
    rcases Nat.lt_or_ge j n with h9 | h9
    · exact h9
    · rw [List.getElem?_eq_none (by omega)] at hx; cases hx
  obtain ⟨ad, y, e8, hy, hcell⟩ := LS_at h2 hj
  injection e8 with e8
  subst e8
  rw [hx] at hy
  injection hy with hy
  subst hy
  rw [Nat.zero_add]
  rw [show (⟨g, 0, none⟩ : Addr).add j = ⟨g, j, none⟩ from by unfold Addr.add; split <;> simp_all] at hcell
  exact hcell
theorem ba_append (a b : List UInt8) : (⟨a.toArray⟩ : ByteArray) ++ (⟨b.toArray⟩ : ByteArray) = ⟨(a ++ b).toArray⟩ := by
  apply ByteArray.ext
  simp
theorem Tryd.strInfo : (Tryd.prog.info? 9).map (fun i => (i.zero, i.size, i.bytes)) = some (some (.string ByteArray.empty), 1, 16) := by kernel_rfl
set_option maxRecDepth 100000 in
set_option maxHeartbeats 16000000 in
theorem line_any (F F2 : Nat → Prop) (t : TC) (A1 : Option Addr) (n1 c1 : Nat) (B1 : Option Addr) (m1 d1 : Nat) (w : World) (h1 : LCO.rd w F A1 n1 t.cols) (h2 : LK.rd w F2 B1 m1 t.keys) (hn : n1 ≤ 4) (hm : m1 ≤ 4)
    (hk : ∀ (j : Nat) (k : Int), t.keys[j]? = some k → 0 ≤ k ∧ k < (n1 : Int)) (hT : Tab w) (hsz : (lineL t).length ≤ 140737488355328) :
    Calls Tryd.prog 50 #[.agg (t.cells A1 n1 c1 B1 m1 d1)] w fun e w' => e = .returned (.string ⟨(lineL t).toArray⟩) ∧ Below w.heap.size w w' := by
  have HL1 := Lib.hid (Lay.rd_len h1)
  have HL2 := Lib.hid (Lay.rd_len h2)
  have HR1 := Lib.hid h1
  have HR2 := Lib.hid h2
  have HK := Lib.hid hk
  have HTB := Lib.hid hT
  have HSZ := Lib.hid hsz
  have HB := Lib.hid (Blk.new w 28 (t.cells A1 n1 c1 B1 m1 d1))
  have y0 := HB.out.cell 0
  have y1 := (HB.out.alloc (.cells #[.string sTable, .string t.name] 9)).cell 1
  have hs1 : (w.alloc (.cells (t.cells A1 n1 c1 B1 m1 d1) 28)).heap.size = w.heap.size + 1 := by simp only [World.size_alloc]
  have HQ2 := Lib.hid (bl_al (bl_al (Below.refl w.heap.size w) (.cells (t.cells A1 n1 c1 B1 m1 d1) 28)) (.cells #[.string sTable, .string t.name] 9))
  have HO := Lib.hid (LS_own_new (w.alloc (.cells (t.cells A1 n1 c1 B1 m1 d1) 28)) 9 (w.heap.size + 1) (fun _ => True) [sTable, t.name] 2 rfl (by omega) (by omega))
  rw [hs1] at HO
  clear h1 h2 hk hT hsz
  go_enter Tryd.func50, Tryd.ntmps50
  go_wp2_with fail
  go_loopg [3, 14] n1 (fun g a b wr => ∃ (i : Nat) (kk : Nat) (A : Option Addr) (c : Nat), i + g = n1 ∧ Hid (kk = 2 + 2 * i) ∧ a = .slice A kk c ∧ b = .int .i64 i ∧ LS.own 9 wr (w.heap.size + 1) (fun _ => True) A kk c (sTable :: t.name :: colsW (t.cols.take i)) ∧ Below w.heap.size w wr ∧ Blk wr w.heap.size 28 (t.cells A1 n1 c1 B1 m1 d1))
  case atStart => exact ⟨0, 2, _, 2, by omega, Lib.hid rfl, rfl, rfl, HO.out, HQ2.out, HB.out.alloc _⟩
  case round =>
    obtain ⟨i, kk, A, c, hig, HKK, rfl, rfl, hown, hbel, hblk⟩ := hrel
    have HOW := Lib.hid hown
    have HBL := Lib.hid hbel
    have HBK := Lib.hid hblk
    have hsz := hbel.size
    clear hown hbel hblk y0 y1 hs1 HQ2 HO HB
    by_cases hlt : i < n1
    · have hi1 : (i : Int) < (n1 : Int) := by omega
      obtain ⟨p, x, hAe, hx, s1⟩ := LCO_at (Lay.rd_below HR1.out HBL.out) hlt
      obtain rfl : A1 = some p := hAe
      have HT := Lib.hid (take_next hx)
      have e0 := s1.c0
      have e1 := s1.c1
      have HB5 := Lib.hid (Blk.new wr 59 x.cells)
      have HQ5 := Lib.hid (bl_al (Below.refl wr.heap.size wr) (.cells x.cells 59))
      have HOW5 := Lib.hid (Lay.own_below HOW.out HQ5.out)
      have HTB5 := Lib.hid ((HTB.out.below HBL.out).below HQ5.out)
      have HBK5 := Lib.hid (HBK.out.alloc (.cells x.cells 59))
      have HBL5 := Lib.hid (bl_ca HBL.out HQ5.out)
      have hs5 : (wr.alloc (.cells x.cells 59)).heap.size = wr.heap.size + 1 := by simp only [World.size_alloc]
      clear hx s1 HOW HBL HBK HQ5
      go_upto_region 5 with fail
      generalize wr.alloc (.cells x.cells 59) = w5 at *
      clear e0 e1
      refine wp_region_ps (S := SeqN [5, 6, 7] (fun z mm w' => match z with | 0 => Below w5.heap.size w5 w' | 1 => Below w5.heap.size w5 w' | 2 => Below w5.heap.size w5 w' ∧ ∃ gb, mm 6 = .slice (some ⟨gb, 0, none⟩) 2 2 ∧ Blk w' gb 9 #[.string x.name, .string (wordS x.kind)] ∧ w5.heap.size ≤ gb | _ => ∃ A6 c6, mm 7 = .slice A6 (kk + 2) c6 ∧ LS.own 9 w' (w.heap.size + 1) (fun _ => True) A6 (kk + 2) c6 ((sTable :: t.name :: colsW (t.cols.take i)) ++ [x.name, wordS x.kind]) ∧ Below w.heap.size w w' ∧ Blk w' w.heap.size 28 (t.cells (some p) n1 c1 B1 m1 d1))) (by kernel_rfl) ?spswg1 ?ppswg1
      case spswg1 =>
        exact SeqN.start (by decide) (Below.refl _ _).drew
      refine Ps.st (i := 0) (d := some 18) (u := (.slice A kk c)) rfl rfl (by exact StepS.pure (SeqN.pass (by decide)) rfl fun _ => rfl) ?_
      try simp only [Act.put, sA, sZ, sS]
      refine Ps.st (i := 1) (d := some 19) (u := (.pointer (some ⟨wr.heap.size, 0, none⟩))) rfl rfl (by exact StepS.pure (SeqN.pass (by decide)) rfl fun _ => rfl) ?_
      try simp only [Act.put, sA, sZ, sS]
      refine Ps.st (i := 2) (d := some 20) (u := (.string x.name)) rfl rfl ?ywg1_4 ?rwg1_4
      case ywg1_4 =>
        refine StepS.read [] (by kernel_rfl) (SeqN.pass (by decide)) (by rfl) (fun L9 m9 w9 hSh hAt hDn hS => ?_)
        have hT : Below w5.heap.size w5 w9 := SeqN.lt (ks := [5, 6, 7]) (k := 7) (by simp) (reach_no hSh (f := 8) (j := 7) (by kernel_rfl) hDn) (fun z _ _ hz h => by match z, hz, h with | 0, _, h => exact h | 1, _, h => exact h | 2, _, h => exact h.1 | _ + 3, hz, _ => exact absurd hz (by simp)) hS
        have x0 : w9.cell? ⟨wr.heap.size, 0, none⟩ = some (.string x.name) := (HB5.out.ca hT).cell 0
        clear hT hS
        go_simp
        try rfl
      try simp only [Act.put, sA, sZ, sS]
      refine Ps.st (i := 3) (d := some 21) (u := (.pointer (some ⟨wr.heap.size, 1, none⟩))) rfl rfl (by exact StepS.pure (SeqN.pass (by decide)) rfl fun _ => rfl) ?_
      try simp only [Act.put, sA, sZ, sS]
      refine Ps.st (i := 4) (d := some 22) (u := (.int .i64 (x.kind))) rfl rfl ?ywg1_6 ?rwg1_6
      case ywg1_6 =>
        refine StepS.read [] (by kernel_rfl) (SeqN.pass (by decide)) (by rfl) (fun L9 m9 w9 hSh hAt hDn hS => ?_)
        have hT : Below w5.heap.size w5 w9 := SeqN.lt (ks := [5, 6, 7]) (k := 7) (by simp) (reach_no hSh (f := 8) (j := 7) (by kernel_rfl) hDn) (fun z _ _ hz h => by match z, hz, h with | 0, _, h => exact h | 1, _, h => exact h | 2, _, h => exact h.1 | _ + 3, hz, _ => exact absurd hz (by simp)) hS
        have x0 : w9.cell? ⟨wr.heap.size, 1, none⟩ = some (.int .i64 (x.kind)) := (HB5.out.ca hT).cell 1
        clear hT hS
        go_simp
        try rfl
      try simp only [Act.put, sA, sZ, sS]
      refine Ps.one (k := 5) (d := some 23) rfl rfl (by kernel_rfl) (TurnS.call (V := fun v => v = .string (wordS x.kind)) ?fwg1_7 ?awg1_7 [] (by kernel_rfl) (by rfl) (fun w9 => ?hwg1_7) (fun L9 m9 w9 hSh hAt hDn hS => ?cwg1_7)) (fun v5 hVv5 => ?rwg1_7)
      case hwg1_7 => go_simp; refine ⟨?_, ?_⟩ <;> rfl
      case cwg1_7 =>
        have hT := SeqN.at_ (m0 := m9) (m1 := m9) [] [6, 7] hSh (fun d hd => by cases hd) hDn (by kernel_rfl) hS
        refine (word_any x.kind w9 (HTB5.out.below hT)).mono ?_
        rintro e w8 ⟨rfl, q8⟩
        exact ⟨_, rfl, rfl, SeqN.set_ (m0 := m9) (m1 := m9) [] [6, 7] hSh (fun d hd => by cases hd) hDn (by kernel_rfl) (by decide) (by decide) (bl_ca hT q8)⟩
      try simp only [Act.put, sA, sZ, sS]
      subst hVv5
      refine Ps.one (k := 6) (d := some 24) rfl rfl (by kernel_rfl) (TurnS.value (V := fun v => ∃ gb, v = .slice (some ⟨gb, 0, none⟩) 2 2) [5] (by kernel_rfl) (by rfl) (fun L9 m9 w9 hSh hAt hDn hS => ?cwg1_8)) (fun v6 hVv6 => ?rwg1_8)
      case cwg1_8 =>
        have hT := SeqN.at_ [5] [7] hSh hAt hDn (by kernel_rfl) hS
        have hsz := hT.size
        have q8 := bl_al (Below.refl w9.heap.size w9) (.cells #[.string x.name, .string (wordS x.kind)] 9)
        refine ⟨.slice (some ⟨w9.heap.size, 0, none⟩) 2 2, w9.alloc (.cells #[.string x.name, .string (wordS x.kind)] 9), ?_, ⟨_, rfl⟩, SeqN.set_ [5] [7] hSh hAt hDn (by kernel_rfl) (by decide) (by decide) ⟨bl_ca hT q8, w9.heap.size, upd_same _ _ _, Blk.new _ _ _, hsz⟩⟩
        clear hT hS q8
        go_simp
      try simp only [Act.put, sA, sZ, sS]
      obtain ⟨gb, rfl⟩ := hVv6
      refine Ps.one (k := 7) (d := some 25) rfl rfl (by kernel_rfl) (TurnS.value (V := fun v => ∃ A6 c6, v = .slice A6 (kk + 2) c6) [5, 6] (by kernel_rfl) (by rfl) (fun L9 m9 w9 hSh hAt hDn hS => ?cwg1_9)) (fun v7 hVv7 => ?rwg1_9)
      case cwg1_9 =>
        obtain ⟨hT, gb2, hv6, hbk, hgb⟩ := SeqN.at_ [5, 6] [] hSh hAt hDn (by kernel_rfl) hS
        obtain rfl : gb = gb2 := by have h9 : Value.slice (some ⟨gb, 0, none⟩) 2 2 = .slice (some ⟨gb2, 0, none⟩) 2 2 := (hAt 6 (by simp)).2.symm.trans hv6; simpa using h9
        have hsz9 := hT.size
        have hob := Lay.own_base HOW5.out
        obtain ⟨A6, c6, w8, hrun, ho6, hgr⟩ := run_appLs (L := LS) (e := 9) (P := Tryd.prog) (w := w9) 103 103 _ 1 16 Tryd.underlying103 Tryd.strInfo rfl rfl (by decide) (w.heap.size + 1) (fun b => b < w9.heap.size) (fun b => b = gb) A kk c (sTable :: t.name :: colsW (t.cols.take i)) (some ⟨gb, 0, none⟩) 2 2 [x.name, wordS x.kind] (LS_own_any (Lay.own_below HOW5.out hT)) (LS_blk hbk rfl rfl) (fun b hb hl => ⟨hl, fun e => by have := hob b e; omega⟩) (fun b hb => hb) (by have := HKK.out; omega) (by have := HKK.out; unfold maxLen; omega) (by omega)
        have hb8 := (bl_ca HBL5.out hT).grown hgr (bl_ca HBL5.out hT).size (fun k e => by have := hob k e; omega)
        have hk8 := (HBK5.out.ca hT).grown hgr (fun e => by have := hob _ e.symm; omega)
        exact ⟨_, w8, exec_append (.tmp 18) (.tmp 24) 103 rfl rfl rfl hrun, ⟨A6, c6, rfl⟩, SeqN.set_ [5, 6] [] hSh hAt hDn (by kernel_rfl) (by decide) (by decide) ⟨A6, c6, upd_same _ _ _, LS_own_any ho6, hb8, hk8⟩⟩
      try simp only [Act.put, sA, sZ, sS]
      obtain ⟨A6, c6, rfl⟩ := hVv7
      refine Ps.st (i := 8) (d := some 3) (u := (.slice A6 (kk + 2) c6)) rfl rfl (by exact StepS.pure (SeqN.pass (by decide)) rfl fun _ => rfl) ?_
      try simp only [Act.put, sA, sZ, sS]
      refine Ps.done (by kernel_rfl) (fun wg1 hS => ?_) _
      obtain ⟨A7, c7, hv, ho, hb6, hk6⟩ := SeqN.fin (by rfl) hS
      clear hS
      obtain ⟨rfl, rfl⟩ : A6 = A7 ∧ c6 = c7 := by have h9 : Value.slice A6 (kk + 2) c6 = .slice A7 (kk + 2) c7 := hv; simpa using h9
      clear hv
      obtain ⟨w6, rfl⟩ : ∃ x, x = wg1 := ⟨_, rfl⟩
      have HO6 := Lib.hid ho
      have HBL6 := Lib.hid hb6
      have HBK6 := Lib.hid hk6
      have hs6 := hb6.size
      clear ho hb6 hk6
      go_wp2_with fail
      go_roundg (gk - 1)
      · exact ⟨i + 1, kk + 2, A6, c6, by omega, Lib.hid (by have := HKK.out; omega), by simp, by go_num, by rw [HT.out, colsW_snoc]; exact HO6.out, HBL6.out, HBK6.out⟩
      · omega
    · obtain rfl : i = n1 := by omega
      have hi1 : (i : Int) ≤ (i : Int) := by omega
      have HTK := Lib.hid (show t.cols.take i = t.cols from List.take_of_length_le (by rw [HL1.out]; exact Nat.le_refl _))
      have HKB := Lib.hid (show kk ≤ 10 from by have := HKK.out; omega)
      have HOW1 : Hid (LS.own 9 wr (w.heap.size + 1) (fun _ => True) A kk c (sTable :: t.name :: colsW t.cols)) := by have h9 := HOW.out; rw [HTK.out] at h9; exact Lib.hid h9
      have z1 := HBK.out.cell 1
      have z2 := HBK.out.cell 2
      clear HTK HOW hlt
      by_cases h0 : m1 = 0
      · subst h0
        have HLW := Lib.hid (show lineW t = sTable :: t.name :: colsW t.cols from by unfold lineW; rw [if_pos HL2.out, List.append_nil])
        have h00 : decide (0 < (0 : Int)) = false := rfl
        go_wp2_with fail
        go_loopg [3, 37] 0 (fun g a b wq => a = .slice A kk c ∧ b = .int .i64 0 ∧ wq = wr)
        case atStart => exact ⟨rfl, rfl, rfl⟩
        case round =>
          obtain ⟨rfl, rfl, rfl⟩ := hrel
          obtain ⟨g9, rfl, hg9, HC9, hcap9⟩ := LS_own_cells HOW1.out (by have := HKK.out; omega)
          have HLN := Lib.hid (Lay.own_len HOW1.out)
          obtain ⟨xs, hxs⟩ : ∃ xs, xs = (sTable :: t.name :: colsW t.cols) := ⟨_, rfl⟩
          rw [← hxs] at HC9 HLN HLW
          have HCC := Lib.hid HC9
          have HRES := Lib.hid (show lineL t = Lib.join (xs.map (·.data.toList)) (⟨#[32]⟩ : ByteArray).data.toList ++ [10] from by unfold lineL; rw [HLW.out])
          have HJL := Lib.hid (show (Lib.join (xs.map (·.data.toList)) (⟨#[32]⟩ : ByteArray).data.toList).length ≤ 140737488355328 from by have h9 := HSZ.out; rw [HRES.out, List.length_append] at h9; omega)
          clear hxs HC9
          go_wp2_with fail
          obtain rfl : kk = xs.length := HLN.out.symm
          refine (Tryd.strings_Join g9 0 c xs ⟨#[32]⟩ _ HCC.out hg9 (by have := HKB.out; omega) hcap9 HJL.out).mono ?_
          rintro e w8 ⟨rfl, q8⟩
          have HQ8 := Lib.hid (bl_ca HBL.out q8)
          clear q8
          obtain ⟨J, hJ⟩ : ∃ J, J = Lib.join (xs.map (·.data.toList)) (⟨#[32]⟩ : ByteArray).data.toList := ⟨_, rfl⟩
          rw [← hJ] at HRES ⊢
          have hJ2 : ¬ (9223372036854775807 < J.length + 1) := by have h9 := HJL.out; rw [← hJ] at h9; omega
          clear hJ
          go_wp2
          go_ret
          exact ⟨by rw [HRES.out, ← ba_append]; rfl, HQ8.out⟩
      · have h00 : decide (0 < (m1 : Int)) = true := by simp; omega
        have HLW := Lib.hid (show lineW t = (sTable :: t.name :: colsW t.cols) ++ sBy :: keysW t t.keys from by unfold lineW; rw [if_neg (by rw [HL2.out]; exact h0)])
        have qy := bl_al (Below.refl wr.heap.size wr) (.cells #[.string sBy] 9)
        have HOY := Lib.hid (LS_own_any (G' := fun b => b < wr.heap.size + 1) (Lay.own_below HOW1.out qy))
        have HRY := Lib.hid (LS_blk (F := fun b => b = wr.heap.size) (n := 1) (l := [sBy]) (Blk.new wr 9 #[.string sBy]) rfl rfl)
        have HBY := Lib.hid (bl_ca HBL.out qy)
        have HKY := Lib.hid (HBK.out.alloc (.cells #[.string sBy] 9))
        have HOB := Lib.hid (fun k e => Lay.own_base HOW1.out k e)
        clear qy HOW1 HBL HBK
        clear z1
        go_wp2_with (at_builtin; refine wpList_appLs (L := LS) rfl (.tmp 31) (.tmp 32) 103 rfl _ 1 16 Tryd.underlying103 Tryd.strInfo rfl rfl (by omega) (w.heap.size + 1) (fun b => b < wr.heap.size + 1) (fun b => b = wr.heap.size) A kk c (sTable :: t.name :: colsW t.cols) (some ⟨wr.heap.size, 0, none⟩) 1 1 [sBy] (kk + 1) rfl rfl rfl HOY.out HRY.out (fun b hb _ => ⟨by omega, fun e => by have h9 := HOB.out b e; omega⟩) (fun b hb => by simp only [World.size_alloc]; omega) (by have := HKB.out; omega) (by have := HKB.out; unfold maxLen; omega) (by simp only [World.size_alloc]; omega) ?_; intro A9 c9 w9 ho9 hg9 hat9; have HBL9 := Lib.hid (HBY.out.grown hg9 HBY.out.size (fun k e => by have h9 := HOB.out k e; omega)); have HOW9 := Lib.hid (LS_own_any (G' := fun _ => True) ho9); have HBK9 := Lib.hid (HKY.out.grown hg9 (fun e => by have h9 := HOB.out _ e.symm; omega)); clear ho9 hg9 hat9; have z1 := HBK9.out.cell 1; have z2 := HBK9.out.cell 2)
        clear z1 z2 HOY HRY HBY HKY
        go_loopg [3, 37] m1 (fun g a b wq => ∃ (j : Nat) (k2 : Nat) (A : Option Addr) (c : Nat), j + g = m1 ∧ Hid (k2 = kk + 1 + j) ∧ a = .slice A k2 c ∧ b = .int .i64 j ∧ LS.own 9 wq (w.heap.size + 1) (fun _ => True) A k2 c ((sTable :: t.name :: colsW t.cols) ++ sBy :: keysW t (t.keys.take j)) ∧ Below w.heap.size w wq ∧ Blk wq w.heap.size 28 (t.cells A1 i c1 B1 m1 d1))
        case atStart => exact ⟨0, kk + 1, A9, c9, by omega, Lib.hid rfl, rfl, rfl, HOW9.out, HBL9.out, HBK9.out⟩
        case round =>
          obtain ⟨j, k2, A2, c2, hjg, HK2, rfl, rfl, hown, hbel, hblk⟩ := hrel
          have HOW := Lib.hid hown
          have HBL := Lib.hid hbel
          have HBK := Lib.hid hblk
          have hszq := hbel.size
          have HKB2 := Lib.hid (show k2 ≤ 15 from by have := HK2.out; have := HKB.out; omega)
          clear hown hbel hblk HOW9 HBL9 HBK9 HOB
          by_cases hlt : j < m1
          · have hj1 : (j : Int) < (m1 : Int) := by omega
            obtain ⟨p, k, hBe, hx, s1⟩ := LK_at (Lay.rd_below HR2.out HBL.out) hlt
            obtain rfl : B1 = some p := hBe
            have HT := Lib.hid (take_next hx)
            obtain ⟨hk0, hk1⟩ := HK.out j k hx
            obtain ⟨kn, rfl⟩ : ∃ kn : Nat, k = (kn : Int) := ⟨k.toNat, by omega⟩
            have hkn : kn < i := by omega
            obtain ⟨p2, x, hAe, hx2, s2⟩ := LCO_at (Lay.rd_below HR1.out HBL.out) hkn
            obtain rfl : A1 = some p2 := hAe
            have HNA := Lib.hid (show nameAt t (kn : Int) = x.name from by unfold nameAt; rw [Int.toNat_natCast, hx2]; rfl)
            have e0 := s2.c0
            have z1 := HBK.out.cell 1
            have qy := bl_al (Below.refl wr.heap.size wr) (.cells #[.string x.name] 9)
            have HOY := Lib.hid (LS_own_any (G' := fun b => b < wr.heap.size + 1) (Lay.own_below HOW.out qy))
            have HRY := Lib.hid (LS_blk (F := fun b => b = wr.heap.size) (n := 1) (l := [x.name]) (Blk.new wr 9 #[.string x.name]) rfl rfl)
            have HBY := Lib.hid (bl_ca HBL.out qy)
            have HKY := Lib.hid (HBK.out.alloc (.cells #[.string x.name] 9))
            have HOB := Lib.hid (fun k e => Lay.own_base HOW.out k e)
            clear qy HOW HBL HBK hx hx2 s2 hk0
            go_wp2_with (at_builtin; refine wpList_appLs (L := LS) rfl (.tmp 41) (.tmp 48) 103 rfl _ 1 16 Tryd.underlying103 Tryd.strInfo rfl rfl (by omega) (w.heap.size + 1) (fun b => b < wr.heap.size + 1) (fun b => b = wr.heap.size) A2 k2 c2 ((sTable :: t.name :: colsW t.cols) ++ sBy :: keysW t (t.keys.take j)) (some ⟨wr.heap.size, 0, none⟩) 1 1 [x.name] (k2 + 1) rfl rfl rfl HOY.out HRY.out (fun b hb _ => ⟨by omega, fun e => by have h9 := HOB.out b e; omega⟩) (fun b hb => by simp only [World.size_alloc]; omega) (by have := HKB2.out; omega) (by have := HKB2.out; unfold maxLen; omega) (by simp only [World.size_alloc]; omega) ?_; intro A9 c9 w9 ho9 hg9 hat9; have HBL9 := Lib.hid (HBY.out.grown hg9 HBY.out.size (fun k e => by have h9 := HOB.out k e; omega)); have HOW9 := Lib.hid (LS_own_any (G' := fun _ => True) ho9); have HBK9 := Lib.hid (HKY.out.grown hg9 (fun e => by have h9 := HOB.out _ e.symm; omega)); clear ho9 hg9 hat9)
            go_roundg (gk - 1)
            · exact ⟨j + 1, k2 + 1, A9, c9, by omega, Lib.hid (by have := HK2.out; omega), rfl, by go_num, by rw [HT.out, keysW_snoc, HNA.out]; have h9 := HOW9.out; rw [List.append_assoc] at h9; exact h9, HBL9.out, HBK9.out⟩
            · omega
          · obtain rfl : j = m1 := by omega
            have HTK := Lib.hid (show t.keys.take j = t.keys from List.take_of_length_le (by rw [HL2.out]; exact Nat.le_refl _))
            have HOWZ : Hid (LS.own 9 wr (w.heap.size + 1) (fun _ => True) A2 k2 c2 ((sTable :: t.name :: colsW t.cols) ++ sBy :: keysW t t.keys)) := by have h9 := HOW.out; rw [HTK.out] at h9; exact Lib.hid h9
            have hj1 : (j : Int) ≤ (j : Int) := by omega
            obtain ⟨g9, rfl, hg9, HC9, hcap9⟩ := LS_own_cells HOWZ.out (by have := HK2.out; omega)
            have HLN := Lib.hid (Lay.own_len HOWZ.out)
            obtain ⟨xs, hxs⟩ : ∃ xs, xs = ((sTable :: t.name :: colsW t.cols) ++ sBy :: keysW t t.keys) := ⟨_, rfl⟩
            rw [← hxs] at HC9 HLN HLW
            have HCC := Lib.hid HC9
            have HRES := Lib.hid (show lineL t = Lib.join (xs.map (·.data.toList)) (⟨#[32]⟩ : ByteArray).data.toList ++ [10] from by unfold lineL; rw [HLW.out])
            have HJL := Lib.hid (show (Lib.join (xs.map (·.data.toList)) (⟨#[32]⟩ : ByteArray).data.toList).length ≤ 140737488355328 from by have h9 := HSZ.out; rw [HRES.out, List.length_append] at h9; omega)
            clear hxs HC9
            go_wp2_with fail
            obtain rfl : k2 = xs.length := HLN.out.symm
            refine (Tryd.strings_Join g9 0 c2 xs ⟨#[32]⟩ _ HCC.out hg9 (by have := HKB2.out; omega) hcap9 HJL.out).mono ?_
            rintro e w8 ⟨rfl, q8⟩
            have HQ8 := Lib.hid (bl_ca HBL.out q8)
            clear q8
            obtain ⟨J, hJ⟩ : ∃ J, J = Lib.join (xs.map (·.data.toList)) (⟨#[32]⟩ : ByteArray).data.toList := ⟨_, rfl⟩
            rw [← hJ] at HRES ⊢
            have hJ2 : ¬ (9223372036854775807 < J.length + 1) := by have h9 := HJL.out; rw [← hJ] at h9; omega
            clear hJ
            go_wp2
            go_ret
            exact ⟨by rw [HRES.out, ← ba_append]; rfl, HQ8.out⟩
end Go.Proofs.YthgcdilkkldgjaaDoor
