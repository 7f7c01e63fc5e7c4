/- A text's lines, in plain Lean: cut behind each line feed. Conditions: none. -/
import Derived.Test.YthgcdilkkldgjaaGreatDoorPkC10
import Derived.Lib.Builder
import Derived.Lib.UnsafeStr
import Derived.Lib.Strings
import Derived.Lib.AppendStr
import Derived.Laws.Externs
namespace Go.Proofs.YthgcdilkkldgjaaGreatDoor
/-- a text, cut behind each line feed; the last piece has none -/
def pcs : List UInt8 → List (List UInt8)
  | [] => [[]]
  | b :: r => if b = 10 then [b] :: pcs r else (b :: (pcs r).headD []) :: (pcs r).tail
theorem pcs_ne : ∀ (l : List UInt8), pcs l ≠ []
  | [] => by simp [pcs]
  | b :: r => by
    unfold pcs
    split <;> simp
theorem pcs_cons (l : List UInt8) : ∃ p ps, pcs l = p :: ps := by
  cases h : pcs l with
  | nil => exact absurd h (pcs_ne l)
  | cons p ps => exact ⟨p, ps, rfl⟩
theorem idxB_range : ∀ (l : List UInt8) (c : UInt8), Lib.indexByte l c = -1 ∨ ∃ i : Nat, Lib.indexByte l c = (i : Int) ∧ i < l.length
  | [], _ => .inl rfl
  | b :: r, c => by
    unfold Lib.indexByte
    by_cases h : b = c
    · rw [if_pos (by simp [h])]
      exact .inr ⟨0, rfl, by simp⟩
    · rw [if_neg (by simp [h])]
      rcases idxB_range r c with e | ⟨i, e, hi⟩
      · rw [e]; exact .inl rfl
      · rw [e, if_neg (by simp)]
        exact .inr ⟨i + 1, by omega, by simp; omega⟩
theorem pcs_none : ∀ (l : List UInt8), Lib.indexByte l 10 = -1 → pcs l = [l]
  | [], _ => rfl
  | b :: r, h => by
    unfold Lib.indexByte at h
    by_cases hb : b = 10
    · rw [if_pos (by simp [hb])] at h; cases h
    · rw [if_neg (by simp [hb])] at h
      have hr : Lib.indexByte r 10 = -1 := by
        rcases idxB_range r 10 with e | ⟨i, e, _⟩
        · exact e
        · rw [e, if_neg (by simp)] at h; omega
      unfold pcs
      rw [if_neg hb, pcs_none r hr]
      rfl
theorem pcs_some : ∀ (l : List UInt8) (i : Nat), Lib.indexByte l 10 = (i : Int) → pcs l = l.take (i + 1) :: pcs (l.drop (i + 1))
  | [], i, h => by cases h
  | b :: r, i, h => by
    unfold Lib.indexByte at h
    by_cases hb : b = 10
    · rw [if_pos (by simp [hb])] at h
      obtain rfl : i = 0 := by omega
      conv => lhs; unfold pcs
      rw [if_pos hb]
      rfl
    · rw [if_neg (by simp [hb])] at h
      rcases idxB_range r 10 with e | ⟨k, e, _⟩
      · rw [e, if_pos (by rfl)] at h; omega
      · rw [e, if_neg (by simp)] at h
        obtain rfl : i = k + 1 := by omega
        conv => lhs; unfold pcs
        rw [if_neg hb, pcs_some r k e]
        rfl
/-- the lines: the pieces up to an empty one, with their places -/
def linesAt : Nat → List (List UInt8) → List (Nat × List UInt8)
  | _, [] => []
  | at_, p :: ps => if p = [] then [] else (at_, p) :: linesAt (at_ + p.length) ps
theorem pcs_flat : ∀ (l : List UInt8), (pcs l).flatten = l
  | [] => rfl
  | b :: r => by
    unfold pcs
    obtain ⟨p, ps, e⟩ := pcs_cons r
    have h := pcs_flat r
    rw [e] at h
    split
    · rw [e, List.flatten_cons, h]; rfl
    · rw [e]
      simp only [List.headD_cons, List.tail_cons, List.flatten_cons, List.cons_append]
      rw [← List.flatten_cons, h]
end Go.Proofs.YthgcdilkkldgjaaGreatDoor
/- The layer's line. Conditions: the slices read so; the keys lie within the columns; what the tables hold; the line is not endless. -/
namespace Go.Proofs.YthgcdilkkldgjaaGreatDoor
open Go.RowKit
def sTable : ByteArray := ⟨#[116, 97, 98, 108, 101]⟩
def sBy : ByteArray := ⟨#[98, 121]⟩
noncomputable def colW (c : CO) : List ByteArray := [c.name, wordS c.kind]
def nameAt (t : TC) (k : Int) : ByteArray := ((t.cols[k.toNat]?).map CO.name).getD ⟨#[]⟩
noncomputable def colsW (l : List CO) : List ByteArray := l.flatMap colW
def keysW (t : TC) (l : List Int) : List ByteArray := l.map (nameAt t)
noncomputable def lineW (t : TC) : List ByteArray := (sTable :: t.name :: colsW t.cols) ++ (if t.keys.length = 0 then [] else sBy :: keysW t t.keys)
noncomputable def lineL (t : TC) : List UInt8 := Lib.join ((lineW t).map (·.data.toList)) [32] ++ [10]
theorem colsW_snoc (l : List CO) (c : CO) : colsW (l ++ [c]) = colsW l ++ [c.name, wordS c.kind] := by unfold colsW; rw [List.flatMap_append]; rfl
theorem colsW_len (l : List CO) : (colsW l).length = 2 * l.length := by
  induction l with
  | nil => rfl
  | cons c l ih => show (colW c ++ colsW l).length = _; rw [List.length_append, ih]; show 2 + _ = 2 * (l.length + 1); omega
theorem keysW_snoc (t : TC) (l : List Int) (k : Int) : keysW t (l ++ [k]) = keysW t l ++ [nameAt t k] := by unfold keysW; rw [List.map_append]; rfl
theorem LS_reps_any {w : World} {F F' : Nat → Prop} : ∀ {xs : List ByteArray} {cs : List Value}, LS.reps w F xs cs → LS.reps w F' xs cs
  | [], _, h => h
  | _ :: _, _, ⟨c, d, e, hx, hr⟩ => ⟨c, d, e, hx, LS_reps_any hr⟩
theorem LS_own_any {e : TypeId} {w : World} {B n c : Nat} {G G' : Nat → Prop} {A : Option Addr} {xs : List ByteArray} (h : LS.own e w B G A n c xs) : LS.own e w B G' A n c xs := by
  obtain ⟨hl, cs, hr, ho⟩ := h
  exact ⟨hl, cs, LS_reps_any hr, ho⟩
theorem LS_own_new (w : World) (e : TypeId) (B : Nat) (G : Nat → Prop) (l : List ByteArray) (n : Nat) (hl : l.length = n) (hn : n ≤ 1000) (hB : B ≤ w.heap.size) : LS.own e (w.alloc (.cells (l.map fun s => Value.string s).toArray e)) B G (some ⟨w.heap.size, 0, none⟩) n n l :=
  ⟨hl, l.map fun s => .string s, LS_reps l, by rw [List.length_map, hl]; show n = n * 1; omega, .inr ⟨w.heap.size, n, (l.map fun s => Value.string s).toArray, rfl, hB, heap_alloc_new w _, Nat.le_refl _, by unfold maxLen; omega, by rw [List.size_toArray, List.length_map, hl]; show n = n * 1; omega, by rw [List.take_of_length_le]; rw [List.length_map, hl]; show n ≤ n * 1; omega⟩⟩
theorem LS_own_cells {e : TypeId} {w : World} {B n c : Nat} {G : Nat → Prop} {A : Option Addr} {xs : List ByteArray} (h : LS.own e w B G A n c xs) (hn : 0 < n) : ∃ g, A = some ⟨g, 0, none⟩ ∧ g < w.heap.size ∧ (∀ (j : Nat) x, xs[j]? = some x → w.cell? ⟨g, 0 + j, none⟩ = some (.string x)) ∧ n ≤ c := by
  have hc := Lay.own_caps h
  have hl := Lay.own_len h
  have h2 := Lay.own_rd2 (F := fun _ => True) h (fun _ _ => trivial) (fun _ _ _ => trivial)
  have hb := Lay.own_base h
  obtain ⟨_, cs, hr, hrow⟩ := h
  rcases hrow.2 with ⟨_, h9⟩ | ⟨g, cap, cur, e9, hg, hh, _⟩
  · omega
  injection e9 with e1 _ _
  subst e1
  refine ⟨g, rfl, (hb g (by simp [Value.ownBlock])).2, fun j x hx => ?_, hc.1⟩
  have hj : j < n := by
    rcases Nat.lt_or_ge j n with h9 | h9
    · exact h9
    · rw [List.getElem?_eq_none (by omega)] at hx; cases hx
  obtain ⟨ad, y, e8, hy, hcell⟩ := LS_at h2 hj
  injection e8 with e8
  subst e8
  rw [hx] at hy
  injection hy with hy
  subst hy
  rw [Nat.zero_add]
  rw [show (⟨g, 0, none⟩ : Addr).add j = ⟨g, j, none⟩ from by unfold Addr.add; split <;> simp_all] at hcell
  exact hcell
theorem ba_append (a b : List UInt8) : (⟨a.toArray⟩ : ByteArray) ++ (⟨b.toArray⟩ : ByteArray) = ⟨(a ++ b).toArray⟩ := by
  apply ByteArray.ext
  simp
theorem Tryz.strInfo : (Tryz.prog.info? 9).map (fun i => (i.zero, i.size, i.bytes)) = some (some (.string ByteArray.empty), 1, 16) := by kernel_rfl
set_option maxRecDepth 100000 in
set_option maxHeartbeats 16000000 in
theorem line_any (F F2 : Nat → Prop) (t : TC) (A1 : Option Addr) (n1 c1 : Nat) (B1 : Option Addr) (m1 d1 : Nat) (w : World) (h1 : LCO.rd w F A1 n1 t.cols) (h2 : LK.rd w F2 B1 m1 t.keys) (hn : n1 ≤ 4) (hm : m1 ≤ 4)
    (hk : ∀ (j : Nat) (k : Int), t.keys[j]? = some k → 0 ≤ k ∧ k < (n1 : Int)) (hT : Tab w) (hsz : (lineL t).length ≤ 140737488355328) :
    Calls Tryz.prog 19 #[.agg (t.cells A1 n1 c1 B1 m1 d1)] w fun e w' => e = .returned (.string ⟨(lineL t).toArray⟩) ∧ Below w.heap.size w w' := by
  have HL1 := Lib.hid (Lay.rd_len h1)
  have HL2 := Lib.hid (Lay.rd_len h2)
  have HR1 := Lib.hid h1
  have HR2 := Lib.hid h2
  have HK := Lib.hid hk
  have HTB := Lib.hid hT
  have HSZ := Lib.hid hsz
  have HB := Lib.hid (Blk.new w 41 (t.cells A1 n1 c1 B1 m1 d1))
  have y0 := HB.out.cell 0
  have y1 := (HB.out.alloc (.cells #[.string sTable, .string t.name] 9)).cell 1
  have hs1 : (w.alloc (.cells (t.cells A1 n1 c1 B1 m1 d1) 41)).heap.size = w.heap.size + 1 := by simp only [World.size_alloc]
  have HQ2 := Lib.hid (bl_al (bl_al (Below.refl w.heap.size w) (.cells (t.cells A1 n1 c1 B1 m1 d1) 41)) (.cells #[.string sTable, .string t.name] 9))
  have HO := Lib.hid (LS_own_new (w.alloc (.cells (t.cells A1 n1 c1 B1 m1 d1) 41)) 9 (w.heap.size + 1) (fun _ => True) [sTable, t.name] 2 rfl (by omega) (by omega))
  rw [hs1] at HO
  clear h1 h2 hk hT hsz
  go_enter Tryz.func19, Tryz.ntmps19
  go_wp2_with fail
  go_loopg [3, 14] n1 (fun g a b wr => ∃ (i : Nat) (kk : Nat) (A : Option Addr) (c : Nat), i + g = n1 ∧ Hid (kk = 2 + 2 * i) ∧ a = .slice A kk c ∧ b = .int .i64 i ∧ LS.own 9 wr (w.heap.size + 1) (fun _ => True) A kk c (sTable :: t.name :: colsW (t.cols.take i)) ∧ Below w.heap.size w wr ∧ Blk wr w.heap.size 41 (t.cells A1 n1 c1 B1 m1 d1))
  case atStart => exact ⟨0, 2, _, 2, by omega, Lib.hid rfl, rfl, rfl, HO.out, HQ2.out, HB.out.alloc _⟩
  case round =>
    obtain ⟨i, kk, A, c, hig, HKK, rfl, rfl, hown, hbel, hblk⟩ := hrel
    have HOW := Lib.hid hown
    have HBL := Lib.hid hbel
    have HBK := Lib.hid hblk
    have hsz := hbel.size
    clear hown hbel hblk y0 y1 hs1 HQ2 HO HB
    by_cases hlt : i < n1
    · have hi1 : (i : Int) < (n1 : Int) := by omega
      obtain ⟨p, x, hAe, hx, s1⟩ := LCO_at (Lay.rd_below HR1.out HBL.out) hlt
      obtain rfl : A1 = some p := hAe
      have HT := Lib.hid (take_next hx)
      have e0 := s1.c0
      have e1 := s1.c1
      have HB5 := Lib.hid (Blk.new wr 71 x.cells)
      have HQ5 := Lib.hid (bl_al (Below.refl wr.heap.size wr) (.cells x.cells 71))
      have HOW5 := Lib.hid (Lay.own_below HOW.out HQ5.out)
      have HTB5 := Lib.hid ((HTB.out.below HBL.out).below HQ5.out)
      have HBK5 := Lib.hid (HBK.out.alloc (.cells x.cells 71))
      have HBL5 := Lib.hid (bl_ca HBL.out HQ5.out)
      have hs5 : (wr.alloc (.cells x.cells 71)).heap.size = wr.heap.size + 1 := by simp only [World.size_alloc]
      clear hx s1 HOW HBL HBK HQ5
      go_upto_region 5 with fail
      generalize wr.alloc (.cells x.cells 71) = w5 at *
      clear e0 e1
      refine wp_region_ps (S := SeqN [5, 6, 7] (fun z mm w' => match z with | 0 => Below w5.heap.size w5 w' | 1 => Below w5.heap.size w5 w' | 2 => Below w5.heap.size w5 w' ∧ ∃ gb, mm 6 = .slice (some ⟨gb, 0, none⟩) 2 2 ∧ Blk w' gb 9 #[.string x.name, .string (wordS x.kind)] ∧ w5.heap.size ≤ gb | _ => ∃ A6 c6, mm 7 = .slice A6 (kk + 2) c6 ∧ LS.own 9 w' (w.heap.size + 1) (fun _ => True) A6 (kk + 2) c6 ((sTable :: t.name :: colsW (t.cols.take i)) ++ [x.name, wordS x.kind]) ∧ Below w.heap.size w w' ∧ Blk w' w.heap.size 41 (t.cells (some p) n1 c1 B1 m1 d1))) (by kernel_rfl) ?spswg1 ?ppswg1
      case spswg1 =>
        exact SeqN.start (by decide) (Below.refl _ _).drew
      refine Ps.st (i := 0) (d := some 18) (u := (.slice A kk c)) rfl rfl (by exact StepS.pure (SeqN.pass (by decide)) rfl fun _ => rfl) ?_
      try simp only [Act.put, sA, sZ, sS]
      refine Ps.st (i := 1) (d := some 19) (u := (.pointer (some ⟨wr.heap.size, 0, none⟩))) rfl rfl (by exact StepS.pure (SeqN.pass (by decide)) rfl fun _ => rfl) ?_
      try simp only [Act.put, sA, sZ, sS]
      refine Ps.st (i := 2) (d := some 20) (u := (.string x.name)) rfl rfl ?ywg1_4 ?rwg1_4
      case ywg1_4 =>
        refine StepS.read [] (by kernel_rfl) (SeqN.pass (by decide)) (by rfl) (fun L9 m9 w9 hSh hAt hDn hS => ?_)
        have hT : Below w5.heap.size w5 w9 := SeqN.lt (ks := [5, 6, 7]) (k := 7) (by simp) (reach_no hSh (f := 8) (j := 7) (by kernel_rfl) hDn) (fun z _ _ hz h => by match z, hz, h with | 0, _, h => exact h | 1, _, h => exact h | 2, _, h => exact h.1 | _ + 3, hz, _ => exact absurd hz (by simp)) hS
        have x0 : w9.cell? ⟨wr.heap.size, 0, none⟩ = some (.string x.name) := (HB5.out.ca hT).cell 0
        clear hT hS
        go_simp
        try rfl
      try simp only [Act.put, sA, sZ, sS]
      refine Ps.st (i := 3) (d := some 21) (u := (.pointer (some ⟨wr.heap.size, 1, none⟩))) rfl rfl (by exact StepS.pure (SeqN.pass (by decide)) rfl fun _ => rfl) ?_
      try simp only [Act.put, sA, sZ, sS]
      refine Ps.st (i := 4) (d := some 22) (u := (.int .i64 (x.kind))) rfl rfl ?ywg1_6 ?rwg1_6
      case ywg1_6 =>
        refine StepS.read [] (by kernel_rfl) (SeqN.pass (by decide)) (by rfl) (fun L9 m9 w9 hSh hAt hDn hS => ?_)
        have hT : Below w5.heap.size w5 w9 := SeqN.lt (ks := [5, 6, 7]) (k := 7) (by simp) (reach_no hSh (f := 8) (j := 7) (by kernel_rfl) hDn) (fun z _ _ hz h => by match z, hz, h with | 0, _, h => exact h | 1, _, h => exact h | 2, _, h => exact h.1 | _ + 3, hz, _ => exact absurd hz (by simp)) hS
        have x0 : w9.cell? ⟨wr.heap.size, 1, none⟩ = some (.int .i64 (x.kind)) := (HB5.out.ca hT).cell 1
        clear hT hS
        go_simp
        try rfl
      try simp only [Act.put, sA, sZ, sS]
      refine Ps.one (k := 5) (d := some 23) rfl rfl (by kernel_rfl) (TurnS.call (V := fun v => v = .string (wordS x.kind)) ?fwg1_7 ?awg1_7 [] (by kernel_rfl) (by rfl) (fun w9 => ?hwg1_7) (fun L9 m9 w9 hSh hAt hDn hS => ?cwg1_7)) (fun v5 hVv5 => ?rwg1_7)
      case hwg1_7 => go_simp; refine ⟨?_, ?_⟩ <;> rfl
      case cwg1_7 =>
        have hT := SeqN.at_ (m0 := m9) (m1 := m9) [] [6, 7] hSh (fun d hd => by cases hd) hDn (by kernel_rfl) hS
        refine (word_any x.kind w9 (HTB5.out.below hT)).mono ?_
        rintro e w8 ⟨rfl, q8⟩
        exact ⟨_, rfl, rfl, SeqN.set_ (m0 := m9) (m1 := m9) [] [6, 7] hSh (fun d hd => by cases hd) hDn (by kernel_rfl) (by decide) (by decide) (bl_ca hT q8)⟩
      try simp only [Act.put, sA, sZ, sS]
      subst hVv5
      refine Ps.one (k := 6) (d := some 24) rfl rfl (by kernel_rfl) (TurnS.value (V := fun v => ∃ gb, v = .slice (some ⟨gb, 0, none⟩) 2 2) [5] (by kernel_rfl) (by rfl) (fun L9 m9 w9 hSh hAt hDn hS => ?cwg1_8)) (fun v6 hVv6 => ?rwg1_8)
      case cwg1_8 =>
        have hT := SeqN.at_ [5] [7] hSh hAt hDn (by kernel_rfl) hS
        have hsz := hT.size
        have q8 := bl_al (Below.refl w9.heap.size w9) (.cells #[.string x.name, .string (wordS x.kind)] 9)
        refine ⟨.slice (some ⟨w9.heap.size, 0, none⟩) 2 2, w9.alloc (.cells #[.string x.name, .string (wordS x.kind)] 9), ?_, ⟨_, rfl⟩, SeqN.set_ [5] [7] hSh hAt hDn (by kernel_rfl) (by decide) (by decide) ⟨bl_ca hT q8, w9.heap.size, upd_same _ _ _, Blk.new _ _ _, hsz⟩⟩
        clear hT hS q8
        go_simp
      try simp only [Act.put, sA, sZ, sS]
      obtain ⟨gb, rfl⟩ := hVv6
      refine Ps.one (k := 7) (d := some 25) rfl rfl (by kernel_rfl) (TurnS.value (V := fun v => ∃ A6 c6, v = .slice A6 (kk + 2) c6) [5, 6] (by kernel_rfl) (by rfl) (fun L9 m9 w9 hSh hAt hDn hS => ?cwg1_9)) (fun v7 hVv7 => ?rwg1_9)
      case cwg1_9 =>
        obtain ⟨hT, gb2, hv6, hbk, hgb⟩ := SeqN.at_ [5, 6] [] hSh hAt hDn (by kernel_rfl) hS
        obtain rfl : gb = gb2 := by have h9 : Value.slice (some ⟨gb, 0, none⟩) 2 2 = .slice (some ⟨gb2, 0, none⟩) 2 2 := (hAt 6 (by simp)).2.symm.trans hv6; simpa using h9
        have hsz9 := hT.size
        have hob := Lay.own_base HOW5.out
        obtain ⟨A6, c6, w8, hrun, ho6, hgr⟩ := run_appLs (L := LS) (e := 9) (P := Tryz.prog) (w := w9) 76 76 _ 1 16 Tryz.underlying76 Tryz.strInfo rfl rfl (by decide) (w.heap.size + 1) (fun b => b < w9.heap.size) (fun b => b = gb) A kk c (sTable :: t.name :: colsW (t.cols.take i)) (some ⟨gb, 0, none⟩) 2 2 [x.name, wordS x.kind] (LS_own_any (Lay.own_below HOW5.out hT)) (LS_blk hbk rfl rfl) (fun b hb hl => ⟨hl, fun e => by have := hob b e; omega⟩) (fun b hb => hb) (by have := HKK.out; omega) (by have := HKK.out; unfold maxLen; omega) (by omega)
        have hb8 := (bl_ca HBL5.out hT).grown hgr (bl_ca HBL5.out hT).size (fun k e => by have := hob k e; omega)
        have hk8 := (HBK5.out.ca hT).grown hgr (fun e => by have := hob _ e.symm; omega)
        exact ⟨_, w8, exec_append (.tmp 18) (.tmp 24) 76 rfl rfl rfl hrun, ⟨A6, c6, rfl⟩, SeqN.set_ [5, 6] [] hSh hAt hDn (by kernel_rfl) (by decide) (by decide) ⟨A6, c6, upd_same _ _ _, LS_own_any ho6, hb8, hk8⟩⟩
      try simp only [Act.put, sA, sZ, sS]
      obtain ⟨A6, c6, rfl⟩ := hVv7
      refine Ps.st (i := 8) (d := some 3) (u := (.slice A6 (kk + 2) c6)) rfl rfl (by exact StepS.pure (SeqN.pass (by decide)) rfl fun _ => rfl) ?_
      try simp only [Act.put, sA, sZ, sS]
      refine Ps.done (by kernel_rfl) (fun wg1 hS => ?_) _
      obtain ⟨A7, c7, hv, ho, hb6, hk6⟩ := SeqN.fin (by rfl) hS
      clear hS
      obtain ⟨rfl, rfl⟩ : A6 = A7 ∧ c6 = c7 := by have h9 : Value.slice A6 (kk + 2) c6 = .slice A7 (kk + 2) c7 := hv; simpa using h9
      clear hv
      obtain ⟨w6, rfl⟩ : ∃ x, x = wg1 := ⟨_, rfl⟩
      have HO6 := Lib.hid ho
      have HBL6 := Lib.hid hb6
      have HBK6 := Lib.hid hk6
      have hs6 := hb6.size
      clear ho hb6 hk6
      go_wp2_with fail
      go_roundg (gk - 1)
      · exact ⟨i + 1, kk + 2, A6, c6, by omega, Lib.hid (by have := HKK.out; omega), by simp, by go_num, by rw [HT.out, colsW_snoc]; exact HO6.out, HBL6.out, HBK6.out⟩
      · omega
    · obtain rfl : i = n1 := by omega
      have hi1 : (i : Int) ≤ (i : Int) := by omega
      have HTK := Lib.hid (show t.cols.take i = t.cols from List.take_of_length_le (by rw [HL1.out]; exact Nat.le_refl _))
      have HKB := Lib.hid (show kk ≤ 10 from by have := HKK.out; omega)
      have HOW1 : Hid (LS.own 9 wr (w.heap.size + 1) (fun _ => True) A kk c (sTable :: t.name :: colsW t.cols)) := by have h9 := HOW.out; rw [HTK.out] at h9; exact Lib.hid h9
      have z1 := HBK.out.cell 1
      have z2 := HBK.out.cell 2
      clear HTK HOW hlt
      by_cases h0 : m1 = 0
      · subst h0
        have HLW := Lib.hid (show lineW t = sTable :: t.name :: colsW t.cols from by unfold lineW; rw [if_pos HL2.out, List.append_nil])
        have h00 : decide (0 < (0 : Int)) = false := rfl
        go_wp2_with fail
        go_loopg [3, 37] 0 (fun g a b wq => a = .slice A kk c ∧ b = .int .i64 0 ∧ wq = wr)
        case atStart => exact ⟨rfl, rfl, rfl⟩
        case round =>
          obtain ⟨rfl, rfl, rfl⟩ := hrel
          obtain ⟨g9, rfl, hg9, HC9, hcap9⟩ := LS_own_cells HOW1.out (by have := HKK.out; omega)
          have HLN := Lib.hid (Lay.own_len HOW1.out)
          obtain ⟨xs, hxs⟩ : ∃ xs, xs = (sTable :: t.name :: colsW t.cols) := ⟨_, rfl⟩
          rw [← hxs] at HC9 HLN HLW
          have HCC := Lib.hid HC9
          have HRES := Lib.hid (show lineL t = Lib.join (xs.map (·.data.toList)) (⟨#[32]⟩ : ByteArray).data.toList ++ [10] from by unfold lineL; rw [HLW.out])
          have HJL := Lib.hid (show (Lib.join (xs.map (·.data.toList)) (⟨#[32]⟩ : ByteArray).data.toList).length ≤ 140737488355328 from by have h9 := HSZ.out; rw [HRES.out, List.length_append] at h9; omega)
          clear hxs HC9
          go_wp2_with fail
          obtain rfl : kk = xs.length := HLN.out.symm
          refine (Tryz.strings_Join g9 0 c xs ⟨#[32]⟩ _ HCC.out hg9 (by have := HKB.out; omega) hcap9 HJL.out).mono ?_
          rintro e w8 ⟨rfl, q8⟩
          have HQ8 := Lib.hid (bl_ca HBL.out q8)
          clear q8
          obtain ⟨J, hJ⟩ : ∃ J, J = Lib.join (xs.map (·.data.toList)) (⟨#[32]⟩ : ByteArray).data.toList := ⟨_, rfl⟩
          rw [← hJ] at HRES ⊢
          have hJ2 : ¬ (9223372036854775807 < J.length + 1) := by have h9 := HJL.out; rw [← hJ] at h9; omega
          clear hJ
          go_wp2
          go_ret
          exact ⟨by rw [HRES.out, ← ba_append]; rfl, HQ8.out⟩
      · have h00 : decide (0 < (m1 : Int)) = true := by simp; omega
        have HLW := Lib.hid (show lineW t = (sTable :: t.name :: colsW t.cols) ++ sBy :: keysW t t.keys from by unfold lineW; rw [if_neg (by rw [HL2.out]; exact h0)])
        have qy := bl_al (Below.refl wr.heap.size wr) (.cells #[.string sBy] 9)
        have HOY := Lib.hid (LS_own_any (G' := fun b => b < wr.heap.size + 1) (Lay.own_below HOW1.out qy))
        have HRY := Lib.hid (LS_blk (F := fun b => b = wr.heap.size) (n := 1) (l := [sBy]) (Blk.new wr 9 #[.string sBy]) rfl rfl)
        have HBY := Lib.hid (bl_ca HBL.out qy)
        have HKY := Lib.hid (HBK.out.alloc (.cells #[.string sBy] 9))
        have HOB := Lib.hid (fun k e => Lay.own_base HOW1.out k e)
        clear qy HOW1 HBL HBK
        clear z1
        go_wp2_with (at_builtin; refine wpList_appLs (L := LS) rfl (.tmp 31) (.tmp 32) 76 rfl _ 1 16 Tryz.underlying76 Tryz.strInfo rfl rfl (by omega) (w.heap.size + 1) (fun b => b < wr.heap.size + 1) (fun b => b = wr.heap.size) A kk c (sTable :: t.name :: colsW t.cols) (some ⟨wr.heap.size, 0, none⟩) 1 1 [sBy] (kk + 1) rfl rfl rfl HOY.out HRY.out (fun b hb _ => ⟨by omega, fun e => by have h9 := HOB.out b e; omega⟩) (fun b hb => by simp only [World.size_alloc]; omega) (by have := HKB.out; omega) (by have := HKB.out; unfold maxLen; omega) (by simp only [World.size_alloc]; omega) ?_; intro A9 c9 w9 ho9 hg9 hat9; have HBL9 := Lib.hid (HBY.out.grown hg9 HBY.out.size (fun k e => by have h9 := HOB.out k e; omega)); have HOW9 := Lib.hid (LS_own_any (G' := fun _ => True) ho9); have HBK9 := Lib.hid (HKY.out.grown hg9 (fun e => by have h9 := HOB.out _ e.symm; omega)); clear ho9 hg9 hat9; have z1 := HBK9.out.cell 1; have z2 := HBK9.out.cell 2)
        clear z1 z2 HOY HRY HBY HKY
        go_loopg [3, 37] m1 (fun g a b wq => ∃ (j : Nat) (k2 : Nat) (A : Option Addr) (c : Nat), j + g = m1 ∧ Hid (k2 = kk + 1 + j) ∧ a = .slice A k2 c ∧ b = .int .i64 j ∧ LS.own 9 wq (w.heap.size + 1) (fun _ => True) A k2 c ((sTable :: t.name :: colsW t.cols) ++ sBy :: keysW t (t.keys.take j)) ∧ Below w.heap.size w wq ∧ Blk wq w.heap.size 41 (t.cells A1 i c1 B1 m1 d1))
        case atStart => exact ⟨0, kk + 1, A9, c9, by omega, Lib.hid rfl, rfl, rfl, HOW9.out, HBL9.out, HBK9.out⟩
        case round =>
          obtain ⟨j, k2, A2, c2, hjg, HK2, rfl, rfl, hown, hbel, hblk⟩ := hrel
          have HOW := Lib.hid hown
          have HBL := Lib.hid hbel
          have HBK := Lib.hid hblk
          have hszq := hbel.size
          have HKB2 := Lib.hid (show k2 ≤ 15 from by have := HK2.out; have := HKB.out; omega)
          clear hown hbel hblk HOW9 HBL9 HBK9 HOB
          by_cases hlt : j < m1
          · have hj1 : (j : Int) < (m1 : Int) := by omega
            obtain ⟨p, k, hBe, hx, s1⟩ := LK_at (Lay.rd_below HR2.out HBL.out) hlt
            obtain rfl : B1 = some p := hBe
            have HT := Lib.hid (take_next hx)
            obtain ⟨hk0, hk1⟩ := HK.out j k hx
            obtain ⟨kn, rfl⟩ : ∃ kn : Nat, k = (kn : Int) := ⟨k.toNat, by omega⟩
            have hkn : kn < i := by omega
            obtain ⟨p2, x, hAe, hx2, s2⟩ := LCO_at (Lay.rd_below HR1.out HBL.out) hkn
            obtain rfl : A1 = some p2 := hAe
            have HNA := Lib.hid (show nameAt t (kn : Int) = x.name from by unfold nameAt; rw [Int.toNat_natCast, hx2]; rfl)
            have e0 := s2.c0
            have z1 := HBK.out.cell 1
            have qy := bl_al (Below.refl wr.heap.size wr) (.cells #[.string x.name] 9)
            have HOY := Lib.hid (LS_own_any (G' := fun b => b < wr.heap.size + 1) (Lay.own_below HOW.out qy))
            have HRY := Lib.hid (LS_blk (F := fun b => b = wr.heap.size) (n := 1) (l := [x.name]) (Blk.new wr 9 #[.string x.name]) rfl rfl)
            have HBY := Lib.hid (bl_ca HBL.out qy)
            have HKY := Lib.hid (HBK.out.alloc (.cells #[.string x.name] 9))
            have HOB := Lib.hid (fun k e => Lay.own_base HOW.out k e)
            clear qy HOW HBL HBK hx hx2 s2 hk0
            go_wp2_with (at_builtin; refine wpList_appLs (L := LS) rfl (.tmp 41) (.tmp 48) 76 rfl _ 1 16 Tryz.underlying76 Tryz.strInfo rfl rfl (by omega) (w.heap.size + 1) (fun b => b < wr.heap.size + 1) (fun b => b = wr.heap.size) A2 k2 c2 ((sTable :: t.name :: colsW t.cols) ++ sBy :: keysW t (t.keys.take j)) (some ⟨wr.heap.size, 0, none⟩) 1 1 [x.name] (k2 + 1) rfl rfl rfl HOY.out HRY.out (fun b hb _ => ⟨by omega, fun e => by have h9 := HOB.out b e; omega⟩) (fun b hb => by simp only [World.size_alloc]; omega) (by have := HKB2.out; omega) (by have := HKB2.out; unfold maxLen; omega) (by simp only [World.size_alloc]; omega) ?_; intro A9 c9 w9 ho9 hg9 hat9; have HBL9 := Lib.hid (HBY.out.grown hg9 HBY.out.size (fun k e => by have h9 := HOB.out k e; omega)); have HOW9 := Lib.hid (LS_own_any (G' := fun _ => True) ho9); have HBK9 := Lib.hid (HKY.out.grown hg9 (fun e => by have h9 := HOB.out _ e.symm; omega)); clear ho9 hg9 hat9)
            go_roundg (gk - 1)
            · exact ⟨j + 1, k2 + 1, A9, c9, by omega, Lib.hid (by have := HK2.out; omega), rfl, by go_num, by rw [HT.out, keysW_snoc, HNA.out]; have h9 := HOW9.out; rw [List.append_assoc] at h9; exact h9, HBL9.out, HBK9.out⟩
            · omega
          · obtain rfl : j = m1 := by omega
            have HTK := Lib.hid (show t.keys.take j = t.keys from List.take_of_length_le (by rw [HL2.out]; exact Nat.le_refl _))
            have HOWZ : Hid (LS.own 9 wr (w.heap.size + 1) (fun _ => True) A2 k2 c2 ((sTable :: t.name :: colsW t.cols) ++ sBy :: keysW t t.keys)) := by have h9 := HOW.out; rw [HTK.out] at h9; exact Lib.hid h9
            have hj1 : (j : Int) ≤ (j : Int) := by omega
            obtain ⟨g9, rfl, hg9, HC9, hcap9⟩ := LS_own_cells HOWZ.out (by have := HK2.out; omega)
            have HLN := Lib.hid (Lay.own_len HOWZ.out)
            obtain ⟨xs, hxs⟩ : ∃ xs, xs = ((sTable :: t.name :: colsW t.cols) ++ sBy :: keysW t t.keys) := ⟨_, rfl⟩
            rw [← hxs] at HC9 HLN HLW
            have HCC := Lib.hid HC9
            have HRES := Lib.hid (show lineL t = Lib.join (xs.map (·.data.toList)) (⟨#[32]⟩ : ByteArray).data.toList ++ [10] from by unfold lineL; rw [HLW.out])
            have HJL := Lib.hid (show (Lib.join (xs.map (·.data.toList)) (⟨#[32]⟩ : ByteArray).data.toList).length ≤ 140737488355328 from by have h9 := HSZ.out; rw [HRES.out, List.length_append] at h9; omega)
            clear hxs HC9
            go_wp2_with fail
            obtain rfl : k2 = xs.length := HLN.out.symm
            refine (Tryz.strings_Join g9 0 c2 xs ⟨#[32]⟩ _ HCC.out hg9 (by have := HKB2.out; omega) hcap9 HJL.out).mono ?_
            rintro e w8 ⟨rfl, q8⟩
            have HQ8 := Lib.hid (bl_ca HBL.out q8)
            clear q8
            obtain ⟨J, hJ⟩ : ∃ J, J = Lib.join (xs.map (·.data.toList)) (⟨#[32]⟩ : ByteArray).data.toList := ⟨_, rfl⟩
            rw [← hJ] at HRES ⊢
            have hJ2 : ¬ (9223372036854775807 < J.length + 1) := by have h9 := HJL.out; rw [← hJ] at h9; omega
            clear hJ
            go_wp2
            go_ret
            exact ⟨by rw [HRES.out, ← ba_append]; rfl, HQ8.out⟩
end Go.Proofs.YthgcdilkkldgjaaGreatDoor
/- What the layer's read and Parse answer, in plain Lean. Conditions: none. -/
namespace Go.Proofs.YthgcdilkkldgjaaGreatDoor
def kindOf (w : ByteArray) : Int := if w = sBool then 1 else if w = sInt then 2 else if w = sText then 3 else 0
/-- the words from the third one on: columns and keys (b: the word 'by' was met) -/
def readGo (l : List ByteArray) (b : Bool) (cs : List CO) (ks : List Int) : List CO × List Int :=
  match l with
  | [] => (cs, ks)
  | x :: r =>
    if x = sBy ∧ b = false then readGo r true cs ks
    else if b = true then readGo r true cs (ks ++ [fnd (idxL (fun c : CO => decide (c.name = x)) cs)])
    else readGo r.tail false (cs ++ [⟨x, (r.head?.map kindOf).getD 0⟩]) ks
termination_by l.length
decreasing_by all_goals (simp_wf; first | done | omega)
/-- the table that a line's words say -/
def readW (l : List ByteArray) : TC := ⟨(l[1]?).getD ⟨#[]⟩, (readGo (l.drop 2) false [] []).1, (readGo (l.drop 2) false [] []).2⟩
/-- a line's words -/
def wordsOf (l : List UInt8) : List ByteArray := Lib.splitB ⟨#[32]⟩ 0 (Lib.countB ⟨(Lib.trimSuffix l [10]).toArray⟩ ⟨#[32]⟩) ⟨(Lib.trimSuffix l [10]).toArray⟩
def readT (l : List UInt8) : TC := readW (wordsOf l)
/-- Parse over the lines that are left -/
noncomputable def parseF : List (Nat × List UInt8) → List TC → List TC × Int × Int
  | [], c => (c, 0, 0)
  | (a, l) :: r, c => if addE c (readT l) = 0 ∧ lineL (readT l) = l then parseF r (c ++ [readT l]) else ([], (a : Int), 212)
noncomputable def parseT (s : ByteArray) : List TC × Int × Int := if 1000 < s.size then ([], 0, 3) else parseF (linesAt 0 (pcs s.data.toList)) []
end Go.Proofs.YthgcdilkkldgjaaGreatDoor
/- (*strings.Builder).WriteString at this program (the shelf's own contract does not lie down here: the text of a panic is left out). Conditions: a builder that has only been written. -/
namespace Go.Proofs.YthgcdilkkldgjaaGreatDoor
open Go.RowKit
theorem Tryz.sizeB : (Tryz.prog.info? 50).map (·.size) = some 2 := by kernel_rfl
theorem Tryz.liesB : liesAt Tryz.prog Tryz.prog.depth 50 (2 / Tryz.prog.cellsOf 50) 0 50 1 = true := by kernel_rfl
theorem Tryz.infoB : (Tryz.prog.info? 5).map (fun i => (i.zero, i.size, i.bytes)) = some (some (.int .u8 0), 1, 1) := by kernel_rfl
set_option maxHeartbeats 1000000 in
set_option maxRecDepth 100000 in
theorem copyCheck_used (b : Nat) (w : World) (h0 : w.cell? ⟨b, 0, none⟩ = some (.pointer (some ⟨b, 0, none⟩))) :
    Calls Tryz.prog 39 #[.pointer (some ⟨b, 0, none⟩)] w fun e w' => e = .returned (.tuple #[]) ∧ w' = w := by
  obtain ⟨j, hj, _⟩ := Option.map_eq_some_iff.1 Tryz.sizeB
  go_enter Tryz.func39, Tryz.ntmps39
  go_wp2
  try rw [Lib.run_neq_ptr_same w _ Tryz.underlying47 hj]
  try go_wp2
  go_end0
  exact ⟨rfl, rfl⟩
set_option maxHeartbeats 1000000 in
set_option maxRecDepth 100000 in
theorem copyCheck_fresh (b : Nat) (w : World) (h0 : w.cell? ⟨b, 0, none⟩ = some (.pointer none)) (hsh : w.shape? b = some (50, 2)) (hfz : w.frozen? ⟨b, 0, none⟩ = false) :
    Calls Tryz.prog 39 #[.pointer (some ⟨b, 0, none⟩)] w fun e w' => e = .returned (.tuple #[]) ∧ w' = w.setCell ⟨b, 0, none⟩ (.pointer (some ⟨b, 0, none⟩)) := by
  obtain ⟨j, hj, hjs⟩ := Option.map_eq_some_iff.1 Tryz.sizeB
  go_enter Tryz.func39, Tryz.ntmps39
  go_wp2
  rw [Lib.run_to_unsafe w ⟨b, 0, none⟩ Tryz.underlying47 Tryz.underlying99 hj (by rw [hjs]; decide) hsh (Nat.zero_lt_succ 1)]
  simp only [Result.andThen]
  rw [Oper.upon_value]
  go_wp2
  rw [run_callFunc_extern Tryz.func59 (by kernel_rfl) (by kernel_rfl) (by kernel_rfl) (e := Extern.AbiNoEscape.same) (by kernel_rfl)]
  rw [Lib.run_noEscape]
  simp only [Result.andThen]
  rw [Oper.upon_value]
  go_wp2
  rw [Lib.run_from_unsafe w ⟨b, 0, none⟩ Tryz.underlying99 Tryz.underlying47 hj hsh Tryz.liesB]
  simp only [Result.andThen]
  rw [Oper.upon_value]
  go_wp2
  go_end0
  exact ⟨rfl, rfl⟩
theorem copyCheck_any (B b : Nat) (bs : List Value) (w : World) (h : Lib.IsBuilder 50 5 B b bs w) :
    Calls Tryz.prog 39 #[.pointer (some ⟨b, 0, none⟩)] w fun e w' => e = .returned (.tuple #[]) ∧ (Lib.BuilderAt 50 5 B b (.pointer (some ⟨b, 0, none⟩)) bs w' ∧ Below B w w') := by
  rcases h with h | h
  · refine (copyCheck_fresh b w h.cell0 h.shape h.frozen0).mono ?_
    rintro e w' ⟨rfl, rfl⟩
    exact ⟨rfl, h.used _, (Below.refl B w).setCell (p := ⟨b, 0, none⟩) h.1 _⟩
  · refine (copyCheck_used b w h.cell0).mono ?_
    rintro e w' ⟨rfl, rfl⟩
    exact ⟨rfl, h, Below.refl B _⟩
set_option maxHeartbeats 2000000 in
set_option maxRecDepth 100000 in
theorem writeString_any (B b : Nat) (bs : List Value) (s : ByteArray) (w : World) (h : Lib.IsBuilder 50 5 B b bs w) (hlen : bs.length + s.size ≤ 140737488355328) (hBw : B ≤ w.heap.size) :
    Calls Tryz.prog 18 #[.pointer (some ⟨b, 0, none⟩), .string s] w fun e w' => e = .returned (.tuple #[.int .i64 s.size, .nilIface]) ∧ (Lib.BuilderAt 50 5 B b (.pointer (some ⟨b, 0, none⟩)) (bs ++ Lib.strCells s) w' ∧ Below B w w') := by
  obtain ⟨i0, hi, hz0, hz1, hz2⟩ := info_parts Tryz.infoB
  go_enter Tryz.func18, Tryz.ntmps18
  go_wp2_with fail
  refine (copyCheck_any B b bs _ h).mono ?_
  rintro e w1 ⟨rfl, h1, hb1⟩
  obtain ⟨hB, v, hbk, hown, hne⟩ := h1
  have c0 : w1.cell? ⟨b, 0, none⟩ = some (.pointer (some ⟨b, 0, none⟩)) := by rw [Lib.cell_of_heap hbk]; rfl
  have c1 : w1.cell? ⟨b, 1, none⟩ = some v := by rw [Lib.cell_of_heap hbk]; rfl
  go_wp2_with (at_builtin; refine Lib.wpList_append_own_string _ rfl _ _ 48 9 rfl B 5 i0 Tryz.underlying48 Tryz.underlying9 hi hz0 hz1 hz2 _ _ _ rfl hown s rfl ?c3 ?c4 ?c5 ?_)
  case c3 => unfold maxLen; omega
  case c4 => omega
  case c5 => have := hb1.size; omega
  intro v' w2 hown' hgrow _
  have hlt : b < w1.heap.size := by
    rcases Nat.lt_or_ge b w1.heap.size with h' | h'
    · exact h'
    · simp [Array.getElem?_eq_none h'] at hbk
  have hb2 : w2.heap[b]? = some (.cells #[.pointer (some ⟨b, 0, none⟩), v] 50 (0, 0)) := by
    rw [hgrow.block b hlt (fun e => hne e.symm)]
    exact hbk
  have d0 : w2.cell? ⟨b, 0, none⟩ = some (.pointer (some ⟨b, 0, none⟩)) := by rw [Lib.cell_of_heap hb2]; rfl
  have d1 : w2.cell? ⟨b, 1, none⟩ = some v := by rw [Lib.cell_of_heap hb2]; rfl
  have f1 : w2.frozen? ⟨b, 1, none⟩ = false := Lib.frozen_of_heap hb2 1
  obtain ⟨ao, n', cap, rfl⟩ : ∃ ao n' cap, v' = .slice ao n' cap := by
    rcases hown'.2 with ⟨hv, _⟩ | ⟨g, cap, cur, hv, _⟩
    · exact ⟨_, _, _, hv⟩
    · exact ⟨_, _, _, hv⟩
  go_wp2
  refine bodyPost_ret (results_tmp2 Tryz.results18 _ _ _) rfl ⟨rfl, ?_, ?_⟩
  · exact Lib.BuilderAt.put (T := 50) (e := 5) hB hb2 (bs' := bs ++ Lib.strCells s) (by simpa [Lib.strCells_length] using hown') (by decide)
  · exact (hb1.grown hgrow (by have := hb1.size; omega) (fun k hk => (hown.lt k hk).1)).setCell (p := ⟨b, 1, none⟩) hB _
theorem isb_below {T e : TypeId} {B b : Nat} {bs : List Value} {w w' : World} (h : Lib.IsBuilder T e B b bs w) (q : Below w.heap.size w w') : Lib.IsBuilder T e B b bs w' := by
  have k : ∀ p, Lib.BuilderAt T e B b p bs w → Lib.BuilderAt T e B b p bs w' := fun p ⟨hB, v, hb, ho, hne⟩ => by
    have hlt : b < w.heap.size := by
      rcases Nat.lt_or_ge b w.heap.size with h' | h'
      · exact h'
      · simp [Array.getElem?_eq_none h'] at hb
    exact ⟨hB, v, (q.block b hlt).trans hb, ownsRow_below ho q, hne⟩
  rcases h with h | h
  · exact .inl (k _ h)
  · exact .inr (k _ h)
end Go.Proofs.YthgcdilkkldgjaaGreatDoor
/- The layer's Print. Conditions: the slice reads so; what the tables hold; names are not endless. -/
namespace Go.Proofs.YthgcdilkkldgjaaGreatDoor
open Go.RowKit
theorem strict_keys {n : Int} : ∀ {p : Int} {l : List Int}, strictB n p l = true → (l.length = 0 ∨ (l.length : Int) < n - p) ∧ ∀ (j : Nat) (k : Int), l[j]? = some k → p < k ∧ k < n
  | _, [], _ => ⟨.inl rfl, fun j k h => by simp at h⟩
  | p, x :: l, h => by
    simp only [strictB, Bool.and_eq_true, decide_eq_true_eq] at h
    obtain ⟨h1, h2, h3⟩ := h
    obtain ⟨a, b⟩ := strict_keys h3
    refine ⟨.inr ?_, fun j k hk => ?_⟩
    · rw [List.length_cons]; rcases a with a | a <;> omega
    · cases j with
      | zero => simp at hk; subst hk; exact ⟨h1, h2⟩
      | succ j => have := b j k (by simpa using hk); exact ⟨by omega, this.2⟩
theorem TabP.keys {t : TC} (h : TabP t) : t.keys.length ≤ 4 ∧ ∀ (j : Nat) (k : Int), t.keys[j]? = some k → 0 ≤ k ∧ k < (t.cols.length : Int) := by
  obtain ⟨a, b⟩ := strict_keys h.ks
  have := h.hi
  refine ⟨by rcases a with a | a <;> omega, fun j k hk => ?_⟩
  have := b j k hk
  exact ⟨by omega, this.2⟩
theorem joinTail_len {N : Nat} : ∀ (xs : List (List UInt8)), (∀ x ∈ xs, x.length ≤ N) → (Lib.joinTail [32] xs).length ≤ xs.length * (N + 1)
  | [], _ => by simp [Lib.joinTail]
  | x :: l, h => by
    have h1 := joinTail_len l (fun y hy => h y (List.mem_cons_of_mem _ hy))
    have h2 := h x List.mem_cons_self
    have h3 : Lib.joinTail [32] (x :: l) = ([32] ++ x) ++ Lib.joinTail [32] l := by unfold Lib.joinTail; simp
    rw [h3]
    simp only [List.length_append, List.length_cons, List.length_nil, Nat.add_mul]
    omega
theorem join_len {N : Nat} (xs : List (List UInt8)) (h : ∀ x ∈ xs, x.length ≤ N) : (Lib.join xs [32]).length ≤ xs.length * (N + 1) := by
  cases xs with
  | nil => simp [Lib.join_nil]
  | cons x l =>
    have h1 := joinTail_len l (fun y hy => h y (List.mem_cons_of_mem _ hy))
    have h2 := h x List.mem_cons_self
    rw [Lib.join_cons, List.length_append, List.length_cons, Nat.add_mul]
    omega
theorem wordS_len (k : Int) : (wordS k).size ≤ 4 := by
  unfold wordS
  repeat' split
  all_goals decide
theorem nameAt_len {t : TC} (h : Sz t) (k : Int) : (nameAt t k).size ≤ 100000 := by
  unfold nameAt
  cases hk : t.cols[k.toNat]? with
  | none => exact Nat.zero_le _
  | some c => exact h.2 _ _ hk
theorem lineL_len {t : TC} (h : Sz t) (h1 : t.cols.length ≤ 4) (h2 : t.keys.length ≤ 4) : (lineL t).length ≤ 2000000 := by
  have hm : ∀ x ∈ lineW t, x.size ≤ 100000 := by
    intro x hx
    unfold lineW at hx
    simp only [List.mem_append, List.mem_cons] at hx
    rcases hx with (rfl | rfl | hx) | hx
    · decide
    · exact h.1
    · unfold colsW colW at hx
      simp only [List.mem_flatMap, List.mem_cons, List.not_mem_nil, or_false] at hx
      obtain ⟨c, hc, rfl | rfl⟩ := hx
      · obtain ⟨k, hk, e⟩ := List.getElem_of_mem hc
        exact h.2 k c (by rw [← e]; exact List.getElem?_eq_getElem hk)
      · have := wordS_len c.kind; omega
    · split at hx
      · cases hx
      · simp only [List.mem_cons] at hx
        rcases hx with rfl | hx
        · decide
        · unfold keysW at hx
          simp only [List.mem_map] at hx
          obtain ⟨k, _, rfl⟩ := hx
          exact nameAt_len h k
  have hl : (lineW t).length ≤ 15 := by
    unfold lineW
    rw [List.length_append, List.length_cons, List.length_cons, colsW_len]
    split
    · rw [List.length_nil]; omega
    · rw [List.length_cons]; unfold keysW; rw [List.length_map]; omega
  have hj := join_len (N := 100000) ((lineW t).map (·.data.toList)) (fun x hx => by
    rw [List.mem_map] at hx
    obtain ⟨y, hy, rfl⟩ := hx
    have := hm y hy
    rw [Array.length_toList]
    exact this)
  rw [List.length_map] at hj
  unfold lineL
  rw [List.length_append]
  have : (lineW t).length * (100000 + 1) ≤ 15 * 100001 := Nat.mul_le_mul hl (Nat.le_refl _)
  simp only [List.length_singleton]
  omega
noncomputable def linesL (l : List TC) : List UInt8 := l.flatMap lineL
noncomputable def prS (l : List TC) : ByteArray := if catB l = true then ⟨(linesL l).toArray⟩ else ⟨#[]⟩
theorem linesL_snoc (l : List TC) (t : TC) : linesL (l ++ [t]) = linesL l ++ lineL t := by unfold linesL; rw [List.flatMap_append]; simp
theorem linesL_len {l : List TC} (h : ∀ t ∈ l, (lineL t).length ≤ 2000000) : (linesL l).length ≤ l.length * 2000000 := by
  induction l with
  | nil => simp [linesL]
  | cons t l ih =>
    have h1 := ih (fun x hx => h x (List.mem_cons_of_mem _ hx))
    have h2 := h t List.mem_cons_self
    show (lineL t ++ linesL l).length ≤ _
    rw [List.length_append, List.length_cons, Nat.add_mul]
    omega
theorem cells_append (a : List UInt8) (s : List UInt8) : Lib.byteCells a ++ Lib.strCells ⟨s.toArray⟩ = Lib.byteCells (a ++ s) := by
  unfold Lib.byteCells Lib.strCells
  simp
set_option maxRecDepth 100000 in
set_option maxHeartbeats 16000000 in
theorem print_any (F : Nat → Prop) (l : List TC) (A : Option Addr) (m c : Nat) (w : World) (h : LT3.rd w F A m l) (hm : m ≤ 100000) (hT : Tab w) (hs : ∀ (k : Nat) (t : TC), l[k]? = some t → Sz t) :
    Calls Tryz.prog 6 #[.agg #[.slice A m c]] w fun e w' => e = .returned (.tuple #[.string (prS l), .int .i64 (eC (catB l))]) ∧ Below w.heap.size w w' := by
  have HL := Lib.hid (Lay.rd_len h)
  have HS := Lib.hid hs
  have q1 := bl_al (Below.refl w.heap.size w) (.cells #[.slice A m c] 24)
  have HRD := Lib.hid (Lay.rd_below h q1)
  have HTB := Lib.hid (hT.below q1)
  have HB := Lib.hid (Blk.new w 24 #[.slice A m c])
  have HQ1 := Lib.hid q1
  have hs1 : (w.alloc (.cells #[.slice A m c] 24)).heap.size = w.heap.size + 1 := by simp only [World.size_alloc]
  have y0 := HB.out.cell 0
  clear q1 h hs hT
  have HP := Lib.hid (show prS l = if catB l = true then ⟨(linesL l).toArray⟩ else ⟨#[]⟩ from rfl)
  generalize prS l = PS at *
  obtain ⟨cb, hcb⟩ : ∃ cb, cb = catB l := ⟨_, rfl⟩
  rw [← hcb] at HP ⊢
  have HCB := Lib.hid hcb
  clear hcb
  go_enter Tryz.func6, Tryz.ntmps6
  go_wp2_with fail
  generalize w.alloc (.cells #[.slice A m c] 24) = w1 at *
  refine (check_any F l A m c w1 HRD.out (by omega) HTB.out HS.out).mono ?_
  rintro e w2 ⟨rfl, q2⟩
  clear y0
  have HB2 := Lib.hid (HB.out.ca q2)
  have HRD2 := Lib.hid (Lay.rd_below HRD.out q2)
  have HTB2 := Lib.hid (HTB.out.below q2)
  have HQ2 := Lib.hid (bl_ca HQ1.out q2)
  have hs2 := q2.size
  clear q2 HB HRD HTB HQ1
  rw [← HCB.out]
  cases cb
  · rw [show eC false = 210 from rfl]
    have HF := Lib.hid (show PS = ⟨#[]⟩ from by rw [HP.out, if_neg (by simp)])
    go_wp2
    exact bodyPost_ret (results_tmp2 Tryz.results6 _ _ _) rfl ⟨by rw [HF.out]; rfl, HQ2.out⟩
  rw [show eC true = 0 from rfl]
  have HF := Lib.hid (show PS = ⟨(linesL l).toArray⟩ from by rw [HP.out, if_pos rfl])
  have HCP := Lib.hid ((catB_iff l).1 HCB.out.symm)
  have hm4 : m ≤ 4 := by have := HCP.out.hi; rw [HL.out] at this; exact this
  have q3 := bl_al (Below.refl w2.heap.size w2) (.cells #[.pointer none, .slice none 0 0] 50)
  have HFB := Lib.hid (Lib.fresh_isBuilder 50 5 w2)
  have HB3 := Lib.hid (HB2.out.alloc (.cells #[.pointer none, .slice none 0 0] 50))
  have HRD3 := Lib.hid (Lay.rd_below HRD2.out q3)
  have HTB3 := Lib.hid (HTB2.out.below q3)
  have HQ3 := Lib.hid q3
  have y0 := HB3.out.cell 0
  have hs3 : (w2.alloc (.cells #[.pointer none, .slice none 0 0] 50)).heap.size = w2.heap.size + 1 := by simp only [World.size_alloc]
  clear q3 HB2 HP HCB
  go_wp2_with fail
  generalize w2.alloc (.cells #[.pointer none, .slice none 0 0] 50) = w3 at *
  clear y0
  go_loopg [16] m (fun g b wr => ∃ (i : Nat), i + g = m ∧ b = .int .i64 i ∧ Lib.IsBuilder 50 5 w2.heap.size w2.heap.size (Lib.byteCells (linesL (l.take i))) wr ∧ Below w2.heap.size w2 wr)
  case atStart => exact ⟨0, by omega, rfl, HFB.out, HQ3.out⟩
  case round =>
    obtain ⟨i, hig, rfl, hib, hbel⟩ := hrel
    have HIB := Lib.hid hib
    have HBL := Lib.hid hbel
    have hsz := hbel.size
    clear hib hbel HFB
    have hqc : Below w.heap.size w wr := bl_ca HQ2.out HBL.out
    have HQC := Lib.hid hqc
    clear hqc
    by_cases hlt : i < m
    · have hi1 : (i : Int) < (m : Int) := by omega
      obtain ⟨p, t, A1, n1, c1, B1, m1, d1, hAe, hx, s1⟩ := LT3_at (Lay.rd_below HRD2.out HBL.out) hlt
      obtain rfl : A = some p := hAe
      have HT := Lib.hid (take_next hx)
      have HSZ := Lib.hid (HS.out i t hx)
      have HTP := Lib.hid ((tabB_iff t).1 (HCP.out.ok i t hx))
      have hlc := Lay.rd_len s1.rd
      have hlk := Lay.rd_len s1.rk
      have hn1 : n1 ≤ 4 := by have := HTP.out.hi; omega
      have hm1 : m1 ≤ 4 := by have := HTP.out.keys.1; omega
      have hll := lineL_len HSZ.out HTP.out.hi HTP.out.keys.1
      have HLL := Lib.hid hll
      have e0 := s1.c0
      have e1 := s1.c1
      have e2 := s1.c2
      have q5 := bl_al (Below.refl wr.heap.size wr) (.cells (t.cells A1 n1 c1 B1 m1 d1) 41)
      have HCL := Lib.hid (line_any F F t A1 n1 c1 B1 m1 d1 _ (Lay.rd_below s1.rd q5) (Lay.rd_below s1.rk q5) hn1 hm1 (fun j k hk => by have := HTP.out.keys.2 j k hk; rw [hlc] at this; exact this) ((HTB2.out.below HBL.out).below q5) (by omega))
      have HIB5 := Lib.hid (isb_below HIB.out q5)
      have HB5 := Lib.hid (bl_ca HBL.out q5)
      have HLEN := Lib.hid (show (linesL (l.take i)).length ≤ 10000000 from by
        have h9 := linesL_len (l := l.take i) (fun x hx => by
          obtain ⟨k, hk, e⟩ := List.getElem_of_mem (List.mem_of_mem_take hx)
          have h8 : l[k]? = some x := by rw [← e]; exact List.getElem?_eq_getElem hk
          have h7 := (tabB_iff x).1 (HCP.out.ok k x h8)
          exact lineL_len (HS.out k x h8) h7.hi h7.keys.1)
        rw [List.length_take] at h9
        omega)
      have hs5 : (wr.alloc (.cells (t.cells A1 n1 c1 B1 m1 d1) 41)).heap.size = wr.heap.size + 1 := by simp only [World.size_alloc]
      clear hx s1 q5 hlc hlk hn1 hm1 hll HIB HBL
      go_wp2_with fail
      generalize wr.alloc (.cells (t.cells A1 n1 c1 B1 m1 d1) 41) = w5 at *
      refine HCL.out.mono ?_
      rintro e w6 ⟨rfl, q6⟩
      have HIB6 := Lib.hid (isb_below HIB5.out q6)
      have HB6 := Lib.hid (bl_ca HB5.out q6)
      have hs6 := q6.size
      clear q6 HIB5 HB5 HCL e0 e1 e2
      obtain ⟨LL, hLL⟩ : ∃ LL, LL = lineL t := ⟨_, rfl⟩
      have HLN := Lib.hid (show linesL (l.take (i + 1)) = linesL (l.take i) ++ LL from by rw [HT.out, linesL_snoc, hLL])
      have HLS := Lib.hid (show (Lib.byteCells (linesL (l.take i))).length + (⟨LL.toArray⟩ : ByteArray).size ≤ 140737488355328 from by
        have h8 := HLL.out
        have h9 := HLEN.out
        rw [← hLL] at h8
        rw [Lib.byteCells_length]
        show _ + LL.toArray.size ≤ _
        rw [List.size_toArray]
        omega)
      rw [← hLL]
      clear hLL
      go_wp2_with fail
      refine (writeString_any w2.heap.size w2.heap.size _ ⟨LL.toArray⟩ _ HIB6.out HLS.out (by omega)).mono ?_
      rintro e w7 ⟨rfl, h7, b7⟩
      have HB7 := Lib.hid (HB6.out.trans b7)
      have HI7 : Hid (Lib.IsBuilder 50 5 w2.heap.size w2.heap.size (Lib.byteCells (linesL (l.take (i + 1)))) w7) := Lib.hid (by rw [HLN.out, ← cells_append]; exact .inr h7)
      clear b7 h7 HB6 HIB6
      go_wp2_with fail
      go_roundg (gk - 1)
      · exact ⟨i + 1, by omega, by go_num, HI7.out, HB7.out⟩
      · omega
    · obtain rfl : i = m := by omega
      have hi1 : (i : Int) ≤ (i : Int) := by omega
      have HTK := Lib.hid (show l.take i = l from List.take_of_length_le (by rw [HL.out]; exact Nat.le_refl _))
      go_wp2_with fail
      refine (Tryz.Builder_String_any w2.heap.size w2.heap.size (linesL (l.take i)) _ HIB.out (by omega)).mono ?_
      rintro e w7 ⟨rfl, q7⟩
      have HB7 := Lib.hid (HBL.out.trans q7)
      clear q7
      rw [HTK.out]
      go_wp2
      exact bodyPost_ret (results_tmp2 Tryz.results6 _ _ _) rfl ⟨by rw [HF.out]; rfl, bl_ca HQ2.out HB7.out⟩
end Go.Proofs.YthgcdilkkldgjaaGreatDoor
/- What CatalogStays rests on, in plain Lean. Conditions: none. -/
namespace Go.Proofs.YthgcdilkkldgjaaGreatDoor
theorem idxL_none {α : Type} {f : α → Bool} {l : List α} (h : ∀ x ∈ l, f x = false) : idxL f l = -1 := by
  unfold idxL
  rw [if_neg]
  intro h9
  obtain ⟨x, hx, hf⟩ := List.findIdx_lt_length.1 h9
  rw [h x hx] at hf
  cases hf
theorem idxL_neg {α : Type} {f : α → Bool} {l : List α} (h : ¬ 0 ≤ idxL f l) : ∀ x ∈ l, f x = false := by
  intro x hx
  cases hf : f x
  · rfl
  · exfalso
    apply h
    unfold idxL
    rw [if_pos (List.findIdx_lt_length.2 ⟨x, hx, hf⟩)]
    omega
theorem idxL_pos {α : Type} {f : α → Bool} {l : List α} (h : 0 ≤ idxL f l) : ∃ k : Nat, idxL f l = (k : Int) ∧ k < l.length ∧ ∃ x, l[k]? = some x ∧ f x = true := by
  unfold idxL at *
  split at h
  · next h9 =>
    rw [if_pos h9]
    exact ⟨l.findIdx f, rfl, h9, _, List.getElem?_eq_getElem h9, List.findIdx_getElem (w := h9)⟩
  · omega
theorem idxL_snoc {α : Type} {f : α → Bool} {l : List α} {x : α} (h : ∀ y ∈ l, f y = false) (hx : f x = true) : idxL f (l ++ [x]) = (l.length : Int) := by
  have h1 : (l ++ [x]).findIdx f = l.length := by
    rw [List.findIdx_append, if_neg (by intro h9; obtain ⟨y, hy, e⟩ := List.findIdx_lt_length.1 h9; rw [h y hy] at e; cases e)]
    rw [List.findIdx_cons, hx]
    simp
  unfold idxL
  rw [h1, if_pos (by simp)]
structure AddOk (cs : List TC) (x : TC) : Prop where
  c : catB cs = true
  t : tabB x = true
  no : ∀ y ∈ cs, decide (y.name = x.name) = false
  len : cs.length ≠ 4
theorem add_ok {cs : List TC} {x : TC} (h : addE cs x = 0) : AddOk cs x := by
  unfold addE at h
  split at h
  · cases h
  · split at h
    · cases h
    · split at h
      · cases h
      · next h1 h2 h3 =>
        split at h
        · cases h
        · next h4 => exact ⟨by simpa using h1, by simpa using h2, idxL_neg h3, h4⟩
theorem AddOk.cat {cs : List TC} {x : TC} (h : AddOk cs x) : catB (cs ++ [x]) = true := by
  have hc := (catB_iff cs).1 h.c
  refine (catB_iff _).2 ⟨?_, fun k t hk => ?_, fun i k a b hik ha hb => ?_⟩
  · rw [List.length_append]
    have := hc.hi
    have := h.len
    simp only [List.length_singleton]
    omega
  · rcases Nat.lt_or_ge k cs.length with h9 | h9
    · rw [List.getElem?_append_left h9] at hk; exact hc.ok k t hk
    · rw [List.getElem?_append_right h9] at hk
      have : k - cs.length = 0 := by
        rcases Nat.eq_zero_or_pos (k - cs.length) with e | e
        · exact e
        · rw [List.getElem?_eq_none (by simp only [List.length_singleton]; omega)] at hk; cases hk
      rw [this] at hk
      simp at hk
      subst hk
      exact h.t
  · rcases Nat.lt_or_ge k cs.length with h9 | h9
    · rw [List.getElem?_append_left h9] at hb
      rw [List.getElem?_append_left (by omega)] at ha
      exact hc.nd i k a b hik ha hb
    · rw [List.getElem?_append_right h9] at hb
      have : k - cs.length = 0 := by
        rcases Nat.eq_zero_or_pos (k - cs.length) with e | e
        · exact e
        · rw [List.getElem?_eq_none (by simp only [List.length_singleton]; omega)] at hb; cases hb
      rw [this] at hb
      simp at hb
      subst hb
      rw [List.getElem?_append_left (by omega)] at ha
      obtain ⟨hlt, e⟩ := List.getElem?_eq_some_iff.1 ha
      have := h.no a (by rw [← e]; exact List.getElem_mem hlt)
      simpa using this
theorem AddOk.idx {cs : List TC} {x : TC} (h : AddOk cs x) : idxL (fun y : TC => decide (y.name = x.name)) (cs ++ [x]) = (cs.length : Int) := idxL_snoc h.no (by simp)
theorem AddOk.dropE {cs : List TC} {x : TC} (h : AddOk cs x) : dropE (cs ++ [x]) x.name = 0 := by
  unfold Go.Proofs.YthgcdilkkldgjaaGreatDoor.dropE
  rw [if_neg (by rw [h.cat]; simp), h.idx, if_pos (by omega)]
theorem AddOk.dropR {cs : List TC} {x : TC} (h : AddOk cs x) : dropR (cs ++ [x]) x.name = cs := by
  unfold Go.Proofs.YthgcdilkkldgjaaGreatDoor.dropR
  rw [if_pos h.dropE, h.idx, Int.toNat_natCast, List.eraseIdx_append_of_length_le (Nat.le_refl _), Nat.sub_self]
  simp
structure AddThere (cs : List TC) (x : TC) (k : Nat) : Prop where
  c : catB cs = true
  ix : idxL (fun y : TC => decide (y.name = x.name)) cs = (k : Int)
  lt : k < cs.length
  de : dropE cs x.name = 0
  dr : dropR cs x.name = cs.eraseIdx k
  no : idxL (fun y : TC => decide (y.name = x.name)) (cs.eraseIdx k) = -1
theorem add_there {cs : List TC} {x : TC} (h : addE cs x = 5) : ∃ k, AddThere cs x k := by
  unfold addE at h
  split at h
  · cases h
  · next h1 =>
    have hc : catB cs = true := by simpa using h1
    split at h
    · cases h
    · split at h
      · next h3 =>
        obtain ⟨k, hk, hlt, y, hy, hf⟩ := idxL_pos h3
        have hd : dropE cs x.name = 0 := by unfold dropE; rw [if_neg h1, if_pos h3]
        refine ⟨k, hc, hk, hlt, hd, by unfold dropR; rw [if_pos hd, hk, Int.toNat_natCast], idxL_none fun z hz => ?_⟩
        have hnd := ((catB_iff cs).1 hc).nd
        have hyn : y.name = x.name := by simpa using hf
        rw [List.eraseIdx_eq_take_drop_succ] at hz
        rw [← hyn]
        rcases List.mem_append.1 hz with hz | hz
        · obtain ⟨j, hj, e⟩ := List.getElem_of_mem hz
          rw [List.length_take] at hj
          have h8 : cs[j]? = some z := by
            rw [← e, List.getElem_take]
            exact List.getElem?_eq_getElem _
          have := hnd j k z y (by omega) h8 hy
          simpa using this
        · obtain ⟨j, hj, e⟩ := List.getElem_of_mem hz
          rw [List.length_drop] at hj
          have h8 : cs[k + 1 + j]? = some z := by
            rw [← e, List.getElem_drop]
            exact List.getElem?_eq_getElem _
          have := hnd k (k + 1 + j) y z (by omega) hy h8
          simp only [decide_eq_false_iff_not]
          exact fun e => this e.symm
      · split at h <;> cases h
end Go.Proofs.YthgcdilkkldgjaaGreatDoor
