/- bowspritlaw06.short. Conditions: the slice reads as these values. -/
import Derived.Test.YtfpodalnnchnoaaAre
import Derived.Test.YtfpodalnnchnoaaBlk2
import Derived.Test.YtfpodalnnchnoaaOwnV
namespace Go.Proofs.Ytfpodalnnchnoaa
open Go.RowKit
/-- append(out, v): out the call's own. -/
theorem wpList_appW {ops : Array Oper} {rest : List Oper} {o : Oper} {a : Act} {w : World} {Q : Exit → Act → World → Prop} (hgd : o.guard = none) (s x : Operand)
    (ho : o.op = .call { callee := .builtin .append, args := #[s, x], argTypes := #[27, 27] })
    (B : Nat) (A : Option Addr) (n c : Nat) (xs : List VV) (g c2 : Nat) (t : TypeId) (v : VV)
    (hs : a.eval s = .slice A n c) (hx : a.eval x = .slice (some ⟨g, 0, none⟩) 1 c2) (hown : OwnV w B A n c xs) (hr : Blk w g t #[.int .i64 v.k, .int .i64 v.n, .int .u64 v.u, .string v.s]) (hb : n + 1 ≤ 1000000) (hB : B ≤ w.heap.size)
    (h : ∀ A' c' w', OwnV w' B A' (n + 1) c' (xs ++ [v]) → Below B w w' → wpList Try.prog ops Q rest (a.put o.dst (.slice A' (n + 1) c')) w') : wpList Try.prog ops Q (o :: rest) a w := by
  obtain ⟨i0, hi0, hz0, hz1, hz2⟩ := info_parts Try.valInfo
  refine wpList_append_any w hgd s x 27 ho B 24 i0 _ 4 40 Try.underlying27 hi0 hz0 hz1 hz2 rfl (by omega) (.slice A n c) n (vcells xs) hs hown w.heap.size (some ⟨g, 0, none⟩) 1 c2 (vcells [v]) hx (reads_one hr) (vcells_one _) (by simp only [maxLen]; omega) (by omega) hB ?_
  intro v' w' hown' hg hat
  obtain ⟨A', c', rfl⟩ := OwnV.form hown'
  refine h A' c' w' (by unfold OwnV; rw [vcells_append]; exact hown') ?_
  exact (Below.refl _ _).grown hg hB (OwnV.base hown)
def cutS (s : ByteArray) : ByteArray := if s.size ≤ 41 then s else s.extract 0 41
def VV.short (v : VV) : VV := ⟨v.k, v.n, v.u, cutS v.s⟩
def shortR (vs : List VV) : List VV := (vs.take 17).map VV.short
set_option maxRecDepth 100000 in
set_option maxHeartbeats 4000000 in
theorem short_any (A : Option Addr) (n c : Nat) (vs : List VV) (w : World) (h : RdV w A n vs) (hn : n ≤ 9223372036854775807) :
    Calls Try.prog 9 #[.slice A n c] w fun e w' => ∃ A' n' c', e = .returned (.slice A' n' c') ∧ OwnV w' w.heap.size A' n' c' (shortR vs) ∧ Below w.heap.size w w' := by
  have hlen := Lib.hid h.1
  go_enter Try.func9, Try.ntmps9
  go_wp2
  go_loopg [3, 8] n (fun g o s wr => ∃ (i n' c' : Nat) (A' : Option Addr), i + g ≤ n ∧ n ≤ i + g ∧ s = .int .i64 i ∧ o = .slice A' n' c' ∧ n' ≤ i ∧ n' ≤ 17 ∧ OwnV wr w.heap.size A' n' c' (shortR (vs.take i)) ∧ Below w.heap.size w wr)
  case atStart => exact ⟨0, 0, 0, none, by omega, by omega, rfl, rfl, by omega, by omega, by simpa [shortR] using OwnV.nil w w.heap.size, Below.refl _ _⟩
  case round =>
    obtain ⟨i, n', c', A', hi1, hi2, rfl, rfl, hn1, hn2, ho, bb⟩ := hrel
    by_cases hi : i < n
    · obtain ⟨a, v, rfl, hv, hal, c0, c1, c2, c3⟩ := (h.below bb).2 i hi
      have hsnoc := show vs.take (i + 1) = vs.take i ++ [v] from by rw [List.take_add_one, hv]; rfl
      have HS := Lib.hid hsnoc
      clear hsnoc hv
      by_cases him : i ≤ 16
      · have hi3 : (i : Int) ≤ (16 : Int) := by omega
        by_cases hs : v.s.size ≤ 41
        · have hs1 : ¬ (41 : Int) < (v.s.size : Int) := by omega
          obtain ⟨x, hx⟩ : ∃ x : VV, x = v.short := ⟨_, rfl⟩
          have hcs : cutS v.s = v.s := if_pos hs
          have ho1 := (ho.alloc (.cells #[.int .i64 v.k, .int .i64 v.n, .int .u64 v.u, .string v.s] 24)).alloc (.cells #[.int .i64 v.k, .int .i64 v.n, .int .u64 v.u, .string v.s] 24)
          have b1 := bl_al (bl_al bb (.cells #[.int .i64 v.k, .int .i64 v.n, .int .u64 v.u, .string v.s] 24)) (.cells #[.int .i64 v.k, .int .i64 v.n, .int .u64 v.u, .string v.s] 24)
          have hb3 := Blk.new (wr.alloc (.cells #[.int .i64 v.k, .int .i64 v.n, .int .u64 v.u, .string v.s] 24)) 24 #[.int .i64 v.short.k, .int .i64 v.short.n, .int .u64 v.short.u, .string v.short.s]
          rw [show v.short.k = v.k from rfl, show v.short.n = v.n from rfl, show v.short.u = v.u from rfl, show v.short.s = v.s from hcs] at hb3
          have hlt := b1.size
          simp only [World.size_alloc] at hb3
          have HF := Lib.hid (show shortR (vs.take (i + 1)) = shortR (vs.take i) ++ [v.short] from by
            have hil : (vs.take i).length ≤ i := List.length_take_le _ _
            unfold shortR
            rw [HS.out, List.take_append, List.map_append, List.take_of_length_le (l := [v]) (by simp; omega)]
            rfl)
          rw [show v.short = ⟨v.k, v.n, v.u, v.s⟩ from by unfold VV.short; rw [hcs]] at HF
          clear HS hcs hx
          go_wp2_with (at_builtin; refine wpList_appW rfl (.tmp 23) (.tmp 25) rfl w.heap.size A' n' c' _ (wr.heap.size + 1) 1 24 ⟨v.k, v.n, v.u, v.s⟩ rfl rfl ho1 hb3 (by omega) hlt ?_; intro A4 c4 w4 ho4 b4)
          have b5 := b1.trans b4
          go_roundg (gk - 1)
          · exact ⟨i + 1, n' + 1, c4, A4, by omega, by omega, by go_num, rfl, by omega, by omega, by rw [HF.out]; exact ho4, b5⟩
          · omega
        · have hs1 : (41 : Int) < (v.s.size : Int) := by omega
          obtain ⟨x, hx⟩ : ∃ x : VV, x = v.short := ⟨_, rfl⟩
          have hcs : cutS v.s = (v.s.extract 0 41) := if_neg hs
          have ho1 := (ho.alloc (.cells #[.int .i64 v.k, .int .i64 v.n, .int .u64 v.u, .string (v.s.extract 0 41)] 24)).alloc (.cells #[.int .i64 v.k, .int .i64 v.n, .int .u64 v.u, .string (v.s.extract 0 41)] 24)
          have b1 := bl_al (bl_al bb (.cells #[.int .i64 v.k, .int .i64 v.n, .int .u64 v.u, .string (v.s.extract 0 41)] 24)) (.cells #[.int .i64 v.k, .int .i64 v.n, .int .u64 v.u, .string (v.s.extract 0 41)] 24)
          have hb3 := Blk.new (wr.alloc (.cells #[.int .i64 v.k, .int .i64 v.n, .int .u64 v.u, .string (v.s.extract 0 41)] 24)) 24 #[.int .i64 v.short.k, .int .i64 v.short.n, .int .u64 v.short.u, .string v.short.s]
          rw [show v.short.k = v.k from rfl, show v.short.n = v.n from rfl, show v.short.u = v.u from rfl, show v.short.s = (v.s.extract 0 41) from hcs] at hb3
          have hlt := b1.size
          simp only [World.size_alloc] at hb3
          have HF := Lib.hid (show shortR (vs.take (i + 1)) = shortR (vs.take i) ++ [v.short] from by
            have hil : (vs.take i).length ≤ i := List.length_take_le _ _
            unfold shortR
            rw [HS.out, List.take_append, List.map_append, List.take_of_length_le (l := [v]) (by simp; omega)]
            rfl)
          rw [show v.short = ⟨v.k, v.n, v.u, (v.s.extract 0 41)⟩ from by unfold VV.short; rw [hcs]] at HF
          clear HS hcs hx
          go_wp2_with (at_builtin; refine wpList_appW rfl (.tmp 23) (.tmp 25) rfl w.heap.size A' n' c' _ (wr.heap.size + 1) 1 24 ⟨v.k, v.n, v.u, (v.s.extract 0 41)⟩ rfl rfl ho1 hb3 (by omega) hlt ?_; intro A4 c4 w4 ho4 b4)
          have b5 := b1.trans b4
          go_roundg (gk - 1)
          · exact ⟨i + 1, n' + 1, c4, A4, by omega, by omega, by go_num, rfl, by omega, by omega, by rw [HF.out]; exact ho4, b5⟩
          · omega
      · have hi3 : (16 : Int) < (i : Int) := by omega
        have ho1 := ho.alloc (.cells #[.int .i64 v.k, .int .i64 v.n, .int .u64 v.u, .string v.s] 24)
        have b1 := bl_al bb (.cells #[.int .i64 v.k, .int .i64 v.n, .int .u64 v.u, .string v.s] 24)
        go_wp2
        have HF := Lib.hid (show shortR (vs.take (i + 1)) = shortR (vs.take i) from by
          have hvl : i ≤ vs.length := by rw [hlen.out]; omega
          unfold shortR
          rw [HS.out, List.take_append_of_le_length (by rw [List.length_take]; omega)])
        go_roundg (gk - 1)
        · exact ⟨i + 1, n', c', A', by omega, by omega, by go_num, rfl, by omega, by omega, by rw [HF.out]; exact ho1, b1⟩
        · omega
    · have hin : n ≤ i := by omega
      have e : vs.take i = vs := List.take_of_length_le (by rw [hlen.out]; omega)
      rw [e] at ho
      clear e h
      go_wp2
      go_ret
      exact ⟨A', n', c', rfl, ho, bb⟩
end Go.Proofs.Ytfpodalnnchnoaa
