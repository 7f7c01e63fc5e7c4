/- What an op leaves of the other parcels: plain lists. Conditions: the net may be; the op is done. -/
import Derived.Test.YtnbcffnhgijmcaaPkB13
import Derived.RangeFuncNested
import Derived.RangeFuncBound
import Derived.RangeFuncCalls
import Derived.RangeFuncLeaves
import Derived.RangeFuncBox
import Derived.Shelf.Abstract
import Derived.Shelf.RegionOpen
import Derived.WalkKit
import Derived.OwnWalkIn
import Derived.TacticsInMore
import Derived.LoopNIn
import Derived.LoopIn
import Derived.Maps.AppendAt
import Derived.Lib.MinMax
namespace Go.Proofs.Ytnbcffnhgijmcaa
def goneO (o : OpC) (x : Int) (p : PC) : Bool := kindI o == 5 && p.frm == o.frm && p.to == o.to || (kindI o == 3 || kindI o == 4) && p.num == x
def ownO (o : OpC) (x : Int) (p : PC) : Bool := kindI o == 7 && p.num == x
/-- it is there, as it was (or spoiled) -/
structure As (own : Bool) (p q : PC) : Prop where
  frm : q.frm = p.frm
  to : q.to = p.to
  bs : (q.bs == p.bs) = !own
  sp : q.sp = (p.sp || own)
def Oth (gone own : Bool) (l : List PC) (p : PC) : Prop :=
  (gone = true → idxF (fun q => q.num == p.num) l = -1) ∧ (gone = false → ∃ (i : Nat) (q : PC), idxF (fun q => q.num == p.num) l = i ∧ l[i]? = some q ∧ As own p q)
theorem oth_of {gone own : Bool} {l : List PC} {p : PC} (ha : gone = true → ∀ q ∈ l, q.num ≠ p.num) (hb : gone = false → ∃ q ∈ l, q.num = p.num) (hc : gone = false → ∀ q ∈ l, q.num = p.num → As own p q) : Oth gone own l p := by
  refine ⟨fun h => idxF_none fun q hq => by simpa using ha h q hq, fun h => ?_⟩
  obtain ⟨q, hq, e⟩ := hb h
  obtain ⟨i, r, h1, h2, h3⟩ := idxF_some (f := fun q => q.num == p.num) ⟨q, hq, by simpa using e⟩
  exact ⟨i, r, h1, h2, hc h r (List.mem_of_getElem? h2) (by simpa using h3)⟩
theorem As.same (p : PC) : As false p p := ⟨rfl, rfl, by simp, by simp⟩
theorem oth_all {qs l : List PC} {p : PC} (h : Asc qs) (hp : p ∈ qs) (hsub : ∀ q ∈ l, q.num = p.num → q ∈ qs) (hin : p ∈ l) : Oth false false l p :=
  oth_of (fun h => by cases h) (fun _ => ⟨p, hin, rfl⟩) (fun _ q hq e => by rw [h.uniq (hsub q hq e) hp e]; exact As.same p)
theorem come_ok {s x : Int} {ps : List PC} (h : comeE s ps x = 0) : chkB s ps = true ∧ hasB ps x = true := by
  unfold comeE at h
  cases hc : chkB s ps <;> rw [hc] at h
  · cases h
  · cases hh : hasB ps x <;> rw [hh] at h
    · cases h
    · exact ⟨rfl, rfl⟩
theorem come_ps {s x : Int} {ps : List PC} (h : comeE s ps x = 0) : (comeR s ps x).2 = ps.filter fun p => !(p.num == x) := by
  obtain ⟨h1, h2⟩ := come_ok h
  unfold comeR
  rw [if_pos h]
  exact without (chk_iff.1 h1).2.2.2 h2
theorem oth_come {s x : Int} {ps : List PC} {p : PC} (h : comeE s ps x = 0) (hp : p ∈ ps) : Oth (p.num == x) false (comeR s ps x).2 p := by
  have hA := (chk_iff.1 (come_ok h).1).2.2.2
  rw [come_ps h]
  cases hx : (p.num == x)
  · exact oth_all hA hp (fun q hq _ => (List.mem_filter.1 hq).1) (List.mem_filter.2 ⟨hp, by rw [hx]; rfl⟩)
  · refine oth_of (fun _ q hq e => ?_) (fun h => by cases h) (fun h => by cases h)
    have h3 := (List.mem_filter.1 hq).2
    rw [e, hx] at h3
    exact absurd h3 (by decide)
theorem oth_drop {s f t : Int} {ps : List PC} {p : PC} (h : dropE s ps f t = 0) (hp : p ∈ ps) : Oth (p.frm == f && p.to == t) false (dropR s ps f t).2 p := by
  have hc : chkB s ps = true := by
    unfold dropE at h
    cases hc : chkB s ps <;> rw [hc] at h
    · cases h
  have hA := (chk_iff.1 hc).2.2.2
  unfold dropR
  rw [if_pos h]
  dsimp only
  cases hx : (p.frm == f && p.to == t)
  · exact oth_all hA hp (fun q hq _ => (List.mem_filter.1 hq).1) (List.mem_filter.2 ⟨hp, by unfold dropB; rw [hx]; rfl⟩)
  · refine oth_of (fun _ q hq e => ?_) (fun h => by cases h) (fun h => by cases h)
    obtain ⟨h1, h2⟩ := List.mem_filter.1 hq
    rw [hA.uniq h1 hp e] at h2
    unfold dropB at h2
    rw [hx] at h2
    cases h2
theorem oth_more {s : Int} {ps : List PC} {p r : PC} (hc : chkB s ps = true) (hr : r.num = s + 1) (hp : p ∈ ps) : Oth false false (ps ++ [r]) p := by
  obtain ⟨_, _, hf, hA⟩ := chk_iff.1 hc
  refine oth_all hA hp (fun q hq e => ?_) (by simp [hp])
  rcases List.mem_append.1 hq with hq | hq
  · exact hq
  · rw [List.mem_singleton] at hq
    have := (hf p hp).le
    rw [hq, hr] at e
    omega
theorem send_ok {s f t : Int} {ps : List PC} {bs : List UInt8} (h : sendE s ps f t bs = 0) : chkB s ps = true ∧ pairB f t = true ∧ bs.length ≤ 60000 ∧ fullB s ps = false := by
  unfold sendE at h
  cases hc : chkB s ps <;> rw [hc] at h
  · cases h
  · cases hp : pairB f t <;> rw [hp] at h
    · cases h
    · rw [if_pos rfl, if_pos rfl] at h
      by_cases hl : 60000 < bs.length
      · rw [if_pos hl] at h; cases h
      · rw [if_neg hl] at h
        unfold addE at h
        cases hf : fullB s ps <;> rw [hf] at h
        · exact ⟨rfl, rfl, by omega, rfl⟩
        · cases h
theorem twin_ok {s x : Int} {ps : List PC} (h : twinE s ps x = 0) : chkB s ps = true ∧ hasB ps x = true ∧ fullB s ps = false := by
  unfold twinE at h
  cases hc : chkB s ps <;> rw [hc] at h
  · cases h
  · cases hp : hasB ps x <;> rw [hp] at h
    · cases h
    · rw [if_pos rfl, if_pos rfl] at h
      unfold addE at h
      cases hf : fullB s ps <;> rw [hf] at h
      · exact ⟨rfl, rfl, rfl⟩
      · cases h
theorem spoil_ok {s x a : Int} {y : UInt8} {ps : List PC} (h : spoilE s ps x a y = 0) : chkB s ps = true ∧ hasB ps x = true ∧ (getP ps x).sp = false ∧ 0 ≤ a ∧ a < ((getP ps x).bs.length : Int) ∧ y ≠ 0 := by
  unfold spoilE at h
  cases hc : chkB s ps <;> rw [hc] at h
  · cases h
  · cases hp : hasB ps x <;> rw [hp] at h
    · cases h
    · rw [if_pos rfl, if_pos rfl] at h
      cases hs : (getP ps x).sp <;> rw [hs] at h
      · rw [if_neg (by decide)] at h
        by_cases hl : a < 0 ∨ ((getP ps x).bs.length : Int) ≤ a ∨ y = 0
        · rw [if_pos hl] at h; cases h
        · exact ⟨rfl, rfl, rfl, by omega, by omega, fun e => hl (.inr (.inr e))⟩
      · cases h
theorem spoil_ps {s x a : Int} {y : UInt8} {ps : List PC} (h : spoilE s ps x a y = 0) : (spoilR s ps x a y).2 = ps.map fun p => if p.num = x then spoiled p a.toNat y else p := by
  obtain ⟨h1, h2, _⟩ := spoil_ok h
  unfold spoilR
  rw [if_pos h]
  exact changed (fun p => spoiled p a.toNat y) (chk_iff.1 h1).2.2.2 h2
theorem oth_spoil {s x a : Int} {y : UInt8} {ps : List PC} {p : PC} (h : spoilE s ps x a y = 0) (hp : p ∈ ps) : Oth false (p.num == x) (spoilR s ps x a y).2 p := by
  obtain ⟨hc, hh, hsp, ha0, ha1, hy⟩ := spoil_ok h
  have hA := (chk_iff.1 hc).2.2.2
  rw [spoil_ps h]
  have key : As (p.num == x) p (if p.num = x then spoiled p a.toNat y else p) := by
    by_cases hx : p.num = x
    · have hg : getP ps x = p := hA.uniq (getP_mem hh).1 hp (by rw [(getP_mem hh).2, hx])
      rw [hg] at hsp ha1
      rw [if_pos hx, show (p.num == x) = true from by simpa using hx]
      exact ⟨rfl, rfl, set_ne (by omega) hy, by simp [spoiled]⟩
    · rw [if_neg hx, show (p.num == x) = false from by simpa using hx]
      exact As.same p
  refine oth_of (fun h => by cases h) (fun _ => ⟨_, List.mem_map_of_mem hp, ?_⟩) (fun _ q hq e => ?_)
  · by_cases hx : p.num = x
    · rw [if_pos hx]; rfl
    · rw [if_neg hx]
  · obtain ⟨r, hr, rfl⟩ := List.mem_map.1 hq
    have e2 : r.num = p.num := by
      rw [← e]
      by_cases hx : r.num = x
      · rw [if_pos hx]; rfl
      · rw [if_neg hx]
    rw [hA.uniq hr hp e2]
    exact key
theorem len_filter {ps : List PC} (f : PC → Bool) : (ps.filter f).length ≤ ps.length + 1 := Nat.le_succ_of_le (List.length_filter_le _ _)
/-- what an op leaves -/
theorem oth_run {o : OpC} {s : Int} {ps : List PC} (he : (runT o s ps).e = 0) : (∀ p ∈ ps, Oth (goneO o (numI o ps) p) (ownO o (numI o ps) p) (runT o s ps).ps p) ∧ (runT o s ps).ps.length ≤ ps.length + 1 := by
  rcases kind_cases o with k | k | k | k | k | k | k | k
  iterate 3
    rw [show runT o s ps = _ from by unfold runT; rw [k, if_pos (by decide)]] at he ⊢
    dsimp only at he ⊢
    obtain ⟨hc, _, _, hf⟩ := send_ok he
    have e1 : (sendR s ps o.frm o.to (bytesO o)).2 = ps ++ [added s (newP o.frm o.to (bytesO o))] := by unfold sendR; rw [if_pos he]
    rw [e1]
    refine ⟨fun p hp => ?_, by simp⟩
    rw [show goneO o (numI o ps) p = false from by simp [goneO, k], show ownO o (numI o ps) p = false from by simp [ownO, k]]
    exact oth_more hc rfl hp
  · rw [show runT o s ps = _ from by unfold runT; rw [k, if_neg (by decide), if_pos rfl]] at he ⊢
    dsimp only at he ⊢
    refine ⟨fun p hp => ?_, by rw [come_ps he]; exact len_filter _⟩
    rw [show goneO o (numI o ps) p = (p.num == numI o ps) from by simp [goneO, k], show ownO o (numI o ps) p = false from by simp [ownO, k]]
    exact oth_come he hp
  · rw [show runT o s ps = _ from by unfold runT; rw [k, if_neg (by decide), if_neg (by decide), if_pos rfl]] at he ⊢
    dsimp only at he ⊢
    refine ⟨fun p hp => ?_, by rw [come_ps he]; exact len_filter _⟩
    rw [show goneO o (numI o ps) p = (p.num == numI o ps) from by simp [goneO, k], show ownO o (numI o ps) p = false from by simp [ownO, k]]
    exact oth_come he hp
  · rw [show runT o s ps = _ from by unfold runT; rw [k, if_neg (by decide), if_neg (by decide), if_neg (by decide), if_pos rfl]] at he ⊢
    dsimp only at he ⊢
    refine ⟨fun p hp => ?_, by unfold dropR; rw [if_pos he]; exact len_filter _⟩
    rw [show goneO o (numI o ps) p = (p.frm == o.frm && p.to == o.to) from by simp [goneO, k], show ownO o (numI o ps) p = false from by simp [ownO, k]]
    exact oth_drop he hp
  · rw [show runT o s ps = _ from by unfold runT; rw [k, if_neg (by decide), if_neg (by decide), if_neg (by decide), if_neg (by decide), if_pos rfl]] at he ⊢
    dsimp only at he ⊢
    obtain ⟨hc, _, hf⟩ := twin_ok he
    have e1 : (twinR s ps (numI o ps)).2 = ps ++ [added s (getP ps (numI o ps))] := by unfold twinR; rw [if_pos he]
    rw [e1]
    refine ⟨fun p hp => ?_, by simp⟩
    rw [show goneO o (numI o ps) p = false from by simp [goneO, k], show ownO o (numI o ps) p = false from by simp [ownO, k]]
    exact oth_more hc rfl hp
  · rw [show runT o s ps = _ from by unfold runT; rw [k, if_neg (by decide), if_neg (by decide), if_neg (by decide), if_neg (by decide), if_neg (by decide)]] at he ⊢
    dsimp only at he ⊢
    refine ⟨fun p hp => ?_, by rw [spoil_ps he]; simp⟩
    rw [show goneO o (numI o ps) p = false from by simp [goneO, k], show ownO o (numI o ps) p = (p.num == numI o ps) from by simp [ownO, k]]
    exact oth_spoil he hp
theorem run_zero {o : OpC} {s : Int} {ps : List PC} (he : (runT o s ps).e ≠ 0) : (runT o s ps).s = 0 ∧ (runT o s ps).ps = [] := by
  rcases kind_cases o with k | k | k | k | k | k | k | k
  · rw [show runT o s ps = _ from by unfold runT; rw [k, if_pos (by decide)]] at he ⊢
    dsimp only at he ⊢
    unfold sendR
    rw [if_neg he]
    exact ⟨rfl, rfl⟩
  · rw [show runT o s ps = _ from by unfold runT; rw [k, if_pos (by decide)]] at he ⊢
    dsimp only at he ⊢
    unfold sendR
    rw [if_neg he]
    exact ⟨rfl, rfl⟩
  · rw [show runT o s ps = _ from by unfold runT; rw [k, if_pos (by decide)]] at he ⊢
    dsimp only at he ⊢
    unfold sendR
    rw [if_neg he]
    exact ⟨rfl, rfl⟩
  · rw [show runT o s ps = _ from by unfold runT; rw [k, if_neg (by decide), if_pos rfl]] at he ⊢
    dsimp only at he ⊢
    unfold comeR
    rw [if_neg he]
    exact ⟨rfl, rfl⟩
  · rw [show runT o s ps = _ from by unfold runT; rw [k, if_neg (by decide), if_neg (by decide), if_pos rfl]] at he ⊢
    dsimp only at he ⊢
    unfold comeR
    rw [if_neg he]
    exact ⟨rfl, rfl⟩
  · rw [show runT o s ps = _ from by unfold runT; rw [k, if_neg (by decide), if_neg (by decide), if_neg (by decide), if_pos rfl]] at he ⊢
    dsimp only at he ⊢
    unfold dropR
    rw [if_neg he]
    exact ⟨rfl, rfl⟩
  · rw [show runT o s ps = _ from by unfold runT; rw [k, if_neg (by decide), if_neg (by decide), if_neg (by decide), if_neg (by decide), if_pos rfl]] at he ⊢
    dsimp only at he ⊢
    unfold twinR
    rw [if_neg he]
    exact ⟨rfl, rfl⟩
  · rw [show runT o s ps = _ from by unfold runT; rw [k, if_neg (by decide), if_neg (by decide), if_neg (by decide), if_neg (by decide), if_neg (by decide)]] at he ⊢
    dsimp only at he ⊢
    unfold spoilR
    rw [if_neg he]
    exact ⟨rfl, rfl⟩
end Go.Proofs.Ytnbcffnhgijmcaa
/- net.such: the numbers of the parcels that a test takes, one by one. Conditions: the slice reads as these parcels; the test answers for each. -/
namespace Go.Proofs.Ytnbcffnhgijmcaa
open Go.RowKit Go.Shelf
attribute [local go_sem] Oper.semAt_some
theorem grown_of_below {w w' : World} (h : Below w.heap.size w w') : w.grownBy w' none := ⟨h.os, h.tape, h.output, h.size, fun k hk _ => h.block k hk⟩
def takenP (f : PC → Bool) (ps : List PC) : List Int := (ps.filter f).map PC.num
theorem takenP_yes {f : PC → Bool} {ps : List PC} {k : Nat} {p : PC} (h : ps[k]? = some p) (hf : f p = true) : takenP f (ps.take (k + 1)) = takenP f (ps.take k) ++ [p.num] := by
  unfold takenP
  rw [filt_next h, hf, if_pos rfl, List.map_append]; rfl
theorem takenP_no {f : PC → Bool} {ps : List PC} {k : Nat} {p : PC} (h : ps[k]? = some p) (hf : f p = false) : takenP f (ps.take (k + 1)) = takenP f (ps.take k) := by
  unfold takenP
  rw [filt_next h, hf]; simp
theorem takenP_len (f : PC → Bool) (ps : List PC) (k : Nat) : (takenP f (ps.take k)).length ≤ k := by
  unfold takenP
  rw [List.length_map]
  exact Nat.le_trans (List.length_filter_le _ _) (by rw [List.length_take]; omega)
theorem takenP_pre (f : PC → Bool) (ps : List PC) (k : Nat) : takenP f (ps.take k) <+: takenP f ps := ((List.take_prefix k ps).filter f).map _
set_option maxRecDepth 100000 in
set_option maxHeartbeats 8000000 in
theorem such1_in (n : Nat) (hn : 1 ≤ n) (l Bn Bi n₀ : Nat) (A : Option Addr) (m c : Nat) (ps : List PC) (D : FuncId) (cap : Array Value) (f : PC → Bool) (J Jx : List Int → World → Prop) (W : World) (hJ : AbidesFrom W.heap.size J) (hm : m ≤ 20000)
    (hY : ∀ pre x W1, J pre W1 → pre.length < m → YieldAt Fence.wide (n - 1) Try.prog l #[.int .u64 x] W1 fun e W' => (e = .returned (.bool true) ∧ J (pre ++ [x]) W' ∧ Below n₀ W1 W') ∨ (e = .returned (.bool false) ∧ Jx (pre ++ [x]) W'))
    (hent : ∀ (args : Array Value) (w : World), (callFunc D args).run Try.prog w = .ok (.enter D args) w) (hD : TestC D cap f (fun W' => Below n₀ W W'))
    (hn₀ : n₀ ≤ W.heap.size) (hBn : W.cell? ⟨Bn, 1, none⟩ = some (.slice A m c)) (hBi : W.cell? ⟨Bi, 0, none⟩ = some (.func (.func D) #[] cap)) (hBi' : Bi < n₀) (h : LP.rd W (fun b => b < n₀) A m ps) (h0 : J [] W) :
    CallsIn Fence.wide n Try.prog 69 #[.func (.yield l) #[] #[], .pointer (some ⟨Bn, 0, none⟩), .pointer (some ⟨Bi, 0, none⟩)] W fun e W' => (∃ v, e = .returned v) ∧ ((∃ ys, ys = takenP f ps ∧ J ys W') ∨ (∃ pre, pre <+: takenP f ps ∧ Jx pre W')) := by
  have HLEN := Lib.hid h.1
  have HD := Lib.hid hD
  have HY := Lib.hid hY
  have HJ := Lib.hid hJ
  have HEN := hent
  clear hD hY hJ hent
  refine callsIn_of_wp Try.func69 rfl trivial ?_ rfl
  simp only [Try.ntmps69, List.size_toArray, List.length_cons, List.length_nil, Nat.reduceAdd, Nat.reduceSub, Array.replicate_succ, Array.replicate_zero, List.push_toArray, List.append_toArray, List.nil_append, List.cons_append]
  gi_wp2
  gi_loopw [9] (fun i wr => ∃ k : Nat, k ≤ m ∧ i = .int .i64 k ∧ J (takenP f (ps.take k)) wr ∧ Below n₀ W wr) (fun i _ => m - (intOf i).toNat)
  case atStart => exact ⟨0, Nat.zero_le _, rfl, h0, Below.refl _ _⟩
  case round =>
    obtain ⟨k, hk, rfl, hJs, hb⟩ := hrel
    by_cases hlt : k < m
    · have hi1 : (k : Int) < (m : Int) := by omega
      obtain ⟨ad, p, B, n', c', rfl, hx, s1⟩ := LP_at (Lay.rd_keep (w' := wr) (fun b hb' _ => hb.block b hb') h) hlt
      have e0 := s1.c0
      have e1 := s1.c1
      have e2 := s1.c2
      have e3 := s1.c3
      have e4 := s1.c4
      have b1 := bl_al (Below.refl wr.heap.size wr) (.cells #[.int .u64 p.num, .int .i64 p.frm, .int .i64 p.to, .slice B n' c', .bool p.sp] 29)
      have i0 : wr.cell? ⟨Bi, 0, none⟩ = some (.func (.func D) #[] cap) := (hb.cell (p := ⟨Bi, 0, none⟩) hBi').trans hBi
      have i1 : (wr.alloc (.cells #[.int .u64 p.num, .int .i64 p.frm, .int .i64 p.to, .slice B n' c', .bool p.sp] 29)).cell? ⟨Bi, 0, none⟩ = some (.func (.func D) #[] cap) := by
        rw [← i0]
        exact b1.cell (p := ⟨Bi, 0, none⟩) (by have := hb.size; simp only; omega)
      have HX := Lib.hid hx
      have HB0 := Lib.hid hb
      have hbW := hb.size
      have hb1 : Below n₀ W (wr.alloc (.cells #[.int .u64 p.num, .int .i64 p.frm, .int .i64 p.to, .slice B n' c', .bool p.sp] 29)) := hb.trans (b1.mono (by omega))
      have HC := Lib.hid (HD.out p B n' c' _ hb1)
      have HJS := Lib.hid hJs
      have bX := Blk.new wr 29 #[.int .u64 p.num, .int .i64 p.frm, .int .i64 p.to, .slice B n' c', .bool p.sp]
      clear hx s1 hb h hb1 hJs
      cases hf : f p
      · rw [hf] at HC
        have HN := Lib.hid (takenP_no HX.out hf)
        clear hf
        gi_wp2
        refine ⟨trivial, (callsIn_wide.2 HC.out).mono ?_⟩
        rintro e w2 ⟨rfl, q2⟩
        have T2 := bl_ca b1 q2
        have HJ2 := Lib.hid (HJ.out _ _ _ none HJS.out (grown_of_below T2) (fun r e => by cases e))
        have HB2 := Lib.hid (HB0.out.trans (T2.mono (by omega)))
        have hX2 := bX.ca q2
        have y0 : w2.cell? ⟨wr.heap.size, 0, none⟩ = some (.int .u64 p.num) := hX2.cell 0
        clear b1 q2 T2 hX2 bX i0 i1 e0 e1 e2 e3 e4 HC
        gi_wp2
        refine ⟨fun _ h => (by cases h), ?_⟩
        gi_wp2
        go_roundw
        case rel => exact ⟨k + 1, by omega, by go_num, by rw [HN.out]; exact HJ2.out, HB2.out⟩
        case measure => simp [intOf]; omega
      · rw [hf] at HC
        have HN := Lib.hid (takenP_yes HX.out hf)
        have hpl := takenP_len f ps k
        clear hf
        gi_wp2
        refine ⟨trivial, (callsIn_wide.2 HC.out).mono ?_⟩
        rintro e w2 ⟨rfl, q2⟩
        have T2 := bl_ca b1 q2
        have HB2 := Lib.hid (HB0.out.trans (T2.mono (by omega)))
        have hX2 := bX.ca q2
        have y0 : w2.cell? ⟨wr.heap.size, 0, none⟩ = some (.int .u64 p.num) := hX2.cell 0
        obtain ⟨fn, tmps, assign, body, hy, hR⟩ := HY.out _ p.num w2 (HJ.out _ _ _ none HJS.out (grown_of_below T2) (fun r e => by cases e)) (by omega)
        have HRR := Lib.hid hR
        clear b1 q2 T2 hX2 bX i0 i1 e0 e1 e2 e3 e4 HC hR
        gi_wp2
        refine HRR.out.mono ?_
        rintro e W3 (⟨rfl, hJ3, hk3⟩ | ⟨rfl, hJx3⟩)
        · have HJ3 := Lib.hid hJ3
          have HB3 := Lib.hid (HB2.out.trans hk3)
          clear hJ3 hk3 hy
          gi_wp2
          go_roundw
          case rel => exact ⟨k + 1, by omega, by go_num, by rw [HN.out]; exact HJ3.out, HB3.out⟩
          case measure => simp [intOf]; omega
        · clear hy
          gi_wp2
          refine bodyPost_ret (results_none rfl _ _ _) rfl ?_
          exact ⟨⟨_, rfl⟩, .inr ⟨_, by rw [← HN.out]; exact takenP_pre f ps (k + 1), hJx3⟩⟩
    · obtain rfl : k = m := by omega
      have hi1 : (k : Int) ≤ (k : Int) := by omega
      have HF := Lib.hid (show takenP f (ps.take k) = takenP f ps from by rw [List.take_of_length_le (by rw [HLEN.out]; exact Nat.le_refl _)])
      gi_wp2
      go_end0
      exact ⟨⟨_, rfl⟩, .inl ⟨_, rfl, by rw [← HF.out]; exact hJs⟩⟩
end Go.Proofs.Ytnbcffnhgijmcaa
/- net.collected: all that a function over which one ranges tells. Conditions: the function keeps to its contract. -/
namespace Go.Proofs.Ytnbcffnhgijmcaa
open Go.RowKit Go.Shelf
attribute [local go_sem] Oper.semAt_some
theorem Try.u64Info : (Try.prog.info? 23).map (fun i => (i.zero, i.size, i.bytes)) = some (some (.int .u64 0), 1, 8) := by kernel_rfl
set_option maxRecDepth 100000 in
set_option maxHeartbeats 8000000 in
theorem collected_in (n : Nat) (hn : 2 ≤ n) (gf : FuncId) (lb : Array Value) (xs : List Int) (N : Nat) (w : World) (hN : N ≤ 1000000) (eg : ∀ (args : Array Value) (w : World), (callFunc gf args).run Try.prog w = .ok (.enter gf args) w)
    (hseq : SeqStopsK Fence.wide (n - 1) Try.prog gf lb (fun x : Int => #[Value.int .u64 x]) (Below w.heap.size) (fun ys => ys = xs) (fun pre => pre <+: xs) N w) :
    CallsIn Fence.wide n Try.prog 50 #[.func (.func gf) #[] lb] w fun e W' => ∃ v, e = .returned v ∧ W'.ownsRow w.heap.size 23 1 v xs.length (xs.map (Value.int .u64)) ∧ Below w.heap.size w W' := by
  have h1 : 1 ≤ n := by omega
  obtain ⟨i0, hi, hz0, hz1, hz2⟩ := info_parts Try.u64Info
  refine callsIn_of_wp_marks Try.func50 rfl trivial ?_ rfl
  simp only [Try.ntmps50, List.size_toArray, List.length_cons, List.length_nil, Nat.reduceAdd, Nat.reduceSub, Array.replicate_succ, Array.replicate_zero, List.push_toArray, List.append_toArray, List.nil_append, List.cons_append]
  gi_wp2
  have bO := Boxed.new w 38 (.slice none 0 0)
  have hB0 : Below w.heap.size w (w.alloc (.cells #[.slice none 0 0] 38)) := (Below.refl _ w).alloc (Nat.le_refl _) _
  refine wpIn_rangeFunc_ownG rfl h1 (gf := gf) (lb := lb) rfl trivial eg hseq belowK_t (belowK_b (by simp)) hB0 (fun _ => rfl)
    (fun (pre : List Int) W => (∃ v, Boxed W w.heap.size 38 v ∧ W.ownsRow w.heap.size 23 1 v pre.length (pre.map (Value.int .u64)) ∧ True) ∧ Below w.heap.size w W)
    (fun _ _ _ => False)
    (OwnFrom.and (Own.from (holdsRow_own w.heap.size w.heap.size 38 23 1 (fun pre : List Int => pre.length) (fun pre : List Int => pre.map (Value.int .u64)) (fun _ _ => True)) _) (ownFrom_below (Nat.le_refl _) (by simp)))
    (fun _ _ _ _ _ hs _ _ => hs)
    ⟨⟨_, bO, World.ownsRow_nil _ _ _ _, trivial⟩, hB0⟩
    (fun x => { tmps := #[.func (.func gf) #[] lb, undef, .slice none 0 0, .pointer (some ⟨w.heap.size, 0, none⟩), .int .u64 x, .func (.func gf) #[] lb, .int .u64 x, undef, undef, undef, undef, undef], defers := [] }) ?assign ?body ?done ?stop
  case assign =>
    intro l x W K hK
    gi_wp2
    exact hK
  case body =>
    rintro l pre x W ⟨⟨v, hv, hrow, _⟩, hB⟩ hlt
    have hc := hv.cell
    gi_wp2_with (gi_at_builtin; refine wpListIn_append_own _ rfl _ _ 38 rfl w.heap.size 23 i0 (.int .u64 0) 1 8 Try.underlying38 hi hz0 hz1 hz2 rfl (by decide) _ _ _ rfl (hrow.alloc _) ⟨W.heap.size, 0, none⟩ 1 1 [.int .u64 x] rfl rfl (cell_one_new _ _ _) (by simp [Value.oneCell']) (by unfold maxLen; omega) (by omega) (by have := hB.size; simp; omega) ?_; intro v' w1 hown' hgrow _; obtain ⟨g', cap', rfl⟩ := ownsRow_succ hown'; obtain ⟨hv1, hv2, hr2, hk2, hb2⟩ := hv.appended (by decide) hrow hB.size (Nat.le_refl _) hown' hgrow; have hc1 := hv1.cell; have hf1 := hv1.frozen)
    exact ⟨hk2.from _, hb2, ⟨_, hv2, by simpa using hr2, trivial⟩, hB.trans hb2⟩
  case done =>
    rintro D ys W hD rfl ⟨⟨v, hv, hrow, _⟩, hB⟩ hK
    have hc := hv.cell
    gi_wp2
    refine ⟨by simp, .inl ⟨_, _, rfl, run_takeDeferred hK, ?_⟩⟩
    exact ⟨_, results_tmp rfl _ _ _, v, rfl, ownsRow_putObj hrow _ hK rfl, hB.trans (belowK_b (w := w) (Nat.le_refl _) W D _ _ (by simp at hD; omega) hK rfl rfl)⟩
  case stop =>
    rintro D c pre W _ _ h _
    exact h.elim
end Go.Proofs.Ytnbcffnhgijmcaa
/- net.For. Conditions: the slice reads as these parcels. -/
namespace Go.Proofs.Ytnbcffnhgijmcaa
open Go.RowKit Go.Shelf
/-- numbers in memory -/
def LU : Lay Int := Lay.cell (Value.int .u64) (fun _ => rfl)
theorem LU_reps (w : World) (F : Nat → Prop) : ∀ xs : List Int, LU.reps w F xs (xs.map (Value.int .u64))
  | [] => rfl
  | x :: l => ⟨[.int .u64 x], l.map (Value.int .u64), rfl, rfl, LU_reps w F l⟩
/-- a row of numbers that the call owns -/
def OwnU (w : World) (B : Nat) (A : Option Addr) (n c : Nat) (xs : List Int) : Prop := LU.own 23 w B (fun _ => False) A n c xs
theorem OwnU.rd {w : World} {B : Nat} {A : Option Addr} {n c : Nat} {xs : List Int} (h : OwnU w B A n c xs) : LU.rd w AllB A n xs := Lay.own_rd h (fun _ _ _ => trivial) (fun _ h _ => h.elim)
theorem OwnU.of {w : World} {B : Nat} {v : Value} {xs : List Int} (h : w.ownsRow B 23 1 v xs.length (xs.map (Value.int .u64))) : ∃ A c, v = .slice A xs.length c ∧ OwnU w B A xs.length c xs := by
  obtain ⟨A, c, rfl⟩ := own_form' h
  exact ⟨A, c, rfl, rfl, _, LU_reps _ _ _, h⟩
theorem OwnU.nil (w : World) (B : Nat) : OwnU w B none 0 0 [] := Lay.own_nil w B
theorem OwnU.len {w : World} {B : Nat} {A : Option Addr} {n c : Nat} {xs : List Int} (h : OwnU w B A n c xs) : xs.length = n := h.1
theorem OwnU.less {w : World} {B B' : Nat} {A : Option Addr} {n c : Nat} {xs : List Int} (h : OwnU w B A n c xs) (hB : B' ≤ B) : OwnU w B' A n c xs := by
  obtain ⟨h1, cs, h2, h3⟩ := h
  refine ⟨h1, cs, h2, h3.1, ?_⟩
  rcases h3.2 with h4 | ⟨g, cap, cur, e, hg, r⟩
  · exact .inl h4
  · exact .inr ⟨g, cap, cur, e, Nat.le_trans hB hg, r⟩
set_option maxRecDepth 100000 in
theorem such_any (sent : Int) (A : Option Addr) (m c : Nat) (D : FuncId) (cap : Array Value) (w : World) :
    Calls Try.prog 51 #[.agg #[.int .u64 sent, .slice A m c], .func (.func D) #[] cap] w fun e w' => e = .returned (.func (.func 69) #[] #[.pointer (some ⟨w.heap.size, 0, none⟩), .pointer (some ⟨w.heap.size + 1, 0, none⟩)]) ∧ w' = (w.alloc (.cells #[.int .u64 sent, .slice A m c] 26)).alloc (.cells #[.func (.func D) #[] cap] 63) := by
  go_enter Try.func51, Try.ntmps51
  go_wp2
  go_ret
  exact ⟨rfl, rfl⟩
set_option maxRecDepth 100000 in
theorem fort_any (q : PC) (B : Option Addr) (n c : Nat) (own : Int) (g : Nat) (w : World) (hp : Blk w g 3 #[.int .i64 own]) :
    Calls Try.prog 52 #[.agg #[.int .u64 q.num, .int .i64 q.frm, .int .i64 q.to, .slice B n c, .bool q.sp], .pointer (some ⟨g, 0, none⟩)] w fun e w' => e = .returned (.bool (q.to == own)) ∧ Below w.heap.size w w' := by
  have b1 := bl_al (Below.refl w.heap.size w) (.cells #[.int .u64 q.num, .int .i64 q.frm, .int .i64 q.to, .slice B n c, .bool q.sp] 29)
  have bX := Blk.new w 29 #[.int .u64 q.num, .int .i64 q.frm, .int .i64 q.to, .slice B n c, .bool q.sp]
  have x0 := bX.cell 2
  have f0 : (w.alloc (.cells #[.int .u64 q.num, .int .i64 q.frm, .int .i64 q.to, .slice B n c, .bool q.sp] 29)).cell? ⟨g, 0, none⟩ = some (.int .i64 own) := (hp.ca b1).cell 0
  simp at x0 f0
  go_enter Try.func52, Try.ntmps52
  go_wp2
  go_ret
  exact ⟨rfl, b1⟩
theorem stops_mono {α : Type} {F : Fence} {n : Nat} {P : Program} {g : Nat} {lb : Array Value} {encs : α → Array Value} {Kp : World → World → Prop} {S Sp : List α → Prop} {N : Nat} {w w1 : World} (h : SeqStopsK F n P g lb encs Kp S Sp N w) (q : Below w.heap.size w w1) : SeqStopsK F n P g lb encs Kp S Sp N w1 :=
  fun l J Jx W hW hJ hJx hY h0 => h l J Jx W (q.trans (hW.mono q.size)) hJ hJx hY h0
def forL (sent : Int) (ps : List PC) (own : Int) : List Int := if chkB sent ps then takenP (fun q => q.to == own) ps else []
set_option maxRecDepth 100000 in
set_option maxHeartbeats 4000000 in
theorem for_any (sent : Int) (A : Option Addr) (m c : Nat) (ps : List PC) (own : Int) (w : World) (h : LP.rd w AllB A m ps) (hm : m ≤ 9223372036854775807) :
    Calls Try.prog 18 #[.agg #[.int .u64 sent, .slice A m c], .int .i64 own] w fun e w' => ∃ A2 k c2, e = .returned (.slice A2 k c2) ∧ OwnU w' w.heap.size A2 k c2 (forL sent ps own) ∧ Below w.heap.size w w' := by
  have HC := Lib.hid (fun W (h : LP.rd W AllB A m ps) => check_any AllB sent A m c ps W h hm)
  have b1 := bl_al (bl_al (Below.refl w.heap.size w) (.cells #[.int .u64 sent, .slice A m c] 26)) (.cells #[.int .i64 own] 3)
  have bN := (Blk.new w 26 #[.int .u64 sent, .slice A m c]).ca (bl_al (Below.refl _ _) (.cells #[.int .i64 own] 3))
  have bO : Blk _ (w.heap.size + 1) _ _ := Blk.mk' (w := w.alloc (.cells #[.int .u64 sent, .slice A m c] 26)) (t := 3) (cs := #[.int .i64 own]) (by simp only [World.size_alloc])
  have hsz : w.heap.size + 2 ≤ ((w.alloc (.cells #[.int .u64 sent, .slice A m c] 26)).alloc (.cells #[.int .i64 own] 3)).heap.size := by simp only [World.size_alloc]; omega
  have hrd := Lib.hid (Lay.rd_below h b1)
  clear h
  cases hc : chkB sent ps
  · rw [show forL sent ps own = [] from by unfold forL; rw [hc]; rfl]
    rw [hc, show errN false = 340 from rfl] at HC
    clear hc
    go_enter Try.func18, Try.ntmps18
    go_wp2_with fail
    generalize (w.alloc (.cells #[.int .u64 sent, .slice A m c] 26)).alloc (.cells #[.int .i64 own] 3) = w1 at *
    refine (HC.out _ hrd.out).mono ?_
    rintro e w2 ⟨rfl, q2⟩
    have b2 := bl_ca b1 q2
    clear q2 bN bO
    go_wp2
    go_ret
    exact ⟨none, 0, 0, rfl, OwnU.nil _ _, b2⟩
  · rw [show forL sent ps own = takenP (fun q => q.to == own) ps from by unfold forL; rw [hc]; rfl]
    have hm2 : m ≤ 20000 := by have := (chk_rng hc).2; have := Lay.rd_len hrd.out; omega
    rw [hc, show errN true = 0 from rfl] at HC
    clear hc
    go_enter Try.func18, Try.ntmps18
    go_wp2_with fail
    generalize (w.alloc (.cells #[.int .u64 sent, .slice A m c] 26)).alloc (.cells #[.int .i64 own] 3) = w1 at *
    refine (HC.out _ hrd.out).mono ?_
    rintro e w2 ⟨rfl, q2⟩
    have b2 := Lib.hid (bl_ca b1 q2)
    have HO := Lib.hid (bO.ca q2)
    have hrd2 := Lib.hid (Lay.rd_below hrd.out q2)
    have x0 : w2.cell? ⟨w.heap.size, 0, none⟩ = some (.int .u64 sent) := (bN.ca q2).cell 0
    have x1 : w2.cell? ⟨w.heap.size, 1, none⟩ = some (.slice A m c) := (bN.ca q2).cell 1
    have hs2 := Nat.le_trans hsz q2.size
    clear q2 bN bO b1 hrd HC hsz
    go_wp2_with fail
    refine (such_any sent A m c _ _ w2).mono ?_
    rintro e w3 ⟨rfl, rfl⟩
    have q3 := bl_al (bl_al (Below.refl w2.heap.size w2) (.cells #[.int .u64 sent, .slice A m c] 26)) (.cells #[.func (.func 52) #[] #[.pointer (some ⟨w.heap.size + 1, 0, none⟩)]] 63)
    have cN := (Blk.new w2 26 #[.int .u64 sent, .slice A m c]).ca (bl_al (Below.refl _ _) (.cells #[.func (.func 52) #[] #[.pointer (some ⟨w.heap.size + 1, 0, none⟩)]] 63))
    have cI : Blk _ (w2.heap.size + 1) _ _ := Blk.mk' (w := w2.alloc (.cells #[.int .u64 sent, .slice A m c] 26)) (t := 63) (cs := #[.func (.func 52) #[] #[.pointer (some ⟨w.heap.size + 1, 0, none⟩)]]) (by simp only [World.size_alloc])
    have hs3 : w2.heap.size + 2 ≤ ((w2.alloc (.cells #[.int .u64 sent, .slice A m c] 26)).alloc (.cells #[.func (.func 52) #[] #[.pointer (some ⟨w.heap.size + 1, 0, none⟩)]] 63)).heap.size := by simp only [World.size_alloc]; omega
    have HO3 := Lib.hid (HO.out.ca q3)
    have hrd3 := Lib.hid (Lay.rd_below hrd2.out q3)
    have HB3 := Lib.hid (bl_ca b2.out q3)
    clear x0 x1 q3 HO hrd2 b2
    generalize (w2.alloc (.cells #[.int .u64 sent, .slice A m c] 26)).alloc (.cells #[.func (.func 52) #[] #[.pointer (some ⟨w.heap.size + 1, 0, none⟩)]] 63) = w3 at *
    have hseq : SeqStopsK Fence.wide 2 Try.prog 69 #[.pointer (some ⟨w2.heap.size, 0, none⟩), .pointer (some ⟨w2.heap.size + 1, 0, none⟩)] (fun x : Int => #[Value.int .u64 x]) (Below w3.heap.size) (fun ys => ys = takenP (fun q => q.to == own) ps) (fun pre => pre <+: takenP (fun q => q.to == own) ps) m w3 := by
      intro l J Jx W hW hJ hJx hY h0
      exact such1_in 2 (by omega) l w2.heap.size (w2.heap.size + 1) w3.heap.size A m c ps 52 #[.pointer (some ⟨w.heap.size + 1, 0, none⟩)] (fun q => q.to == own) J Jx W hJ hm2 hY (Go.Proofs.enters_of Try.func52 (by kernel_rfl) rfl)
        (fun q B n c W' hW' => fort_any q B n c own (w.heap.size + 1) W' ((HO3.out.below hW (by omega)).below hW' (by omega))) hW.size ((cN.below hW (by omega)).cell 1) ((cI.below hW (by omega)).cell 0) (by omega)
        (Lay.rd_keep (fun b hb hlt => hW.block b hb) (Lay.rd_weak (fun b _ hb => hb) hrd3.out)) h0
    have HCO := Lib.hid (callsIn_wide.1 (collected_in 3 (by omega) 69 #[.pointer (some ⟨w2.heap.size, 0, none⟩), .pointer (some ⟨w2.heap.size + 1, 0, none⟩)] _ m w3 (by omega) (Go.Proofs.enters_of Try.func69 (by kernel_rfl) rfl) hseq))
    clear hseq cN cI HO3 hrd3
    go_wp2_with fail
    refine HCO.out.mono ?_
    rintro e w4 ⟨v, rfl, ho, q4⟩
    obtain ⟨A2, c2, rfl, hu⟩ := OwnU.of ho
    have HU := Lib.hid (hu.less (B' := w.heap.size) (by omega))
    have HB4 := Lib.hid (bl_ca HB3.out q4)
    clear ho hu q4 HCO
    go_wp2
    go_ret
    exact ⟨A2, _, c2, rfl, HU.out, HB4.out⟩
end Go.Proofs.Ytnbcffnhgijmcaa
/- net.Pick. Conditions: the slice reads as these parcels. -/
namespace Go.Proofs.Ytnbcffnhgijmcaa
open Go.RowKit
def pickAt (ps : List PC) (k : Int) : Int := ((ps[(max k 0 % (ps.length : Int)).toNat]?).getD zeroPC').num
def pickB (sent : Int) (ps : List PC) : Bool := chkB sent ps && decide (0 < ps.length)
set_option maxRecDepth 100000 in
set_option maxHeartbeats 4000000 in
theorem pick_any (sent : Int) (A : Option Addr) (m c : Nat) (ps : List PC) (k : Int) (w : World) (h : LP.rd w AllB A m ps) (hm : m ≤ 9223372036854775807) :
    Calls Try.prog 20 #[.agg #[.int .u64 sent, .slice A m c], .int .i64 k] w fun e w' => e = .returned (.tuple #[.int .u64 (if pickB sent ps then pickAt ps k else 0), .bool (pickB sent ps)]) ∧ Below w.heap.size w w' := by
  have HC := Lib.hid (fun W (h : LP.rd W AllB A m ps) => check_any AllB sent A m c ps W h hm)
  have b1 := bl_al (Below.refl w.heap.size w) (.cells #[.int .u64 sent, .slice A m c] 26)
  have bN := Blk.new w 26 #[.int .u64 sent, .slice A m c]
  have hrd := Lib.hid (Lay.rd_below h b1)
  have hlen := h.1
  clear h
  cases hc : chkB sent ps
  · rw [show pickB sent ps = false from by unfold pickB; rw [hc]; rfl]
    rw [hc, show errN false = 340 from rfl] at HC
    clear hc
    go_enter Try.func20, Try.ntmps20
    go_wp2_with fail
    generalize w.alloc (.cells #[.int .u64 sent, .slice A m c] 26) = w1 at *
    refine (HC.out _ hrd.out).mono ?_
    rintro e w2 ⟨rfl, q2⟩
    have b2 := bl_ca b1 q2
    clear q2 bN
    go_wp2
    go_ret2
    exact ⟨rfl, b2⟩
  · rcases Nat.eq_zero_or_pos m with h0 | h0
    · subst h0
      have hps : ps = [] := List.eq_nil_of_length_eq_zero hlen
      subst hps
      rw [show pickB sent [] = false from by unfold pickB; simp]
      rw [hc, show errN true = 0 from rfl] at HC
      clear hc hlen
      go_enter Try.func20, Try.ntmps20
      go_wp2_with fail
      generalize w.alloc (.cells #[.int .u64 sent, .slice A 0 c] 26) = w1 at *
      refine (HC.out _ hrd.out).mono ?_
      rintro e w2 ⟨rfl, q2⟩
      have b2 := bl_ca b1 q2
      have x1 : w2.cell? ⟨w.heap.size, 1, none⟩ = some (.slice A 0 c) := (bN.ca q2).cell 1
      clear q2 bN
      go_wp2
      go_ret2
      exact ⟨rfl, b2⟩
    · rw [show pickB sent ps = true from by unfold pickB; rw [hc, hlen]; simpa using h0]
      rw [hc, show errN true = 0 from rfl] at HC
      clear hc
      have hi0 := Int.emod_nonneg (max k 0) (show (m : Int) ≠ 0 by omega)
      have hi1 := Int.emod_lt_of_pos (max k 0) (show (0 : Int) < (m : Int) by omega)
      obtain ⟨i, hi⟩ : ∃ i : Nat, max k 0 % (m : Int) = i := ⟨_, (Int.toNat_of_nonneg hi0).symm⟩
      rw [hi] at hi0 hi1
      have him : i < m := by omega
      have hmx : 0 ≤ max k 0 := by omega
      have HT : (max k 0).tmod (m : Int) = (i : Int) := by rw [Int.tmod_eq_emod_of_nonneg hmx, hi]
      have hps := hlen
      rw [if_pos rfl]
      obtain ⟨v, hv⟩ : ∃ v, v = pickAt ps k := ⟨_, rfl⟩
      rw [← hv]
      have HV := Lib.hid (show v = ((ps[i]?).getD zeroPC').num from by rw [hv]; unfold pickAt; rw [hps, hi, Int.toNat_natCast])
      clear hv hi hps hlen
      go_enter Try.func20, Try.ntmps20
      go_wp2_with fail
      generalize w.alloc (.cells #[.int .u64 sent, .slice A m c] 26) = w1 at *
      refine (HC.out _ hrd.out).mono ?_
      rintro e w2 ⟨rfl, q2⟩
      have b2 := bl_ca b1 q2
      have x1 : w2.cell? ⟨w.heap.size, 1, none⟩ = some (.slice A m c) := (bN.ca q2).cell 1
      obtain ⟨q, x, C, n', c', rfl, hx, s1⟩ := LP_at (Lay.rd_below hrd.out q2) him
      have e0 := s1.c0
      have HQ := Lib.hid (show v = x.num from by rw [HV.out, hx]; rfl)
      have hm1 : (0 : Int) < (m : Int) := by omega
      have hm0 : (m : Int) ≠ 0 := by omega
      clear q2 bN hx s1 hrd b1 HV
      go_wp2_with fail
      go_quiet (fail)
      go_wp2
      go_ret2
      exact ⟨by rw [HQ.out]; rfl, bl_dr b2 _⟩
end Go.Proofs.Ytnbcffnhgijmcaa
/- Each parcel is for one node, and can come: plain lists. Conditions: the net may be. -/
namespace Go.Proofs.Ytnbcffnhgijmcaa
/-- how many are for the nodes before j -/
def forCnt (ps : List PC) (j : Nat) : Nat := (ps.filter fun q => decide (0 ≤ q.to) && decide (q.to < (j : Int))).length
theorem forCnt_zero (ps : List PC) : forCnt ps 0 = 0 := by
  unfold forCnt
  rw [List.filter_eq_nil_iff.2 (fun q _ => by simp)]; rfl
theorem forCnt_succ (ps : List PC) (j : Nat) : forCnt ps (j + 1) = forCnt ps j + (takenP (fun q => q.to == (j : Int)) ps).length := by
  unfold forCnt takenP
  rw [List.length_map]
  induction ps with
  | nil => rfl
  | cons p l ih =>
    by_cases h1 : p.to = (j : Int)
    · rw [List.filter_cons_of_pos (by simp [h1]; omega), List.filter_cons_of_neg (by simp [h1]), List.filter_cons_of_pos (by simp [h1])]
      simp only [List.length_cons]
      omega
    · by_cases h2 : 0 ≤ p.to ∧ p.to < (j : Int)
      · rw [List.filter_cons_of_pos (by simp; omega), List.filter_cons_of_pos (by simp; omega), List.filter_cons_of_neg (by simpa using h1)]
        simp only [List.length_cons]
        omega
      · rw [List.filter_cons_of_neg (by simp; omega), List.filter_cons_of_neg (by simp; omega), List.filter_cons_of_neg (by simpa using h1)]
        exact ih
theorem pair_to {f t : Int} (h : pairB f t = true) : 0 ≤ t ∧ t ≤ 8 := by
  unfold pairB at h
  simp only [Bool.and_eq_true, decide_eq_true_eq] at h
  omega
theorem forCnt_all {s : Int} {ps : List PC} (h : chkB s ps = true) : forCnt ps 10 = ps.length := by
  unfold forCnt
  rw [List.filter_eq_self.2]
  intro q hq
  have := pair_to ((chk_iff.1 h).2.2.1 q hq).pair
  simp
  omega
theorem forCnt_le (ps : List PC) (j : Nat) : forCnt ps j ≤ ps.length := List.length_filter_le _ _
theorem has_of {ps : List PC} {p : PC} (h : p ∈ ps) : hasB ps p.num = true := List.any_eq_true.2 ⟨p, h, by simp⟩
/-- what is for a node can come, and is for it -/
theorem for_come {s : Int} {ps : List PC} (h : chkB s ps = true) {j : Int} {x : Int} (hx : x ∈ takenP (fun q => q.to == j) ps) : comeE s ps x = 0 ∧ (comeP s ps x).to = j := by
  unfold takenP at hx
  obtain ⟨p, hp, rfl⟩ := List.mem_map.1 hx
  obtain ⟨hp1, hp2⟩ := List.mem_filter.1 hp
  have hh := has_of hp1
  have he : comeE s ps p.num = 0 := by unfold comeE; rw [h, hh]; rfl
  refine ⟨he, ?_⟩
  unfold comeP
  rw [if_pos he, (chk_iff.1 h).2.2.2.uniq (getP_mem hh).1 hp1 (getP_mem hh).2]
  simpa using hp2
/-- what is picked can be lost -/
theorem pick_lose {s : Int} {ps : List PC} (h : chkB s ps = true) (h0 : 0 < ps.length) (k : Int) : comeE s ps (pickAt ps k) = 0 ∧ (comeR s ps (pickAt ps k)).2.length + 1 = ps.length := by
  have hi0 := Int.emod_nonneg (max k 0) (show (ps.length : Int) ≠ 0 by omega)
  have hi1 := Int.emod_lt_of_pos (max k 0) (show (0 : Int) < (ps.length : Int) by omega)
  have hi : (max k 0 % (ps.length : Int)).toNat < ps.length := by omega
  have hp : pickAt ps k = (ps[(max k 0 % (ps.length : Int)).toNat]).num := by unfold pickAt; rw [List.getElem?_eq_getElem hi]; rfl
  have hh : hasB ps (pickAt ps k) = true := by rw [hp]; exact has_of (List.getElem_mem hi)
  have he : comeE s ps (pickAt ps k) = 0 := by unfold comeE; rw [h, hh]; rfl
  refine ⟨he, ?_⟩
  unfold comeR
  rw [if_pos he]
  have hl : ixP ps (pickAt ps k) < ps.length := by
    obtain ⟨p, hp, hx⟩ := List.any_eq_true.1 hh
    exact List.findIdx_lt_length_of_exists ⟨p, hp, hx⟩
  simp only [List.length_append, List.length_take, List.length_drop]
  omega
end Go.Proofs.Ytnbcffnhgijmcaa
/- net.Same's test of two parcels. Conditions: the parcels' bytes read so. -/
namespace Go.Proofs.Ytnbcffnhgijmcaa
open Go.RowKit
set_option maxRecDepth 100000 in
set_option maxHeartbeats 4000000 in
theorem samec_any (a b : PC) (A : Option Addr) (n c : Nat) (B : Option Addr) (m d : Nat) (w : World) (ha : RdB w A n a.bs) (hb : RdB w B m b.bs) :
    Calls Try.prog 60 #[.agg #[.int .u64 a.num, .int .i64 a.frm, .int .i64 a.to, .slice A n c, .bool a.sp], .agg #[.int .u64 b.num, .int .i64 b.frm, .int .i64 b.to, .slice B m d, .bool b.sp]] w fun e w' => e = .returned (.bool (sameP a b)) ∧ Below w.heap.size w w' := by
  obtain ⟨r, hr⟩ : ∃ r, r = sameP a b := ⟨_, rfl⟩
  rw [← hr]
  have HR := Lib.hid hr
  clear hr
  have bb := Below.refl w.heap.size w
  have bA := Blk.new w 29 #[.int .u64 a.num, .int .i64 a.frm, .int .i64 a.to, .slice A n c, .bool a.sp]
  replace bb := bl_al bb (.cells #[.int .u64 a.num, .int .i64 a.frm, .int .i64 a.to, .slice A n c, .bool a.sp] 29)
  replace bA := bA.ca (bl_al (Below.refl _ _) (.cells #[.int .u64 b.num, .int .i64 b.frm, .int .i64 b.to, .slice B m d, .bool b.sp] 29))
  have bB : Blk ((w.alloc (.cells #[.int .u64 a.num, .int .i64 a.frm, .int .i64 a.to, .slice A n c, .bool a.sp] 29)).alloc (.cells #[.int .u64 b.num, .int .i64 b.frm, .int .i64 b.to, .slice B m d, .bool b.sp] 29)) (w.heap.size + 1) 29 #[.int .u64 b.num, .int .i64 b.frm, .int .i64 b.to, .slice B m d, .bool b.sp] := Blk.mk' (by simp only [World.size_alloc])
  replace bb := bl_al bb (.cells #[.int .u64 b.num, .int .i64 b.frm, .int .i64 b.to, .slice B m d, .bool b.sp] 29)
  have hsz : w.heap.size + 2 ≤ ((w.alloc (.cells #[.int .u64 a.num, .int .i64 a.frm, .int .i64 a.to, .slice A n c, .bool a.sp] 29)).alloc (.cells #[.int .u64 b.num, .int .i64 b.frm, .int .i64 b.to, .slice B m d, .bool b.sp] 29)).heap.size := by simp only [World.size_alloc]; omega
  have h1 := (ha.below bb).str c
  have h2 := (hb.below bb).str d
  clear ha hb
  have HBB := Lib.hid bb
  have x0 : ((w.alloc (.cells #[.int .u64 a.num, .int .i64 a.frm, .int .i64 a.to, .slice A n c, .bool a.sp] 29)).alloc (.cells #[.int .u64 b.num, .int .i64 b.frm, .int .i64 b.to, .slice B m d, .bool b.sp] 29)).cell? ⟨w.heap.size, 0, none⟩ = some (.int .u64 a.num) := bA.cell 0
  have x1 : ((w.alloc (.cells #[.int .u64 a.num, .int .i64 a.frm, .int .i64 a.to, .slice A n c, .bool a.sp] 29)).alloc (.cells #[.int .u64 b.num, .int .i64 b.frm, .int .i64 b.to, .slice B m d, .bool b.sp] 29)).cell? ⟨w.heap.size, 1, none⟩ = some (.int .i64 a.frm) := bA.cell 1
  have x2 : ((w.alloc (.cells #[.int .u64 a.num, .int .i64 a.frm, .int .i64 a.to, .slice A n c, .bool a.sp] 29)).alloc (.cells #[.int .u64 b.num, .int .i64 b.frm, .int .i64 b.to, .slice B m d, .bool b.sp] 29)).cell? ⟨w.heap.size, 2, none⟩ = some (.int .i64 a.to) := bA.cell 2
  have x3 : ((w.alloc (.cells #[.int .u64 a.num, .int .i64 a.frm, .int .i64 a.to, .slice A n c, .bool a.sp] 29)).alloc (.cells #[.int .u64 b.num, .int .i64 b.frm, .int .i64 b.to, .slice B m d, .bool b.sp] 29)).cell? ⟨w.heap.size, 3, none⟩ = some (.slice A n c) := bA.cell 3
  have x4 : ((w.alloc (.cells #[.int .u64 a.num, .int .i64 a.frm, .int .i64 a.to, .slice A n c, .bool a.sp] 29)).alloc (.cells #[.int .u64 b.num, .int .i64 b.frm, .int .i64 b.to, .slice B m d, .bool b.sp] 29)).cell? ⟨w.heap.size, 4, none⟩ = some (.bool a.sp) := bA.cell 4
  have y0 : ((w.alloc (.cells #[.int .u64 a.num, .int .i64 a.frm, .int .i64 a.to, .slice A n c, .bool a.sp] 29)).alloc (.cells #[.int .u64 b.num, .int .i64 b.frm, .int .i64 b.to, .slice B m d, .bool b.sp] 29)).cell? ⟨w.heap.size + 1, 0, none⟩ = some (.int .u64 b.num) := bB.cell 0
  have y1 : ((w.alloc (.cells #[.int .u64 a.num, .int .i64 a.frm, .int .i64 a.to, .slice A n c, .bool a.sp] 29)).alloc (.cells #[.int .u64 b.num, .int .i64 b.frm, .int .i64 b.to, .slice B m d, .bool b.sp] 29)).cell? ⟨w.heap.size + 1, 1, none⟩ = some (.int .i64 b.frm) := bB.cell 1
  have y2 : ((w.alloc (.cells #[.int .u64 a.num, .int .i64 a.frm, .int .i64 a.to, .slice A n c, .bool a.sp] 29)).alloc (.cells #[.int .u64 b.num, .int .i64 b.frm, .int .i64 b.to, .slice B m d, .bool b.sp] 29)).cell? ⟨w.heap.size + 1, 2, none⟩ = some (.int .i64 b.to) := bB.cell 2
  have y3 : ((w.alloc (.cells #[.int .u64 a.num, .int .i64 a.frm, .int .i64 a.to, .slice A n c, .bool a.sp] 29)).alloc (.cells #[.int .u64 b.num, .int .i64 b.frm, .int .i64 b.to, .slice B m d, .bool b.sp] 29)).cell? ⟨w.heap.size + 1, 3, none⟩ = some (.slice B m d) := bB.cell 3
  have y4 : ((w.alloc (.cells #[.int .u64 a.num, .int .i64 a.frm, .int .i64 a.to, .slice A n c, .bool a.sp] 29)).alloc (.cells #[.int .u64 b.num, .int .i64 b.frm, .int .i64 b.to, .slice B m d, .bool b.sp] 29)).cell? ⟨w.heap.size + 1, 4, none⟩ = some (.bool b.sp) := bB.cell 4
  clear bA bB bb hsz
  go_enter Try.func60, Try.ntmps60
  cases d0 : (a.num == b.num)
  · skip
    go_wp2
    go_ret
    exact ⟨ret_bool (by rw [HR.out]; unfold sameP; rw [d0]; simp), HBB.out⟩
  · skip
    cases d1 : (a.frm == b.frm)
    · skip
      go_wp2
      go_ret
      exact ⟨ret_bool (by rw [HR.out]; unfold sameP; rw [d0, d1]; simp), HBB.out⟩
    · skip
      cases d2 : (a.to == b.to)
      · skip
        go_wp2
        go_ret
        exact ⟨ret_bool (by rw [HR.out]; unfold sameP; rw [d0, d1, d2]; simp), HBB.out⟩
      · skip
        cases d3 : (a.sp == b.sp)
        · skip
          go_wp2
          go_ret
          exact ⟨ret_bool (by rw [HR.out]; unfold sameP; rw [d0, d1, d2, d3]; simp), HBB.out⟩
        · skip
          go_wp2
          go_ret
          exact ⟨ret_bool (by rw [HR.out]; unfold sameP; rw [d0, d1, d2, d3]; simp), HBB.out⟩
end Go.Proofs.Ytnbcffnhgijmcaa
/- slices.EqualFunc over parcels; net.Same. Conditions: the slices read as these parcels. -/
namespace Go.Proofs.Ytnbcffnhgijmcaa
open Go.RowKit
set_option maxRecDepth 100000 in
set_option maxHeartbeats 8000000 in
theorem eqf_any (A : Option Addr) (m c : Nat) (ps : List PC) (B : Option Addr) (l d : Nat) (qs : List PC) (w : World) (h : LP.rd w AllB A m ps) (k : LP.rd w AllB B l qs) (hm : m ≤ 9223372036854775807) :
    Calls Try.prog 59 #[.slice A m c, .slice B l d, .func (.func 60) #[] #[]] w fun e w' => e = .returned (.bool (decide (ps = qs))) ∧ Below w.heap.size w w' := by
  have HL := Lib.hid h.1
  have HK := Lib.hid k.1
  obtain ⟨r, hr⟩ : ∃ r, r = decide (ps = qs) := ⟨_, rfl⟩
  rw [← hr]
  have HR := Lib.hid hr
  clear hr
  by_cases hml : m = l
  case neg =>
    have d2 : ((m : Int) != (l : Int)) = true := by simp; omega
    have HML := Lib.hid hml
    clear hml h k
    go_enter Try.func59, Try.ntmps59
    go_wp2
    go_ret
    exact ⟨ret_bool (by rw [HR.out, decide_eq_false (fun e => HML.out (by rw [← HL.out, ← HK.out, e]))]), Below.refl _ _⟩
  subst hml
  have d2 : ((m : Int) != (m : Int)) = false := by simp
  go_enter Try.func59, Try.ntmps59
  go_wp2_with fail
  clear d2
  go_loopg [17] m (fun g a wr => ∃ i : Nat, i + g = m ∧ a = .int .i64 i ∧ ps.take i = qs.take i ∧ Below w.heap.size w wr)
  case atStart => exact ⟨0, by omega, rfl, rfl, Below.refl _ _⟩
  case round =>
    obtain ⟨i, hig, rfl, heq, bb⟩ := hrel
    have HE := Lib.hid heq
    have HBB := Lib.hid bb
    clear heq
    by_cases hlt : i < m
    · have hi1 : (i : Int) < (m : Int) := by omega
      obtain ⟨p, q, B', n', c', rfl, hx, s1⟩ := LP_at (Lay.rd_below h bb) hlt
      obtain ⟨p2, q2, B2, n2, c2, rfl, hx2, s2⟩ := LP_at (Lay.rd_below k bb) hlt
      have e0 := s1.c0
      have e1 := s1.c1
      have e2 := s1.c2
      have e3 := s1.c3
      have e4 := s1.c4
      have fl := s2.lt
      have f0 := s2.c0
      have f1 := s2.c1
      have f2 := s2.c2
      have f3 := s2.c3
      have f4 := s2.c4
      have HRB := Lib.hid s1.rb
      have HRB2 := Lib.hid s2.rb
      have HX := Lib.hid hx
      have HX2 := Lib.hid hx2
      have HF0 := Lib.hid f0
      have HF1 := Lib.hid f1
      have HF2 := Lib.hid f2
      have HF3 := Lib.hid f3
      have HF4 := Lib.hid f4
      clear hx hx2 s1 s2 bb f0 f1 f2 f3 f4
      go_wp2_with (first | (refine wpList_store_blk rfl 29 (.tmp 8) (.tmp 21) rfl wr.heap.size 29 _ _ rfl rfl (Blk.new _ _ _) rfl parcelI (by simp [Value.oneCell']) ?_; intro wy hY gy; have T1 := bl_gr (bl_al (Below.refl wr.heap.size wr) _) gy (Nat.le_refl _); have f0 := cell_ca HF0.out fl T1; have f1 := cell_ca HF1.out fl T1; have f2 := cell_ca HF2.out fl T1; have f3 := cell_ca HF3.out fl T1; have f4 := cell_ca HF4.out fl T1) | (refine wpList_store_blk rfl 29 (.tmp 9) (.tmp 25) rfl wy.heap.size 29 _ _ rfl rfl (Blk.new _ _ _) rfl parcelI (by simp [Value.oneCell']) ?_; intro wz hZ gz; have T2 := bl_gr (bl_al (Below.refl wy.heap.size wy) _) gz (Nat.le_refl _); have hY2 := hY.ca T2; have u0 : wz.cell? ⟨wr.heap.size, 0, none⟩ = some (.int .u64 q.num) := hY2.cell 0; have u1 : wz.cell? ⟨wr.heap.size, 1, none⟩ = some (.int .i64 q.frm) := hY2.cell 1; have u2 : wz.cell? ⟨wr.heap.size, 2, none⟩ = some (.int .i64 q.to) := hY2.cell 2; have u3 : wz.cell? ⟨wr.heap.size, 3, none⟩ = some (.slice B' n' c') := hY2.cell 3; have u4 : wz.cell? ⟨wr.heap.size, 4, none⟩ = some (.bool q.sp) := hY2.cell 4; have v0 : wz.cell? ⟨wy.heap.size, 0, none⟩ = some (.int .u64 q2.num) := hZ.cell 0; have v1 : wz.cell? ⟨wy.heap.size, 1, none⟩ = some (.int .i64 q2.frm) := hZ.cell 1; have v2 : wz.cell? ⟨wy.heap.size, 2, none⟩ = some (.int .i64 q2.to) := hZ.cell 2; have v3 : wz.cell? ⟨wy.heap.size, 3, none⟩ = some (.slice B2 n2 c2) := hZ.cell 3; have v4 : wz.cell? ⟨wy.heap.size, 4, none⟩ = some (.bool q2.sp) := hZ.cell 4; have HT3 := Lib.hid (bl_ca T1 T2); clear f0 f1 f2 f3 f4 hY hY2 hZ gy gz T1 T2))
      have HCA := Lib.hid (samec_any q q2 B' n' c' B2 n2 c2 wz (HRB.out.below HT3.out) (HRB2.out.below HT3.out))
      clear e0 e1 e2 e3 e4
      cases hq : sameP q q2
      · rw [hq] at HCA
        have HF := Lib.hid (show decide (ps = qs) = false from decide_eq_false (fun e => by
          have h1 := HX.out
          rw [e, HX2.out] at h1
          injection h1 with h1
          rw [sameP_iff.2 h1.symm] at hq
          cases hq))
        clear hq
        refine HCA.out.mono ?_
        rintro e w5 ⟨rfl, q5⟩
        have HB5 := Lib.hid (bl_ca (bl_ca HBB.out HT3.out) q5)
        clear q5 HCA
        go_wp2
        go_ret
        exact ⟨ret_bool (by rw [HR.out, HF.out]), HB5.out⟩
      · rw [hq] at HCA
        have HF := Lib.hid (show ps.take (i + 1) = qs.take (i + 1) from by
          rw [List.take_add_one, List.take_add_one, HE.out, HX.out, HX2.out, sameP_iff.1 hq])
        clear hq
        refine HCA.out.mono ?_
        rintro e w5 ⟨rfl, q5⟩
        have HB5 := Lib.hid (bl_ca (bl_ca HBB.out HT3.out) q5)
        clear q5 HCA
        go_wp2
        go_roundg (gk - 1)
        · exact ⟨i + 1, by omega, by go_num, HF.out, HB5.out⟩
        · omega
    · obtain rfl : i = m := by omega
      have hi1 : (i : Int) ≤ (i : Int) := by omega
      clear bb
      go_wp2
      go_ret
      exact ⟨ret_bool (by rw [HR.out, decide_eq_true (by have h1 := HE.out; rwa [List.take_of_length_le (by rw [HL.out]; exact Nat.le_refl _), List.take_of_length_le (by rw [HK.out]; exact Nat.le_refl _)] at h1)]), HBB.out⟩
set_option maxRecDepth 100000 in
set_option maxHeartbeats 4000000 in
theorem nsame_any (s : Int) (A : Option Addr) (m c : Nat) (ps : List PC) (t : Int) (B : Option Addr) (l d : Nat) (qs : List PC) (w : World) (h : LP.rd w AllB A m ps) (k : LP.rd w AllB B l qs) (hm : m ≤ 9223372036854775807) :
    Calls Try.prog 34 #[.agg #[.int .u64 s, .slice A m c], .agg #[.int .u64 t, .slice B l d]] w fun e w' => e = .returned (.bool (decide (s = t ∧ ps = qs))) ∧ Below w.heap.size w w' := by
  obtain ⟨r, hr⟩ : ∃ r, r = decide (s = t ∧ ps = qs) := ⟨_, rfl⟩
  rw [← hr]
  have HR := Lib.hid hr
  clear hr
  have bb := Below.refl w.heap.size w
  have bN := Blk.new w 26 #[.int .u64 s, .slice A m c]
  replace bb := bl_al bb (.cells #[.int .u64 s, .slice A m c] 26)
  replace bN := bN.ca (bl_al (Below.refl _ _) (.cells #[.int .u64 t, .slice B l d] 26))
  have bM : Blk ((w.alloc (.cells #[.int .u64 s, .slice A m c] 26)).alloc (.cells #[.int .u64 t, .slice B l d] 26)) (w.heap.size + 1) 26 #[.int .u64 t, .slice B l d] := Blk.mk' (by simp only [World.size_alloc])
  replace bb := bl_al bb (.cells #[.int .u64 t, .slice B l d] 26)
  have hsz : w.heap.size + 2 ≤ ((w.alloc (.cells #[.int .u64 s, .slice A m c] 26)).alloc (.cells #[.int .u64 t, .slice B l d] 26)).heap.size := by simp only [World.size_alloc]; omega
  by_cases hst : s = t
  · have d1 : (s == t) = true := by simpa using hst
    have HST := Lib.hid hst
    have HE := Lib.hid (eqf_any A m c ps B l d qs _ (Lay.rd_below h bb) (Lay.rd_below k bb) hm)
    have n0 : ((w.alloc (.cells #[.int .u64 s, .slice A m c] 26)).alloc (.cells #[.int .u64 t, .slice B l d] 26)).cell? ⟨w.heap.size, 0, none⟩ = some (.int .u64 s) := bN.cell 0
    have n1 : ((w.alloc (.cells #[.int .u64 s, .slice A m c] 26)).alloc (.cells #[.int .u64 t, .slice B l d] 26)).cell? ⟨w.heap.size, 1, none⟩ = some (.slice A m c) := bN.cell 1
    have n2 : ((w.alloc (.cells #[.int .u64 s, .slice A m c] 26)).alloc (.cells #[.int .u64 t, .slice B l d] 26)).cell? ⟨w.heap.size + 1, 0, none⟩ = some (.int .u64 t) := bM.cell 0
    have n3 : ((w.alloc (.cells #[.int .u64 s, .slice A m c] 26)).alloc (.cells #[.int .u64 t, .slice B l d] 26)).cell? ⟨w.heap.size + 1, 1, none⟩ = some (.slice B l d) := bM.cell 1
    have HBB := Lib.hid bb
    clear hst h k bN bM bb
    go_enter Try.func34, Try.ntmps34
    go_wp2_with fail
    refine HE.out.mono ?_
    rintro e w2 ⟨rfl, q2⟩
    have HB2 := Lib.hid (bl_ca HBB.out q2)
    clear q2 n0 n1 n2 n3
    go_wp2
    go_ret
    exact ⟨ret_bool (by rw [HR.out]; simp [HST.out]), HB2.out⟩
  · have d1 : (s == t) = false := by simpa using hst
    have HST := Lib.hid hst
    have n0 : ((w.alloc (.cells #[.int .u64 s, .slice A m c] 26)).alloc (.cells #[.int .u64 t, .slice B l d] 26)).cell? ⟨w.heap.size, 0, none⟩ = some (.int .u64 s) := bN.cell 0
    have n2 : ((w.alloc (.cells #[.int .u64 s, .slice A m c] 26)).alloc (.cells #[.int .u64 t, .slice B l d] 26)).cell? ⟨w.heap.size + 1, 0, none⟩ = some (.int .u64 t) := bM.cell 0
    have HBB := Lib.hid bb
    clear hst h k bN bM bb
    go_enter Try.func34, Try.ntmps34
    go_wp2
    go_ret
    exact ⟨ret_bool (by rw [HR.out, decide_eq_false (fun e => HST.out e.1)]), HBB.out⟩
end Go.Proofs.Ytnbcffnhgijmcaa
