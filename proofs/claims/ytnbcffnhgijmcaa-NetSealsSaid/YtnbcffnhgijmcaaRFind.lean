/- bowspritref24.SameParcel, bowspritref24.find. Conditions: the bytes read as these. -/
import Derived.Test.YtnbcffnhgijmcaaRCopy
namespace Go.Proofs.Ytnbcffnhgijmcaa
open Go.RowKit
def sameP (a b : PC) : Bool := a.num == b.num && (a.frm == b.frm && (a.to == b.to && (a.sp == b.sp && a.bs == b.bs)))
theorem sameP_iff {a b : PC} : sameP a b = true ↔ a = b := by
  obtain ⟨a1, a2, a3, a4, a5⟩ := a
  obtain ⟨b1, b2, b3, b4, b5⟩ := b
  simp only [sameP, Bool.and_eq_true, beq_iff_eq, PC.mk.injEq]
  constructor
  · rintro ⟨h1, h2, h3, h4, h5⟩; exact ⟨h1, h2, h3, h5, h4⟩
  · rintro ⟨h1, h2, h3, h5, h4⟩; exact ⟨h1, h2, h3, h4, h5⟩
instance : DecidableEq PC := fun _ _ => decidable_of_iff _ sameP_iff
set_option maxRecDepth 100000 in
set_option maxHeartbeats 4000000 in
theorem rsamep_any (a b : PC) (A : Option Addr) (n c : Nat) (B : Option Addr) (m d : Nat) (w : World) (ha : RdB w A n a.bs) (hb : RdB w B m b.bs) :
    Calls Try.prog 24 #[.agg #[.int .u64 a.num, .int .i64 a.frm, .int .i64 a.to, .slice A n c, .bool a.sp], .agg #[.int .u64 b.num, .int .i64 b.frm, .int .i64 b.to, .slice B m d, .bool b.sp]] w fun e w' => e = .returned (.bool (sameP a b)) ∧ Below w.heap.size w w' := by
  obtain ⟨r, hr⟩ : ∃ r, r = sameP a b := ⟨_, rfl⟩
  rw [← hr]
  have HR := Lib.hid hr
  clear hr
  have bb := Below.refl w.heap.size w
  have bA := Blk.new w 29 #[.int .u64 a.num, .int .i64 a.frm, .int .i64 a.to, .slice A n c, .bool a.sp]
  replace bb := bl_al bb (.cells #[.int .u64 a.num, .int .i64 a.frm, .int .i64 a.to, .slice A n c, .bool a.sp] 29)
  replace bA := bA.ca (bl_al (Below.refl _ _) (.cells #[.int .u64 b.num, .int .i64 b.frm, .int .i64 b.to, .slice B m d, .bool b.sp] 29))
  have bB : Blk ((w.alloc (.cells #[.int .u64 a.num, .int .i64 a.frm, .int .i64 a.to, .slice A n c, .bool a.sp] 29)).alloc (.cells #[.int .u64 b.num, .int .i64 b.frm, .int .i64 b.to, .slice B m d, .bool b.sp] 29)) (w.heap.size + 1) 29 #[.int .u64 b.num, .int .i64 b.frm, .int .i64 b.to, .slice B m d, .bool b.sp] := Blk.mk' (by simp only [World.size_alloc])
  replace bb := bl_al bb (.cells #[.int .u64 b.num, .int .i64 b.frm, .int .i64 b.to, .slice B m d, .bool b.sp] 29)
  have hsz : w.heap.size + 2 ≤ ((w.alloc (.cells #[.int .u64 a.num, .int .i64 a.frm, .int .i64 a.to, .slice A n c, .bool a.sp] 29)).alloc (.cells #[.int .u64 b.num, .int .i64 b.frm, .int .i64 b.to, .slice B m d, .bool b.sp] 29)).heap.size := by simp only [World.size_alloc]; omega
  have h1 := (ha.below bb).str c
  have h2 := (hb.below bb).str d
  clear ha hb
  have HBB := Lib.hid bb
  have x0 : ((w.alloc (.cells #[.int .u64 a.num, .int .i64 a.frm, .int .i64 a.to, .slice A n c, .bool a.sp] 29)).alloc (.cells #[.int .u64 b.num, .int .i64 b.frm, .int .i64 b.to, .slice B m d, .bool b.sp] 29)).cell? ⟨w.heap.size, 0, none⟩ = some (.int .u64 a.num) := bA.cell 0
  have x1 : ((w.alloc (.cells #[.int .u64 a.num, .int .i64 a.frm, .int .i64 a.to, .slice A n c, .bool a.sp] 29)).alloc (.cells #[.int .u64 b.num, .int .i64 b.frm, .int .i64 b.to, .slice B m d, .bool b.sp] 29)).cell? ⟨w.heap.size, 1, none⟩ = some (.int .i64 a.frm) := bA.cell 1
  have x2 : ((w.alloc (.cells #[.int .u64 a.num, .int .i64 a.frm, .int .i64 a.to, .slice A n c, .bool a.sp] 29)).alloc (.cells #[.int .u64 b.num, .int .i64 b.frm, .int .i64 b.to, .slice B m d, .bool b.sp] 29)).cell? ⟨w.heap.size, 2, none⟩ = some (.int .i64 a.to) := bA.cell 2
  have x3 : ((w.alloc (.cells #[.int .u64 a.num, .int .i64 a.frm, .int .i64 a.to, .slice A n c, .bool a.sp] 29)).alloc (.cells #[.int .u64 b.num, .int .i64 b.frm, .int .i64 b.to, .slice B m d, .bool b.sp] 29)).cell? ⟨w.heap.size, 3, none⟩ = some (.slice A n c) := bA.cell 3
  have x4 : ((w.alloc (.cells #[.int .u64 a.num, .int .i64 a.frm, .int .i64 a.to, .slice A n c, .bool a.sp] 29)).alloc (.cells #[.int .u64 b.num, .int .i64 b.frm, .int .i64 b.to, .slice B m d, .bool b.sp] 29)).cell? ⟨w.heap.size, 4, none⟩ = some (.bool a.sp) := bA.cell 4
  have y0 : ((w.alloc (.cells #[.int .u64 a.num, .int .i64 a.frm, .int .i64 a.to, .slice A n c, .bool a.sp] 29)).alloc (.cells #[.int .u64 b.num, .int .i64 b.frm, .int .i64 b.to, .slice B m d, .bool b.sp] 29)).cell? ⟨w.heap.size + 1, 0, none⟩ = some (.int .u64 b.num) := bB.cell 0
  have y1 : ((w.alloc (.cells #[.int .u64 a.num, .int .i64 a.frm, .int .i64 a.to, .slice A n c, .bool a.sp] 29)).alloc (.cells #[.int .u64 b.num, .int .i64 b.frm, .int .i64 b.to, .slice B m d, .bool b.sp] 29)).cell? ⟨w.heap.size + 1, 1, none⟩ = some (.int .i64 b.frm) := bB.cell 1
  have y2 : ((w.alloc (.cells #[.int .u64 a.num, .int .i64 a.frm, .int .i64 a.to, .slice A n c, .bool a.sp] 29)).alloc (.cells #[.int .u64 b.num, .int .i64 b.frm, .int .i64 b.to, .slice B m d, .bool b.sp] 29)).cell? ⟨w.heap.size + 1, 2, none⟩ = some (.int .i64 b.to) := bB.cell 2
  have y3 : ((w.alloc (.cells #[.int .u64 a.num, .int .i64 a.frm, .int .i64 a.to, .slice A n c, .bool a.sp] 29)).alloc (.cells #[.int .u64 b.num, .int .i64 b.frm, .int .i64 b.to, .slice B m d, .bool b.sp] 29)).cell? ⟨w.heap.size + 1, 3, none⟩ = some (.slice B m d) := bB.cell 3
  have y4 : ((w.alloc (.cells #[.int .u64 a.num, .int .i64 a.frm, .int .i64 a.to, .slice A n c, .bool a.sp] 29)).alloc (.cells #[.int .u64 b.num, .int .i64 b.frm, .int .i64 b.to, .slice B m d, .bool b.sp] 29)).cell? ⟨w.heap.size + 1, 4, none⟩ = some (.bool b.sp) := bB.cell 4
  clear bA bB bb hsz
  go_enter Try.func24, Try.ntmps24
  cases d0 : (a.num == b.num)
  · skip
    go_wp2
    go_ret
    exact ⟨ret_bool (by rw [HR.out]; unfold sameP; rw [d0]; simp), HBB.out⟩
  · skip
    cases d1 : (a.frm == b.frm)
    · skip
      go_wp2
      go_ret
      exact ⟨ret_bool (by rw [HR.out]; unfold sameP; rw [d0, d1]; simp), HBB.out⟩
    · skip
      cases d2 : (a.to == b.to)
      · skip
        go_wp2
        go_ret
        exact ⟨ret_bool (by rw [HR.out]; unfold sameP; rw [d0, d1, d2]; simp), HBB.out⟩
      · skip
        cases d3 : (a.sp == b.sp)
        · skip
          go_wp2
          go_ret
          exact ⟨ret_bool (by rw [HR.out]; unfold sameP; rw [d0, d1, d2, d3]; simp), HBB.out⟩
        · skip
          go_wp2
          go_ret
          exact ⟨ret_bool (by rw [HR.out]; unfold sameP; rw [d0, d1, d2, d3]; simp), HBB.out⟩
/-- where the parcel of a number is; -1: nowhere -/
def findI (ps : List PC) (x : Int) : Int := if hasB ps x then (ixP ps x : Int) else -1
theorem findI_at {ps : List PC} {x : Int} {i : Nat} {p : PC} (hp : ps[i]? = some p) (hx : p.num = x) (hlo : ∀ (k : Nat) (q : PC), k < i → ps[k]? = some q → q.num ≠ x) : findI ps x = i := by
  obtain ⟨hl, he⟩ := List.getElem?_eq_some_iff.1 hp
  have h1 : hasB ps x = true := List.any_eq_true.2 ⟨p, List.mem_of_getElem? hp, by simpa using hx⟩
  have h2 : ixP ps x = i := (List.findIdx_eq (p := fun p : PC => decide (p.num = x)) hl).2 ⟨by rw [he]; simpa using hx, fun j hj => by
    have := hlo j ps[j] hj (List.getElem?_eq_getElem (by omega))
    simpa using this⟩
  unfold findI
  rw [h1, h2]; rfl
theorem findI_no {ps : List PC} {x : Int} (hlo : ∀ (k : Nat) (q : PC), k < ps.length → ps[k]? = some q → q.num ≠ x) : findI ps x = -1 := by
  have h1 : hasB ps x = false := List.any_eq_false.2 fun p hp => by
    obtain ⟨k, hk⟩ := List.mem_iff_getElem?.1 hp
    have := hlo k p (List.getElem?_eq_some_iff.1 hk).1 hk
    simpa using this
  unfold findI
  rw [h1]; rfl
set_option maxRecDepth 100000 in
set_option maxHeartbeats 4000000 in
theorem rfind_any (sent : Int) (A : Option Addr) (m c : Nat) (ps : List PC) (x : Int) (w : World) (h : LP.rd w AllB A m ps) (hm : m ≤ 9223372036854775807) :
    Calls Try.prog 49 #[.agg #[.int .u64 sent, .slice A m c], .int .u64 x] w fun e w' => e = .returned (.int .i64 (findI ps x)) ∧ Below w.heap.size w w' := by
  have HL := Lib.hid h.1
  have bb := Below.refl w.heap.size w
  have bN := Blk.new w 26 #[.int .u64 sent, .slice A m c]
  replace bb := bl_al bb (.cells #[.int .u64 sent, .slice A m c] 26)
  have hsz : w.heap.size + 1 ≤ (w.alloc (.cells #[.int .u64 sent, .slice A m c] 26)).heap.size := by simp only [World.size_alloc]; omega
  have n1 : (w.alloc (.cells #[.int .u64 sent, .slice A m c] 26)).cell? ⟨w.heap.size, 1, none⟩ = some (.slice A m c) := bN.cell 1
  go_enter Try.func49, Try.ntmps49
  go_wp2_with fail
  clear n1 bN hsz
  generalize (w.alloc (.cells #[.int .u64 sent, .slice A m c] 26)) = w1 at *
  go_loopg [10] m (fun g a wr => ∃ i : Nat, i + g = m ∧ a = .int .i64 i ∧ (∀ (k : Nat) (q : PC), k < i → ps[k]? = some q → q.num ≠ x) ∧ Below w.heap.size w wr)
  case atStart => exact ⟨0, by omega, rfl, fun k q hk => by omega, bb⟩
  case round =>
    clear bb
    obtain ⟨i, hig, rfl, hlo, bb⟩ := hrel
    have HLO := Lib.hid hlo
    have HBB := Lib.hid bb
    clear hlo
    by_cases hlt : i < m
    · have hi1 : (i : Int) < (m : Int) := by omega
      obtain ⟨p, q, B, n', c', rfl, hx, s1⟩ := LP_at (Lay.rd_below h bb) hlt
      have e0 := s1.c0
      have e1 := s1.c1
      have e2 := s1.c2
      have e3 := s1.c3
      have e4 := s1.c4
      have HX := Lib.hid hx
      clear hx s1 bb
      by_cases hq : q.num = x
      · have d1 : (q.num == x) = true := by simpa using hq
        have HF := Lib.hid (findI_at HX.out hq HLO.out)
        clear hq
        go_wp2_with (refine wpList_store_blk rfl 29 (.tmp 6) (.tmp 14) rfl wr.heap.size 29 _ _ rfl rfl (Blk.new _ _ _) rfl parcelI (by simp [Value.oneCell']) ?_; intro wz hZ gz; have x0 : wz.cell? ⟨wr.heap.size, 0, none⟩ = some (.int .u64 q.num) := hZ.cell 0; have T1 := Lib.hid (bl_gr (bl_al HBB.out _) gz HBB.out.size))
        go_ret
        exact ⟨ret_int (by rw [HF.out]), T1.out⟩
      · have d1 : (q.num == x) = false := by simpa using hq
        have HF := Lib.hid (show ∀ (k : Nat) (r : PC), k < i + 1 → ps[k]? = some r → r.num ≠ x from fun k r hk hr => by
          rcases Nat.lt_or_ge k i with h1 | h1
          · exact HLO.out k r h1 hr
          · obtain rfl : k = i := by omega
            have h2 := HX.out
            rw [hr] at h2
            injection h2 with h2
            subst h2
            exact hq)
        clear hq
        go_wp2_with (refine wpList_store_blk rfl 29 (.tmp 6) (.tmp 14) rfl wr.heap.size 29 _ _ rfl rfl (Blk.new _ _ _) rfl parcelI (by simp [Value.oneCell']) ?_; intro wz hZ gz; have x0 : wz.cell? ⟨wr.heap.size, 0, none⟩ = some (.int .u64 q.num) := hZ.cell 0; have T1 := Lib.hid (bl_gr (bl_al HBB.out _) gz HBB.out.size))
        go_roundg (gk - 1)
        · exact ⟨i + 1, by omega, by go_num, HF.out, T1.out⟩
        · omega
    · obtain rfl : i = m := by omega
      have hi1 : (i : Int) ≤ (i : Int) := by omega
      have HF := Lib.hid (findI_no (fun k q hk => HLO.out k q (by rw [← HL.out]; exact hk)))
      clear bb
      go_wp2
      go_ret
      exact ⟨ret_int (by rw [HF.out]), HBB.out⟩
end Go.Proofs.Ytnbcffnhgijmcaa
