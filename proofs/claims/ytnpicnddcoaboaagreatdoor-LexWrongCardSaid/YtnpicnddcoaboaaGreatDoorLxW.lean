/- The law's wakes. Conditions: what the tables hold. -/
import Derived.Test.YtnpicnddcoaboaaGreatDoorLxGB
import Derived.Test.YtnpicnddcoaboaaGreatDoorLxG8
namespace Go.Proofs.YtnpicnddcoaboaaGreatDoor
open Go.RowKit
theorem tk_eq {x y : Tk} : (x = y) ↔ x.kind = y.kind ∧ x.at_ = y.at_ ∧ x.text = y.text ∧ x.n = y.n := by
  obtain ⟨k, a, t, n⟩ := x
  obtain ⟨k2, a2, t2, n2⟩ := y
  simp
theorem run_eqFull (x y : Tk) : ∀ W, (Op.equalIn 10000 29 (.agg #[.int .i64 x.kind, .int .i64 x.at_, .string (bS x.text), .int .u64 (x.n : Int)]) (.agg #[.int .i64 y.kind, .int .i64 y.at_, .string (bS y.text), .int .u64 (y.n : Int)])).run Tryz.prog W = .ok (decide (x = y)) W := by
  intro W
  rw [run_equalIn_agg W 9999 _ _ _ (by kernel_rfl) (by kernel_rfl)]
  rw [show decide (x = y) = decide (x.kind = y.kind ∧ x.at_ = y.at_ ∧ x.text = y.text ∧ x.n = y.n) from decide_eq_decide.2 tk_eq]
  have e : ((bS x.text).toList = (bS y.text).toList) ↔ x.text = y.text := by
    have := seq_text x.text y.text
    rw [Bool.eq_iff_iff, beq_iff_eq, decide_eq_true_eq] at this
    exact this
  have e2 : ((x.n : Int) = (y.n : Int)) ↔ x.n = y.n := by omega
  go_simp
  by_cases h1 : x.kind = y.kind <;> by_cases h2 : x.n = y.n <;> by_cases h3 : x.at_ = y.at_ <;> by_cases h4 : (bS x.text).toList = (bS y.text).toList <;> simp_all
def wakL : List UInt8 := [115, 101, 108, 101, 99, 116, 32, 97, 46, 98, 60, 61, 49, 48]
def wakT : List Tk := [⟨1, 0, [83, 69, 76, 69, 67, 84], 0⟩, ⟨2, 7, [97], 0⟩, ⟨5, 8, [46], 0⟩, ⟨2, 9, [98], 0⟩, ⟨5, 10, [60, 61], 0⟩, ⟨3, 12, [], 10⟩]
theorem wakM : tokM wakL = (wakT, 0, 0) := by decide +kernel
theorem wakP : joinU [⟨4, 0, [105, 116, 39, 115], 0⟩] = [39, 105, 116, 39, 39, 115, 39] ∧ [(⟨4, 0, [105, 116, 39, 115], 0⟩ : Tk)].all rightU = true := by decide +kernel
theorem OwnT.rdA {w : World} {B : Nat} {A : Option Addr} {n c : Nat} {ts : List Tk} (h : OwnT w B A n c ts) : LT.rd w AllB A n ts := Lay.own_rd h (fun _ _ _ => trivial) (fun _ h _ => h.elim)
theorem LT_one {w : World} {g : Nat} {t : Tk} (h : Blk w g 29 t.cells) : LT.rd w AllB (some ⟨g, 0, none⟩) 1 [t] := Lay.rd_blk h rfl ⟨t.cells.toList, [], by simp, rfl, rfl⟩ trivial
set_option maxRecDepth 100000 in
set_option maxHeartbeats 8000000 in
theorem wakes_any (w : World) (hT : Tab w) : Calls Tryz.prog 6 #[] w fun e w' => e = .returned (.bool true) ∧ Below w.heap.size w w' := by
  have HT := Lib.hid hT
  clear hT
  go_enter Tryz.func6, Tryz.ntmps6
  go_wp2_with fail
  refine (ltokens_any ⟨#[115, 101, 108, 101, 99, 116, 32, 97, 46, 98, 60, 61, 49, 48]⟩ _ (by decide) HT.out).mono ?_
  rintro e w2 ⟨ht, q2⟩
  obtain ⟨A, n, c, rfl, ho⟩ : TkE w.heap.size (wakT, 0, 0) e w2 := by rw [← wakM]; exact ht
  have hn := Lay.own_len ho
  obtain rfl : 6 = n := hn
  have HO := Lib.hid ho
  have HQ2 := Lib.hid q2
  have HT2 := Lib.hid (HT.out.below q2)
  clear ht q2 ho
  have q3 := bl_al (Below.refl w2.heap.size w2) (.cells #[.int .i64 4, .int .i64 0, .string ⟨#[105, 116, 39, 115]⟩, .int .u64 0] 29)
  have HPR := Lib.hid (lprint_any (some ⟨w2.heap.size, 0, none⟩) 1 1 [⟨4, 0, [105, 116, 39, 115], 0⟩] (w2.alloc (.cells #[.int .i64 4, .int .i64 0, .string ⟨#[105, 116, 39, 115]⟩, .int .u64 0] 29)) (LT_one (Blk.new w2 _ _)) (by decide) (by intro t ht; rw [List.mem_singleton.1 ht]; exact ⟨by decide, by decide⟩) (HT2.out.below q3))
  have HQ3 := Lib.hid (bl_ca HQ2.out q3)
  have HO3 := Lib.hid (Lay.own_below HO.out q3)
  clear q3 HT
  go_wp2_with fail
  refine HPR.out.mono ?_
  rintro e w4 ⟨hp, q4⟩
  have he : e = .returned (.tuple #[.string ⟨#[39, 105, 116, 39, 39, 115, 39]⟩, .int .i64 0]) := by
    unfold PrE at hp
    rw [if_pos wakP.2, wakP.1] at hp
    exact hp
  subst he
  have HQ4 := Lib.hid (bl_ca HQ3.out q4)
  have ho4 := OwnT.rdA (Lay.own_below HO3.out q4)
  obtain ⟨ad, x, rfl, hx, st⟩ := LT_at (i := 4) ho4 (by decide)
  obtain rfl : (⟨5, 10, [60, 61], 0⟩ : Tk) = x := by
    have h9 : wakT[4]? = some ⟨5, 10, [60, 61], 0⟩ := rfl
    exact at_eq' h9 hx
  have e0 := st.c0
  have e1 := st.c1
  have e2 := st.c2
  have e3 := st.c3
  have heq : ∀ W, (Op.equalIn 10000 29 (.agg #[.int .i64 5, .int .i64 10, .string ⟨#[60, 61]⟩, .int .u64 0]) (.agg #[.int .i64 5, .int .i64 10, .string ⟨#[60, 61]⟩, .int .u64 0])).run Tryz.prog W = .ok true W := fun W => by have := run_eqFull ⟨5, 10, [60, 61], 0⟩ ⟨5, 10, [60, 61], 0⟩ W; rw [decide_eq_true rfl] at this; exact this
  clear hp q4 ho4 hx st HPR HQ3 HO3 HQ2 HT2
  have ea : ad.add (4 * 4) = ⟨ad.block, ad.off + 16, none⟩ := by unfold Addr.add; rfl
  rw [ea] at e0 e1 e2 e3
  clear ea
  go_wp2
  go_ret
  exact ⟨rfl, HQ4.out⟩
end Go.Proofs.YtnpicnddcoaboaaGreatDoor
