/- sum.steps makes the table of the checksum: 256 numbers, each what a register that is a byte comes to behind eight bits. Conditions: none. -/
import Derived.Test.YtnbcffnhgijmcaaMem
import Derived.Test.YtnbcffnhgijmcaaCrc
import Derived.Test.YtnbcffnhgijmcaaTab
import Derived.Deep.WholeRow
namespace Go.Proofs.Ytnbcffnhgijmcaa
open Go.RowKit
theorem Try.tabInfo : (Try.prog.info? 103).map (fun i => (i.zero, i.size)) = some (some (.agg (tabCells fun _ => 0)), 256) := by kernel_rfl
theorem setRow_same {w : World} {g : Nat} {t : TypeId} {cs : Array Value} (h : Blk w g t cs) : w.setRow g cs = w := by
  unfold Blk at h
  cases w with
  | mk heap tape drawn os output =>
    simp only [World.setRow]
    congr 1
    apply Array.ext_getElem?
    intro i
    rw [Array.getElem?_modify]
    by_cases e : g = i
    · subst e; simp at h; simp [h]
    · simp [e]
theorem bits_and1 (x : Nat) (hx : x < 4294967296) : bits BinOp.and IntKind.u32 (x : Int) 1 = ((x % 2 : Nat) : Int) := by
  have h1 : (BitVec.ofInt 32 (x : Int)).toNat = x := by
    rw [BitVec.ofInt_natCast, BitVec.toNat_ofNat]; exact Nat.mod_eq_of_lt (by omega)
  have h2 : (BitVec.ofInt 32 (1 : Int)).toNat = 1 := by decide
  show IntKind.u32.wrap ((BitVec.ofInt 32 (x : Int) &&& BitVec.ofInt 32 (1 : Int)).toNat : Int) = _
  rw [BitVec.toNat_and, h1, h2, Nat.and_one_is_mod]
  simp only [IntKind.wrap, IntKind.bits, IntKind.signed]
  have : x % 2 < 2 := Nat.mod_lt _ (by decide)
  simp
  omega
theorem bits_xor32 (x y : Nat) (hx : x < 4294967296) (hy : y < 4294967296) : bits BinOp.xor IntKind.u32 (x : Int) (y : Int) = ((x ^^^ y : Nat) : Int) := by
  have hz : x ^^^ y < 2 ^ 32 := Nat.xor_lt_two_pow (by omega) (by omega)
  have h1 : (BitVec.ofInt 32 (x : Int)).toNat = x := by
    rw [BitVec.ofInt_natCast, BitVec.toNat_ofNat]; exact Nat.mod_eq_of_lt (by omega)
  have h2 : (BitVec.ofInt 32 (y : Int)).toNat = y := by
    rw [BitVec.ofInt_natCast, BitVec.toNat_ofNat]; exact Nat.mod_eq_of_lt (by omega)
  show IntKind.u32.wrap ((BitVec.ofInt 32 (x : Int) ^^^ BitVec.ofInt 32 (y : Int)).toNat : Int) = _
  rw [BitVec.toNat_xor, h1, h2]
  simp only [IntKind.wrap, IntKind.bits, IntKind.signed]
  simp
  omega
set_option maxRecDepth 100000 in
set_option maxHeartbeats 1000000 in
theorem steps_any (w : World) :
    Calls Try.prog 73 #[] w fun e w' => e = .returned (.agg (tabCells Crc.step8)) ∧ Below w.heap.size w w' := by
  go_enter Try.func73, Try.ntmps73
  go_wp2
  have hz : Try.zeroCells103 = tabCells fun _ => 0 := by kernel_rfl
  have hb2 : Blk (w.alloc (Obj.cells (Try.zeroCells103.setIfInBounds 128 (Value.int IntKind.u32 2197175160)) 103)) w.heap.size 103 (tabCells (tupd (fun _ => 0) 128 2197175160)) := by
    rw [hz, tabCells_set (fun _ => 0) 128 2197175160 (.int .u32 2197175160) rfl]; exact Blk.new _ _ _
  have hbel2 : Below w.heap.size w (w.alloc (Obj.cells (Try.zeroCells103.setIfInBounds 128 (Value.int IntKind.u32 2197175160)) 103)) := (Below.refl _ _).alloc (Nat.le_refl _) _
  clear hz
  generalize w.alloc (Obj.cells (Try.zeroCells103.setIfInBounds 128 (Value.int IntKind.u32 2197175160)) 103) = w1 at *
  obtain ⟨B, hB⟩ : ∃ B, B = w.heap.size := ⟨_, rfl⟩
  rw [← hB] at hb2 hbel2 ⊢
  have HB := Lib.hid hB
  clear hB
  go_loopg [1] 64 (fun g s1 wr => ∃ (n : Nat) (T : Nat → Nat), n ≤ g ∧ s1 = .int .i64 n ∧ n ∈ [64, 32, 16, 8, 4, 2, 1, 0] ∧ PowRight n T ∧ T 0 = 0 ∧ Blk wr B 103 (tabCells T) ∧ Below B w wr)
  case atStart => exact ⟨64, _, Nat.le_refl _, rfl, by decide, pow_start, by decide, hb2, hbel2⟩
  case round =>
    obtain ⟨n, T, hng, rfl, hmem, hpow, hT0, hblk, hbel⟩ := hrel
    clear hb2 hbel2
    by_cases hn0 : n = 0
    · subst hn0
      have h01 := one_below T hpow hT0
      go_wp2
      go_loopg [3] 256 (fun g s3 wr => ∃ (n : Nat) (T : Nat → Nat), 256 ≤ n + g ∧ s3 = .int .i64 n ∧ n ∈ [2, 4, 8, 16, 32, 64, 128, 256] ∧ PowRight 0 T ∧ (∀ i, i < n → T i = Crc.step8 i) ∧ Blk wr B 103 (tabCells T) ∧ Below B w wr)
      case atStart => exact ⟨2, T, by omega, rfl, by decide, hpow, h01, hblk, hbel⟩
      case round =>
        clear hblk hbel hpow hT0 h01 hmem hng
        clear T
        obtain ⟨g1, rfl⟩ : ∃ g1, g1 = gk := ⟨_, rfl⟩
        obtain ⟨w2, rfl⟩ : ∃ w2, w2 = wr := ⟨_, rfl⟩
        obtain ⟨n, T, hng, rfl, hmem, hpow, hlt, hblk, hbel⟩ := hrel
        by_cases hn0 : n = 256
        · subst hn0
          have hT : tabCells T = tabCells Crc.step8 := by
            unfold tabCells
            congr 1
            exact List.map_congr_left fun i hi => by rw [hlt i (by simpa using hi)]
          rw [hT] at hblk
          clear hlt hT hmem hpow
          have hsame : w2.setRow B (tabCells Crc.step8) = w2 := setRow_same hblk
          have HS := Lib.hid hsame
          clear hsame
          have hi : (Try.prog.info? 103).map (·.size) = some (tabCells Crc.step8).size := by rw [tabCells_size]; exact (zero_of_info Try.tabInfo).2
          have HI := Lib.hid hi
          clear hi
          go_wp2_with (first
            | (refine wpList_load_row rfl 103 (.tmp 0) rfl B rfl 103 (tabCells Crc.step8) (0, 0) _ hblk Try.underlying103 rfl HI.out ?_)
            | (refine wpList_store_row rfl 103 (.tmp 0) (.tmp 46) rfl B (tabCells Crc.step8) rfl rfl 103 (tabCells Crc.step8) hblk HI.out rfl (tabCells_one _) ?_))
          rw [HS.out]
          refine bodyPost_ret (v := .agg (tabCells Crc.step8)) ?_ rfl ⟨rfl, by rw [← HB.out]; exact hbel⟩
          exact results_cell_row rfl _ _ B 103 (tabCells Crc.step8) (0, 0) _ rfl hblk Try.underlying103 rfl HI.out
        · have hn : n < 256 := by simp only [List.mem_cons, List.not_mem_nil, or_false] at hmem; omega
          have hn2 : 2 ≤ n := by simp only [List.mem_cons, List.not_mem_nil, or_false] at hmem; omega
          have hmem7 : n ∈ [2, 4, 8, 16, 32, 64, 128] := by simp only [List.mem_cons, List.not_mem_nil, or_false] at hmem ⊢; omega
          have hmem8 : n * 2 ∈ [2, 4, 8, 16, 32, 64, 128, 256] := by simp only [List.mem_cons, List.not_mem_nil, or_false] at hmem7 ⊢; omega
          have HL := Lib.hid hlt
          have HM := Lib.hid hmem8
          have HM7 := Lib.hid hmem7
          clear hlt hmem8 hmem hmem7
          go_wp2
          go_loopg [31] n (fun g s wr => ∃ (low : Nat) (T : Nat → Nat), n ≤ low + g ∧ low ≤ n ∧ s = .int .i64 low ∧ PowRight 0 T ∧ (∀ i, i < n + low → T i = Crc.step8 i) ∧ Blk wr B 103 (tabCells T) ∧ Below B w wr)
          case atStart => exact ⟨0, T, by omega, by omega, rfl, hpow, HL.out, hblk, hbel⟩
          case round =>
            clear hblk hbel hpow HL
            clear T
            obtain ⟨low, T, hlg, hln, rfl, hpow, hlt, hblk, hbel⟩ := hrel
            by_cases he : low = n
            · subst he
              have HL := Lib.hid hlt
              clear hlt
              go_wp2
              go_roundg (g1 - 1)
              case measure => omega
              case rel => exact ⟨low * 2, T, by omega, by go_num, HM.out, hpow, by have := HL.out; intro i hi; exact this i (by omega), hblk, hbel⟩
            · have hl : low < n := by omega
              have hn128 : n ≤ 128 := by have := HM7.out; simp only [List.mem_cons, List.not_mem_nil, or_false] at this; omega
              have hr := Lib.hid (fill_round n low HM7.out hl T hpow hlt)
              have hTn : T n < 4294967296 := by
                rw [hpow n (by have := HM7.out; simp only [pows, List.mem_cons, List.not_mem_nil, or_false] at this ⊢; omega) (by omega)]; exact Crc.step8_lt (by omega)
              have hTl : T low < 4294967296 := by rw [hlt low (by omega)]; exact Crc.step8_lt (by omega)
              have hc1 : wr.cell? ⟨B, n, none⟩ = some (.int .u32 (T n)) := (hblk.cell _).trans (tabCells_get _ _ (by omega))
              have hc2 : wr.cell? ⟨B, low, none⟩ = some (.int .u32 (T low)) := (hblk.cell _).trans (tabCells_get _ _ (by omega))
              have hc3 : wr.cell? ⟨B, n + low, none⟩ = some (.int .u32 (T (n + low))) := (hblk.cell _).trans (tabCells_get _ _ (by omega))
              have hf : wr.frozen? ⟨B, n + low, none⟩ = false := hblk.frozen _
              have HX := Lib.hid (bits_xor32 _ _ hTn hTl)
              clear hlt hpow
              go_wp2
              have b0 : (0 : Int) ≤ (low : Int) := by omega
              have b1 : (low : Int) < 256 := by omega
              have b2 : (0 : Int) ≤ (n : Int) + (low : Int) := by omega
              have b3 : (n : Int) + (low : Int) < 256 := by omega
              have b4 : ((n : Int) + (low : Int)).toNat = n + low := by omega
              have b5 : IntKind.i64.wrap ((n : Int) + (low : Int)) = (n : Int) + (low : Int) := IntWalk.i64_in _ (by omega)
              go_region
              all_goals
                go_wp2
                go_roundg (gk - 1)
                case measure => omega
                case rel =>
                  refine ⟨low + 1, _, by omega, by omega, by go_num, hr.out.1, hr.out.2, ?_, (hbel.setCell (Nat.le_refl _) _).drew⟩
                  rw [HX.out]
                  have h2 := hblk.set_ (n + low) (.int .u32 ((T n ^^^ T low : Nat) : Int))
                  rw [tabCells_set T (n + low) (T n ^^^ T low) _ rfl] at h2
                  exact h2
    · have hn : 0 < n := by omega
      have hn64 : n ≤ 64 := by simp only [List.mem_cons, List.not_mem_nil, or_false] at hmem; omega
      have hmem7 : n ∈ [64, 32, 16, 8, 4, 2, 1] := by simp only [List.mem_cons, List.not_mem_nil, or_false] at hmem ⊢; omega
      have hmem8 : n / 2 ∈ [64, 32, 16, 8, 4, 2, 1, 0] := by simp only [List.mem_cons, List.not_mem_nil, or_false] at hmem ⊢; omega
      have hr := pow_round n hmem7 T hpow
      have hT2 : T (2 * n) < 4294967296 := by
        have : T (2 * n) = Crc.step8 (2 * n) := hpow _ (by simp only [pows, List.mem_cons, List.not_mem_nil, or_false] at hmem7 ⊢; omega) (by omega)
        rw [this]; exact Crc.step8_lt (by omega)
      have hc1 : wr.cell? ⟨B, 2 * n, none⟩ = some (.int .u32 (T (2 * n))) := (hblk.cell _).trans (tabCells_get _ _ (by omega))
      have hc2 : wr.cell? ⟨B, n, none⟩ = some (.int .u32 (T n)) := (hblk.cell _).trans (tabCells_get _ _ (by omega))
      have hf : wr.frozen? ⟨B, n, none⟩ = false := hblk.frozen _
      obtain ⟨x, hx⟩ : ∃ x, x = T (2 * n) := ⟨_, rfl⟩
      rw [← hx] at hc1 hr hT2
      have HR := Lib.hid hr
      clear hr hx hpow
      have HA := Lib.hid (bits_and1 x hT2)
      have hT0' : ∀ v, tupd T n v 0 = 0 := fun v => by unfold tupd; rw [if_neg (by omega)]; exact hT0
      have Hset := fun (v : Nat) (u : Value) (hu : u = .int .u32 (v : Nat)) => (show Blk (wr.setCell ⟨B, n, none⟩ u) B 103 (tabCells (tupd T n v)) from by
        have := hblk.set_ n u; rwa [tabCells_set T n v u hu] at this)
      by_cases hodd : x % 2 = 1
      · have ht : (bits BinOp.and IntKind.u32 (x : Int) 1 == 1) = true := by rw [HA.out, hodd]; rfl
        have hs : Crc.step x = (x / 2) ^^^ 2197175160 := by unfold Crc.step; rw [if_pos hodd]; rfl
        have hv : bits BinOp.xor IntKind.u32 ((x : Int) / 2) 2197175160 = ((Crc.step x : Nat) : Int) := by
          have := bits_xor32 (x / 2) 2197175160 (by omega) (by decide)
          rw [hs, ← this]; rfl
        have HV := Lib.hid hv
        clear hv hs hodd
        go_wp2
        go_roundg (n / 2)
        case measure => omega
        case rel =>
          refine ⟨n / 2, _, Nat.le_refl _, by go_num, hmem8, HR.out, hT0' _, ?_, ?_⟩
          · rw [HV.out]
            have h2 : Blk ((wr.setCell ⟨B, n, none⟩ (.int .u32 ((x : Int) / 2))).setCell ⟨B, n, none⟩ (.int .u32 ((Crc.step x : Nat) : Int))) B _ (((tabCells T).setIfInBounds n (.int .u32 ((x : Int) / 2))).setIfInBounds n (.int .u32 ((Crc.step x : Nat) : Int))) := (hblk.set_ n _).set_ n _
            rw [Array.setIfInBounds_setIfInBounds, tabCells_set T n (Crc.step x) _ rfl] at h2
            exact h2
          · exact (hbel.setCell (Nat.le_refl _) _).setCell (Nat.le_refl _) _
      · have ht : (bits BinOp.and IntKind.u32 (x : Int) 1 == 1) = false := by
          rw [HA.out, show x % 2 = 0 from by omega]; rfl
        have hs : Crc.step x = x / 2 := by unfold Crc.step; rw [if_neg hodd]
        have HV := Lib.hid hs
        clear hs hodd
        go_wp2
        go_roundg (n / 2)
        case measure => omega
        case rel =>
          refine ⟨n / 2, _, Nat.le_refl _, by go_num, hmem8, HR.out, hT0' _, Hset _ _ (by rw [HV.out]; go_num), hbel.setCell (Nat.le_refl _) _⟩
end Go.Proofs.Ytnbcffnhgijmcaa
