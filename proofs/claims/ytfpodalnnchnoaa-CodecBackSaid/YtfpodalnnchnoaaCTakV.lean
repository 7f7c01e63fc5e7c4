/- codec.taken at a value; TakeValue, TakeRow, TakeList. Conditions: the slice reads as these bytes. -/
import Derived.Test.YtfpodalnnchnoaaCTaken
namespace Go.Proofs.Ytfpodalnnchnoaa
open Go.RowKit
theorem res3 {P : Program} {fn : Func} {p q r : Tmp} {ty : TypeId} (h : fn.results = #[.cell p ty, .tmp q, .tmp r]) {tmps : Array Value} {w : World} {g : Nat} {t : TypeId} {cs : Array Value} {d : TypeDesc} {v u : Value}
    (hp : tmps.getD p undef = .pointer (some ⟨g, 0, none⟩)) (hq : tmps.getD q undef = v) (hr : tmps.getD r undef = u) (hg : Blk w g t cs) (hu : P.underlying ty = some d) (hd : (match d with | .struct _ | .array _ _ => true | _ => false) = true) (hi : (P.info? ty).map (·.size) = some cs.size) :
    (results fn tmps).run P w = .ok (.tuple #[.agg cs, v, u]) w := by
  have hp' : tmps[p]?.getD undef = .pointer (some ⟨g, 0, none⟩) := by simpa using hp
  have hq' : tmps[q]?.getD undef = v := by simpa using hq
  have hr' : tmps[r]?.getD undef = u := by simpa using hr
  simp [results, h, hp', hq', hr', asAddr, run_loadVar_row w g t ty cs (0, 0) d hg hu hd hi]
set_option maxRecDepth 100000 in
set_option maxHeartbeats 4000000 in
theorem taken_val (T R : Nat) (O : Option Addr) (n c : Nat) (bs : List UInt8) (s : St) (v : VV) (w : World) (hk : Tk w T R O n c bs s) :
    Calls Try.prog 37 #[.pointer (some ⟨T, 0, none⟩), .agg #[.int .i64 v.k, .int .i64 v.n, .int .u64 v.u, .string v.s]] w fun e w' => e = .returned (.tuple #[.agg (if takE s = 0 then #[.int .i64 v.k, .int .i64 v.n, .int .u64 v.u, .string v.s] else #[.int .i64 0, .int .i64 0, .int .u64 0, .string ⟨#[]⟩]), .int .i64 (takN s : Int), .int .i64 (takE s)]) ∧ Below w.heap.size w w' := by
  have hle := hk.rdr.le
  have hlim := hk.rdr.lim
  rcases s with ⟨p, why, bad⟩
  simp only at hle
  cases bad
  · by_cases hw : why = 0
    · subst hw
      rw [show takE ⟨p, 0, false⟩ = 0 from rfl, show takN ⟨p, 0, false⟩ = p from rfl, if_pos rfl]
      have lT := hk.blk.lt
      have lR := hk.rdr.lt
      have hX := (((Blk.new w 24 #[.int .i64 v.k, .int .i64 v.n, .int .u64 v.u, .string v.s]).alloc (.cells #[.int .i64 0, .int .i64 0, .int .u64 0, .string ⟨#[]⟩] 24)).alloc (.cells #[.int .i64 0, .int .i64 0, .int .u64 0, .string ⟨#[]⟩] 24))
      have hR := ((Blk.new (w.alloc (.cells #[.int .i64 v.k, .int .i64 v.n, .int .u64 v.u, .string v.s] 24)) 24 #[.int .i64 0, .int .i64 0, .int .u64 0, .string ⟨#[]⟩]).alloc (.cells #[.int .i64 0, .int .i64 0, .int .u64 0, .string ⟨#[]⟩] 24))
      have hN := (Blk.new ((w.alloc (.cells #[.int .i64 v.k, .int .i64 v.n, .int .u64 v.u, .string v.s] 24)).alloc (.cells #[.int .i64 0, .int .i64 0, .int .u64 0, .string ⟨#[]⟩] 24)) 24 #[.int .i64 0, .int .i64 0, .int .u64 0, .string ⟨#[]⟩])
      have bb := (bl_al (bl_al (bl_al (Below.refl w.heap.size w) (.cells #[.int .i64 v.k, .int .i64 v.n, .int .u64 v.u, .string v.s] 24)) (.cells #[.int .i64 0, .int .i64 0, .int .u64 0, .string ⟨#[]⟩] 24)) (.cells #[.int .i64 0, .int .i64 0, .int .u64 0, .string ⟨#[]⟩] 24))
      simp only [World.size_alloc] at hR hN
      replace hk := hk.below bb
      have t0 : (((w.alloc (.cells #[.int .i64 v.k, .int .i64 v.n, .int .u64 v.u, .string v.s] 24)).alloc (.cells #[.int .i64 0, .int .i64 0, .int .u64 0, .string ⟨#[]⟩] 24)).alloc (.cells #[.int .i64 0, .int .i64 0, .int .u64 0, .string ⟨#[]⟩] 24)).cell? ⟨T, 0, none⟩ = some (.pointer (some ⟨R, 0, none⟩)) := hk.blk.cell 0
      have t2 : (((w.alloc (.cells #[.int .i64 v.k, .int .i64 v.n, .int .u64 v.u, .string v.s] 24)).alloc (.cells #[.int .i64 0, .int .i64 0, .int .u64 0, .string ⟨#[]⟩] 24)).alloc (.cells #[.int .i64 0, .int .i64 0, .int .u64 0, .string ⟨#[]⟩] 24)).cell? ⟨T, 2, none⟩ = some (.bool false) := hk.blk.cell 2
      go_enter Try.func37, Try.ntmps37
      go_wp2_with fail
      clear t0 t2
      generalize (((w.alloc (.cells #[.int .i64 v.k, .int .i64 v.n, .int .u64 v.u, .string v.s] 24)).alloc (.cells #[.int .i64 0, .int .i64 0, .int .u64 0, .string ⟨#[]⟩] 24)).alloc (.cells #[.int .i64 0, .int .i64 0, .int .u64 0, .string ⟨#[]⟩] 24)) = w1 at *
      have HE := Lib.hid (fun w (h : Tk w T R O n c bs ⟨p, 0, false⟩) => err_any R O n c bs p 0 w h.rdr)
      refine (HE.out _ hk).mono ?_
      rintro e w2 ⟨rfl, rfl⟩
      have nT : w.heap.size + 1 ≠ T := by omega
      have nR : w.heap.size + 1 ≠ R := by omega
      have dX : w.heap.size ≠ w.heap.size + 1 := by omega
      have dN : w.heap.size + 1 + 1 ≠ w.heap.size + 1 := by omega
      go_wp2_with fail
      refine wp_region_linp (S := Slot w1 (w.heap.size + 1) 24 #[.int .i64 0, .int .i64 0, .int .u64 0, .string ⟨#[]⟩] #[.int .i64 v.k, .int .i64 v.n, .int .u64 v.u, .string v.s]) 11 (by decide) (by kernel_rfl) (Slot.start hR) ?_
      refine GoodP.val (i := 0) (d := some 27) (v := ?v6_0_1) (by rfl) rfl rfl (by kernel_rfl) (by kernel_rfl) (by kernel_rfl) (by rfl) (fun b9 w9 hS => ?h6_0_1) ?r6_0_1
      case h6_0_1 =>
        have hb9 := hS.blk hX dX
        have b9_0 : w9.cell? ⟨w.heap.size, 0, none⟩ = some (.int .i64 v.k) := hb9.cell 0
        have b9_1 : w9.cell? ⟨w.heap.size, 1, none⟩ = some (.int .i64 v.n) := hb9.cell 1
        have b9_2 : w9.cell? ⟨w.heap.size, 2, none⟩ = some (.int .u64 v.u) := hb9.cell 2
        have b9_3 : w9.cell? ⟨w.heap.size, 3, none⟩ = some (.string v.s) := hb9.cell 3
        go_simp
        try rfl
      try simp only [Act.put, List.setIfInBounds_toArray, List.set_cons_zero, List.set_cons_succ]
      refine GoodP.val (i := 1) (d := some 28) (v := ?v6_1_2) (by rfl) rfl rfl (by kernel_rfl) (by kernel_rfl) (by kernel_rfl) (by rfl) (fun b9 w9 hS => ?h6_1_2) ?r6_1_2
      case h6_1_2 =>
        go_simp
        try rfl
      try simp only [Act.put, List.setIfInBounds_toArray, List.set_cons_zero, List.set_cons_succ]
      refine GoodP.val (i := 2) (d := some 29) (v := ?v6_2_3) (by rfl) rfl rfl (by kernel_rfl) (by kernel_rfl) (by kernel_rfl) (by rfl) (fun b9 w9 hS => ?h6_2_3) ?r6_2_3
      case h6_2_3 =>
        go_simp
        try rfl
      try simp only [Act.put, List.setIfInBounds_toArray, List.set_cons_zero, List.set_cons_succ]
      refine GoodP.val (i := 3) (d := some 30) (v := ?v6_3_4) (by rfl) rfl rfl (by kernel_rfl) (by kernel_rfl) (by kernel_rfl) (by rfl) (fun b9 w9 hS => ?h6_3_4) ?r6_3_4
      case h6_3_4 =>
        go_simp
        try rfl
      try simp only [Act.put, List.setIfInBounds_toArray, List.set_cons_zero, List.set_cons_succ]
      refine GoodP.val (i := 4) (d := some 31) (v := ?v6_4_5) (by rfl) rfl rfl (by kernel_rfl) (by kernel_rfl) (by kernel_rfl) (by rfl) (fun b9 w9 hS => ?h6_4_5) ?r6_4_5
      case h6_4_5 =>
        have t9 : w9.cell? ⟨T, 1, none⟩ = some (.int .i64 (n : Int)) := (hk.far hR (by decide) nT nR hS.1).blk.cell 1
        go_simp
        try rfl
      try simp only [Act.put, List.setIfInBounds_toArray, List.set_cons_zero, List.set_cons_succ]
      refine GoodP.val (i := 5) (d := some 32) (v := ?v6_5_6) (by rfl) rfl rfl (by kernel_rfl) (by kernel_rfl) (by kernel_rfl) (by rfl) (fun b9 w9 hS => ?h6_5_6) ?r6_5_6
      case h6_5_6 =>
        go_simp
        try rfl
      try simp only [Act.put, List.setIfInBounds_toArray, List.set_cons_zero, List.set_cons_succ]
      refine GoodP.val (i := 6) (d := some 33) (v := ?v6_6_7) (by rfl) rfl rfl (by kernel_rfl) (by kernel_rfl) (by kernel_rfl) (by rfl) (fun b9 w9 hS => ?h6_6_7) ?r6_6_7
      case h6_6_7 =>
        go_simp
        try rfl
      try simp only [Act.put, List.setIfInBounds_toArray, List.set_cons_zero, List.set_cons_succ]
      refine GoodP.val (i := 7) (d := some 34) (v := ?v6_7_8) (by rfl) rfl rfl (by kernel_rfl) (by kernel_rfl) (by kernel_rfl) (by rfl) (fun b9 w9 hS => ?h6_7_8) ?r6_7_8
      case h6_7_8 =>
        go_simp
        try rfl
      try simp only [Act.put, List.setIfInBounds_toArray, List.set_cons_zero, List.set_cons_succ]
      refine GoodP.val (i := 8) (d := some 35) (v := ?v6_8_9) (by rfl) rfl rfl (by kernel_rfl) (by kernel_rfl) (by kernel_rfl) (by rfl) (fun b9 w9 hS => ?h6_8_9) ?r6_8_9
      case h6_8_9 =>
        have t9 : w9.cell? ⟨T, 0, none⟩ = some (.pointer (some ⟨R, 0, none⟩)) := (hk.far hR (by decide) nT nR hS.1).blk.cell 0
        go_simp
        try rfl
      try simp only [Act.put, List.setIfInBounds_toArray, List.set_cons_zero, List.set_cons_succ]
      refine GoodP.call (i := 9) (d := some 36) (fn := ?f6_9_10) (args := ?a6_9_10) (v := ?v6_9_10) (by rfl) rfl rfl (by kernel_rfl) (by kernel_rfl) (by kernel_rfl) (by rfl) (fun b9 w9 hS => ?h6_9_10) (Slot.call fun b9 w9 qS => ?c6_9_10) ?r6_9_10
      case h6_9_10 => go_simp; refine ⟨?_, ?_⟩ <;> rfl
      case c6_9_10 => exact left_below R O n c bs p 0 _ (hk.far hR (by decide) nT nR qS.1).rdr
      try simp only [Act.put, List.setIfInBounds_toArray, List.set_cons_zero, List.set_cons_succ]
      refine GoodP.val (i := 10) (d := some 37) (v := .int .i64 (p : Int)) (by rfl) rfl rfl (by kernel_rfl) (by kernel_rfl) (by kernel_rfl) (by rfl) (fun b9 w9 hS => ?h6_10_11) ?r6_10_11
      case h6_10_11 =>
        have hsub : IntKind.i64.wrap ((n : Int) - ((n : Int) - (p : Int))) = (p : Int) := by rw [IntKind.wrap_i64]; omega
        go_simp
        try rfl
      try simp only [Act.put, List.setIfInBounds_toArray, List.set_cons_zero, List.set_cons_succ]
      refine GoodP.store rfl rfl (by kernel_rfl) (by kernel_rfl) (by kernel_rfl) (by rfl) (fun w9 hS => ?s6_11_12) ?r6_11_12
      case s6_11_12 => exact hS.store 24 rfl valI (one4 _ _ _ _) rfl rfl rfl
      refine GoodP.val (i := 12) (d := some 5) (v := ?v6_12_13) (by rfl) rfl rfl (by kernel_rfl) (by kernel_rfl) (by kernel_rfl) (by rfl) (fun b9 w9 hS => ?h6_12_13) ?r6_12_13
      case h6_12_13 =>
        go_simp
        try rfl
      try simp only [Act.put, List.setIfInBounds_toArray, List.set_cons_zero, List.set_cons_succ]
      refine GoodP.val (i := 13) (d := some 6) (v := ?v6_13_14) (by rfl) rfl rfl (by kernel_rfl) (by kernel_rfl) (by kernel_rfl) (by rfl) (fun b9 w9 hS => ?h6_13_14) ?r6_13_14
      case h6_13_14 =>
        go_simp
        try rfl
      try simp only [Act.put, List.setIfInBounds_toArray, List.set_cons_zero, List.set_cons_succ]
      refine GoodP.done (by kernel_rfl) (by kernel_rfl) (fun w2 qw2 => ?_) _
      go_wp2
      exact bodyPost_ret (res3 Try.results37 rfl rfl rfl qw2.2 Try.underlying24 rfl valI) rfl ⟨rfl, bl_gr bb qw2.1 (by omega)⟩
    · have hw1 : (why != 0) = true := by simpa using hw
      rw [show takE ⟨p, why, false⟩ = why from rfl, show takN ⟨p, why, false⟩ = 0 from by unfold takN; rw [show takE ⟨p, why, false⟩ = why from rfl, if_neg hw], if_neg hw]
      clear hw
      have lT := hk.blk.lt
      have lR := hk.rdr.lt
      have hX := (((Blk.new w 24 #[.int .i64 v.k, .int .i64 v.n, .int .u64 v.u, .string v.s]).alloc (.cells #[.int .i64 0, .int .i64 0, .int .u64 0, .string ⟨#[]⟩] 24)).alloc (.cells #[.int .i64 0, .int .i64 0, .int .u64 0, .string ⟨#[]⟩] 24))
      have hR := ((Blk.new (w.alloc (.cells #[.int .i64 v.k, .int .i64 v.n, .int .u64 v.u, .string v.s] 24)) 24 #[.int .i64 0, .int .i64 0, .int .u64 0, .string ⟨#[]⟩]).alloc (.cells #[.int .i64 0, .int .i64 0, .int .u64 0, .string ⟨#[]⟩] 24))
      have hN := (Blk.new ((w.alloc (.cells #[.int .i64 v.k, .int .i64 v.n, .int .u64 v.u, .string v.s] 24)).alloc (.cells #[.int .i64 0, .int .i64 0, .int .u64 0, .string ⟨#[]⟩] 24)) 24 #[.int .i64 0, .int .i64 0, .int .u64 0, .string ⟨#[]⟩])
      have bb := (bl_al (bl_al (bl_al (Below.refl w.heap.size w) (.cells #[.int .i64 v.k, .int .i64 v.n, .int .u64 v.u, .string v.s] 24)) (.cells #[.int .i64 0, .int .i64 0, .int .u64 0, .string ⟨#[]⟩] 24)) (.cells #[.int .i64 0, .int .i64 0, .int .u64 0, .string ⟨#[]⟩] 24))
      simp only [World.size_alloc] at hR hN
      replace hk := hk.below bb
      have t0 : (((w.alloc (.cells #[.int .i64 v.k, .int .i64 v.n, .int .u64 v.u, .string v.s] 24)).alloc (.cells #[.int .i64 0, .int .i64 0, .int .u64 0, .string ⟨#[]⟩] 24)).alloc (.cells #[.int .i64 0, .int .i64 0, .int .u64 0, .string ⟨#[]⟩] 24)).cell? ⟨T, 0, none⟩ = some (.pointer (some ⟨R, 0, none⟩)) := hk.blk.cell 0
      have t2 : (((w.alloc (.cells #[.int .i64 v.k, .int .i64 v.n, .int .u64 v.u, .string v.s] 24)).alloc (.cells #[.int .i64 0, .int .i64 0, .int .u64 0, .string ⟨#[]⟩] 24)).alloc (.cells #[.int .i64 0, .int .i64 0, .int .u64 0, .string ⟨#[]⟩] 24)).cell? ⟨T, 2, none⟩ = some (.bool false) := hk.blk.cell 2
      go_enter Try.func37, Try.ntmps37
      go_wp2_with fail
      clear t0 t2
      generalize (((w.alloc (.cells #[.int .i64 v.k, .int .i64 v.n, .int .u64 v.u, .string v.s] 24)).alloc (.cells #[.int .i64 0, .int .i64 0, .int .u64 0, .string ⟨#[]⟩] 24)).alloc (.cells #[.int .i64 0, .int .i64 0, .int .u64 0, .string ⟨#[]⟩] 24)) = w1 at *
      have HE := Lib.hid (fun w (h : Tk w T R O n c bs ⟨p, why, false⟩) => err_any R O n c bs p why w h.rdr)
      refine (HE.out _ hk).mono ?_
      rintro e w2 ⟨rfl, rfl⟩
      have nT : w.heap.size + 1 ≠ T := by omega
      have nR : w.heap.size + 1 ≠ R := by omega
      have dX : w.heap.size ≠ w.heap.size + 1 := by omega
      have dN : w.heap.size + 1 + 1 ≠ w.heap.size + 1 := by omega
      go_wp2_with fail
      have HEB := Lib.hid (fun w (h : Tk w T R O n c bs ⟨p, why, false⟩) => (show Calls Try.prog 43 #[.pointer (some ⟨R, 0, none⟩)] w fun e w' => e = .returned (.int .i64 why) ∧ Below w.heap.size w w' from (HE.out w h).mono fun _ _ ⟨he, hw⟩ => ⟨he, hw ▸ Below.refl _ _⟩))
      refine wp_region_linp (S := Slot w1 (w.heap.size + 1) 24 #[.int .i64 0, .int .i64 0, .int .u64 0, .string ⟨#[]⟩] #[.int .i64 0, .int .i64 0, .int .u64 0, .string ⟨#[]⟩]) 6 (by decide) (by kernel_rfl) (Slot.start hR) ?_
      refine GoodP.val (i := 0) (d := some 21) (v := ?v5_0_15) (by rfl) rfl rfl (by kernel_rfl) (by kernel_rfl) (by kernel_rfl) (by rfl) (fun b9 w9 hS => ?h5_0_15) ?r5_0_15
      case h5_0_15 =>
        have hb9 := hS.blk hN dN
        have b9_0 : w9.cell? ⟨w.heap.size + 1 + 1, 0, none⟩ = some (.int .i64 0) := hb9.cell 0
        have b9_1 : w9.cell? ⟨w.heap.size + 1 + 1, 1, none⟩ = some (.int .i64 0) := hb9.cell 1
        have b9_2 : w9.cell? ⟨w.heap.size + 1 + 1, 2, none⟩ = some (.int .u64 0) := hb9.cell 2
        have b9_3 : w9.cell? ⟨w.heap.size + 1 + 1, 3, none⟩ = some (.string ⟨#[]⟩) := hb9.cell 3
        go_simp
        try rfl
      try simp only [Act.put, List.setIfInBounds_toArray, List.set_cons_zero, List.set_cons_succ]
      refine GoodP.val (i := 1) (d := some 22) (v := ?v5_1_16) (by rfl) rfl rfl (by kernel_rfl) (by kernel_rfl) (by kernel_rfl) (by rfl) (fun b9 w9 hS => ?h5_1_16) ?r5_1_16
      case h5_1_16 =>
        go_simp
        try rfl
      try simp only [Act.put, List.setIfInBounds_toArray, List.set_cons_zero, List.set_cons_succ]
      refine GoodP.val (i := 2) (d := some 23) (v := ?v5_2_17) (by rfl) rfl rfl (by kernel_rfl) (by kernel_rfl) (by kernel_rfl) (by rfl) (fun b9 w9 hS => ?h5_2_17) ?r5_2_17
      case h5_2_17 =>
        go_simp
        try rfl
      try simp only [Act.put, List.setIfInBounds_toArray, List.set_cons_zero, List.set_cons_succ]
      refine GoodP.val (i := 3) (d := some 24) (v := ?v5_3_18) (by rfl) rfl rfl (by kernel_rfl) (by kernel_rfl) (by kernel_rfl) (by rfl) (fun b9 w9 hS => ?h5_3_18) ?r5_3_18
      case h5_3_18 =>
        go_simp
        try rfl
      try simp only [Act.put, List.setIfInBounds_toArray, List.set_cons_zero, List.set_cons_succ]
      refine GoodP.val (i := 4) (d := some 25) (v := ?v5_4_19) (by rfl) rfl rfl (by kernel_rfl) (by kernel_rfl) (by kernel_rfl) (by rfl) (fun b9 w9 hS => ?h5_4_19) ?r5_4_19
      case h5_4_19 =>
        have t9 : w9.cell? ⟨T, 0, none⟩ = some (.pointer (some ⟨R, 0, none⟩)) := (hk.far hR (by decide) nT nR hS.1).blk.cell 0
        go_simp
        try rfl
      try simp only [Act.put, List.setIfInBounds_toArray, List.set_cons_zero, List.set_cons_succ]
      refine GoodP.call (i := 5) (d := some 26) (fn := ?f5_5_20) (args := ?a5_5_20) (v := ?v5_5_20) (by rfl) rfl rfl (by kernel_rfl) (by kernel_rfl) (by kernel_rfl) (by rfl) (fun b9 w9 hS => ?h5_5_20) (Slot.call fun b9 w9 qS => ?c5_5_20) ?r5_5_20
      case h5_5_20 => go_simp; refine ⟨?_, ?_⟩ <;> rfl
      case c5_5_20 => exact HEB.out _ (hk.far hR (by decide) nT nR qS.1)
      try simp only [Act.put, List.setIfInBounds_toArray, List.set_cons_zero, List.set_cons_succ]
      refine GoodP.store rfl rfl (by kernel_rfl) (by kernel_rfl) (by kernel_rfl) (by rfl) (fun w9 hS => ?s5_6_21) ?r5_6_21
      case s5_6_21 => exact hS.store 24 rfl valI (one4 _ _ _ _) rfl rfl rfl
      refine GoodP.val (i := 7) (d := some 5) (v := ?v5_7_22) (by rfl) rfl rfl (by kernel_rfl) (by kernel_rfl) (by kernel_rfl) (by rfl) (fun b9 w9 hS => ?h5_7_22) ?r5_7_22
      case h5_7_22 =>
        go_simp
        try rfl
      try simp only [Act.put, List.setIfInBounds_toArray, List.set_cons_zero, List.set_cons_succ]
      refine GoodP.val (i := 8) (d := some 6) (v := ?v5_8_23) (by rfl) rfl rfl (by kernel_rfl) (by kernel_rfl) (by kernel_rfl) (by rfl) (fun b9 w9 hS => ?h5_8_23) ?r5_8_23
      case h5_8_23 =>
        go_simp
        try rfl
      try simp only [Act.put, List.setIfInBounds_toArray, List.set_cons_zero, List.set_cons_succ]
      refine GoodP.done (by kernel_rfl) (by kernel_rfl) (fun w2 qw2 => ?_) _
      go_wp2
      exact bodyPost_ret (res3 Try.results37 rfl rfl rfl qw2.2 Try.underlying24 rfl valI) rfl ⟨rfl, bl_gr bb qw2.1 (by omega)⟩
  · rw [show takE ⟨p, why, true⟩ = 160 from rfl, show takN ⟨p, why, true⟩ = 0 from rfl, if_neg (by omega)]
    have lT := hk.blk.lt
    have lR := hk.rdr.lt
    have hX := (((Blk.new w 24 #[.int .i64 v.k, .int .i64 v.n, .int .u64 v.u, .string v.s]).alloc (.cells #[.int .i64 0, .int .i64 0, .int .u64 0, .string ⟨#[]⟩] 24)).alloc (.cells #[.int .i64 0, .int .i64 0, .int .u64 0, .string ⟨#[]⟩] 24))
    have hR := ((Blk.new (w.alloc (.cells #[.int .i64 v.k, .int .i64 v.n, .int .u64 v.u, .string v.s] 24)) 24 #[.int .i64 0, .int .i64 0, .int .u64 0, .string ⟨#[]⟩]).alloc (.cells #[.int .i64 0, .int .i64 0, .int .u64 0, .string ⟨#[]⟩] 24))
    have hN := (Blk.new ((w.alloc (.cells #[.int .i64 v.k, .int .i64 v.n, .int .u64 v.u, .string v.s] 24)).alloc (.cells #[.int .i64 0, .int .i64 0, .int .u64 0, .string ⟨#[]⟩] 24)) 24 #[.int .i64 0, .int .i64 0, .int .u64 0, .string ⟨#[]⟩])
    have bb := (bl_al (bl_al (bl_al (Below.refl w.heap.size w) (.cells #[.int .i64 v.k, .int .i64 v.n, .int .u64 v.u, .string v.s] 24)) (.cells #[.int .i64 0, .int .i64 0, .int .u64 0, .string ⟨#[]⟩] 24)) (.cells #[.int .i64 0, .int .i64 0, .int .u64 0, .string ⟨#[]⟩] 24))
    simp only [World.size_alloc] at hR hN
    replace hk := hk.below bb
    have t0 : (((w.alloc (.cells #[.int .i64 v.k, .int .i64 v.n, .int .u64 v.u, .string v.s] 24)).alloc (.cells #[.int .i64 0, .int .i64 0, .int .u64 0, .string ⟨#[]⟩] 24)).alloc (.cells #[.int .i64 0, .int .i64 0, .int .u64 0, .string ⟨#[]⟩] 24)).cell? ⟨T, 0, none⟩ = some (.pointer (some ⟨R, 0, none⟩)) := hk.blk.cell 0
    have t2 : (((w.alloc (.cells #[.int .i64 v.k, .int .i64 v.n, .int .u64 v.u, .string v.s] 24)).alloc (.cells #[.int .i64 0, .int .i64 0, .int .u64 0, .string ⟨#[]⟩] 24)).alloc (.cells #[.int .i64 0, .int .i64 0, .int .u64 0, .string ⟨#[]⟩] 24)).cell? ⟨T, 2, none⟩ = some (.bool true) := hk.blk.cell 2
    have KR := Lib.hid hR
    have n0 : (((w.alloc (.cells #[.int .i64 v.k, .int .i64 v.n, .int .u64 v.u, .string v.s] 24)).alloc (.cells #[.int .i64 0, .int .i64 0, .int .u64 0, .string ⟨#[]⟩] 24)).alloc (.cells #[.int .i64 0, .int .i64 0, .int .u64 0, .string ⟨#[]⟩] 24)).cell? ⟨w.heap.size + 1 + 1, 0, none⟩ = some (.int .i64 0) := hN.cell 0
    have n1 : (((w.alloc (.cells #[.int .i64 v.k, .int .i64 v.n, .int .u64 v.u, .string v.s] 24)).alloc (.cells #[.int .i64 0, .int .i64 0, .int .u64 0, .string ⟨#[]⟩] 24)).alloc (.cells #[.int .i64 0, .int .i64 0, .int .u64 0, .string ⟨#[]⟩] 24)).cell? ⟨w.heap.size + 1 + 1, 1, none⟩ = some (.int .i64 0) := hN.cell 1
    have n2 : (((w.alloc (.cells #[.int .i64 v.k, .int .i64 v.n, .int .u64 v.u, .string v.s] 24)).alloc (.cells #[.int .i64 0, .int .i64 0, .int .u64 0, .string ⟨#[]⟩] 24)).alloc (.cells #[.int .i64 0, .int .i64 0, .int .u64 0, .string ⟨#[]⟩] 24)).cell? ⟨w.heap.size + 1 + 1, 2, none⟩ = some (.int .u64 0) := hN.cell 2
    have n3 : (((w.alloc (.cells #[.int .i64 v.k, .int .i64 v.n, .int .u64 v.u, .string v.s] 24)).alloc (.cells #[.int .i64 0, .int .i64 0, .int .u64 0, .string ⟨#[]⟩] 24)).alloc (.cells #[.int .i64 0, .int .i64 0, .int .u64 0, .string ⟨#[]⟩] 24)).cell? ⟨w.heap.size + 1 + 1, 3, none⟩ = some (.string ⟨#[]⟩) := hN.cell 3
    go_enter Try.func37, Try.ntmps37
    go_wp2_with (refine wpList_store_blk rfl 24 (.tmp 4) (.tmp 13) rfl (w.heap.size + 1) 24 _ _ rfl rfl KR.out rfl valI (one4 _ _ _ _) ?_; intro wz hZ gz)
    exact bodyPost_ret (res3 Try.results37 rfl rfl rfl hZ Try.underlying24 rfl valI) rfl ⟨rfl, bl_gr bb gz (by omega)⟩
end Go.Proofs.Ytfpodalnnchnoaa
