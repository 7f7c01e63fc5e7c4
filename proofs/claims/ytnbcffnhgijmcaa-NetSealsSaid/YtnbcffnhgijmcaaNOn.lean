/- net.on. Conditions: the slice reads as these parcels; what is handed over keeps to its contract. -/
import Derived.Test.YtnbcffnhgijmcaaNFind
import Derived.Laws.EntriesVeiled
namespace Go.Proofs.Ytnbcffnhgijmcaa
open Go.RowKit
def hasB (ps : List PC) (x : Int) : Bool := ps.any fun p => decide (p.num = x)
theorem found_has {ps : List PC} {x : Int} {i : Nat} (hr : Rise ps) (h : Low ps x i) : foundB ps x i = hasB ps x := by
  unfold foundB hasB
  cases hi : ps[i]? with
  | none =>
    have hl : ps.length ≤ i := List.getElem?_eq_none_iff.1 hi
    refine (List.any_eq_false.2 fun p hp => ?_).symm
    obtain ⟨k, hk⟩ := List.mem_iff_getElem?.1 hp
    have h1 := (List.getElem?_eq_some_iff.1 hk).1
    have := h.lt k p hk (by omega)
    simp
    omega
  | some p =>
    show decide (p.num = x) = _
    by_cases hx : p.num = x
    · rw [show decide (p.num = x) = true from by simpa using hx]
      exact (List.any_eq_true.2 ⟨p, List.mem_of_getElem? hi, by simpa using hx⟩).symm
    · rw [show decide (p.num = x) = false from by simpa using hx]
      refine (List.any_eq_false.2 fun q hq => ?_).symm
      obtain ⟨k, hk⟩ := List.mem_iff_getElem?.1 hq
      simp only [decide_eq_true_eq]
      intro e
      rcases Nat.lt_or_ge k i with h1 | h1
      · have := h.lt k q hk h1; omega
      · have h2 := h.ge i p hi (Nat.le_refl _)
        rcases Nat.lt_or_ge i k with h3 | h3
        · have := hr i k p q hi hk h3; omega
        · obtain rfl : i = k := by omega
          rw [hi] at hk
          injection hk with hk
          subst hk
          exact hx e
/-- what is handed over, told a place -/
def DoI (D : FuncId) (cap : Array Value) (W : World) (b B : Nat) (sent : Int) (m : Nat) (ps : List PC) (i : Nat) (J : Int → World → Prop) (Y : World → Int → List El → Prop) : Prop :=
  ∀ w A c es, Below b W w → b < B → B ≤ w.heap.size → Blk w b 26 #[.int .u64 sent, .slice A m c] → DO w B A m c es → es.map El.p = ps →
    Calls Try.prog D (#[.pointer (some ⟨b, 0, none⟩), .int .i64 i] ++ cap) w fun e w' => ∃ er, e = .returned (.int .i64 er) ∧ J er w' ∧ w.heap.size ≤ w'.heap.size ∧ (∀ k, b < k → k < B → w'.heap[k]? = w.heap[k]?) ∧
      (er = 0 → ∃ s A2 m2 c2 es2, Blk w' b 26 #[.int .u64 s, .slice A2 m2 c2] ∧ DO w' B A2 m2 c2 es2 ∧ Y w' s es2)
set_option maxRecDepth 100000 in
set_option maxHeartbeats 4000000 in
theorem on1_doc (sent : Int) (m : Nat) (ps : List PC) (x : Int) (D : FuncId) (cap : Array Value) (W : World) (gN gD : Nat) (J : Int → World → Prop) (Y : World → Int → List El → Prop) (hr : Rise ps) (hm : m ≤ 20000)
    (hent : ∀ (args : Array Value) (w : World), (callFunc D args).run Try.prog w = .ok (.enter D args) w)
    (h1 : Blk W gN 23 #[.int .u64 x]) (h2 : Blk W gD 83 #[.func (.func D) #[] cap])
    (hno : hasB ps x = false → ∀ w, Below W.heap.size W w → J 4 w) (hyes : ∀ i, Low ps x i → hasB ps x = true → DoI D cap W W.heap.size (W.heap.size + 2) sent m ps i J Y) :
    DoC 65 #[.pointer (some ⟨gN, 0, none⟩), .pointer (some ⟨gD, 0, none⟩)] W W.heap.size (W.heap.size + 2) sent m ps J Y := by
  intro w A c es hbel hbB hB hN hD hes
  have HEN := hent
  have HN := Lib.hid hN
  have HD := Lib.hid hD
  have HES := Lib.hid hes
  have H1 := Lib.hid (h1.below hbel h1.lt)
  have H2 := Lib.hid (h2.below hbel h2.lt)
  have HNO := Lib.hid hno
  have HYES := Lib.hid hyes
  have HBEL := Lib.hid hbel
  have HFIND := Lib.hid (fun W (q : Below w.heap.size w W) => find_any AllB A m c ps x W (Lay.rd_below (hes ▸ hD.rd (F := AllB) (fun _ _ => trivial)) q) hm hr)
  have HRISE := Lib.hid hr
  clear hent hN hD hes h1 h2 hno hyes hbel hr
  rw [show (#[Value.pointer (some ⟨W.heap.size, 0, none⟩)] ++ #[.pointer (some ⟨gN, 0, none⟩), .pointer (some ⟨gD, 0, none⟩)] : Array Value) = #[.pointer (some ⟨W.heap.size, 0, none⟩), .pointer (some ⟨gN, 0, none⟩), .pointer (some ⟨gD, 0, none⟩)] from rfl]
  go_enter Try.func65, Try.ntmps65
  go_wp2_with fail
  refine wp_region_ps (S := Seq1 5 (fun _ w' => Below w.heap.size w w') (fun _ w' => Below w.heap.size w w')) (by kernel_rfl) ?spsw5 ?ppsw5
  case spsw5 =>
    exact Seq1.start (by decide) (Below.refl _ _).drew
  refine Ps.step (i := 0) (d := some 8) (u := ?uw5_1) rfl rfl (by kernel_rfl) (by kernel_rfl) (by kernel_rfl) (by kernel_rfl) ?yw5_1 ?rw5_1
  case yw5_1 =>
    refine StepS.pure (Seq1.pass (by decide)) (by rfl) (fun w9 => ?_)
    go_simp
    try rfl
  try simp only [Act.put, List.setIfInBounds_toArray, List.set_cons_zero, List.set_cons_succ]
  refine Ps.step (i := 1) (d := some 9) (u := ?uw5_2) rfl rfl (by kernel_rfl) (by kernel_rfl) (by kernel_rfl) (by kernel_rfl) ?yw5_2 ?rw5_2
  case yw5_2 =>
    refine StepS.pure (Seq1.pass (by decide)) (by rfl) (fun w9 => ?_)
    go_simp
    try rfl
  try simp only [Act.put, List.setIfInBounds_toArray, List.set_cons_zero, List.set_cons_succ]
  refine Ps.step (i := 2) (d := some 10) (u := ?uw5_3) rfl rfl (by kernel_rfl) (by kernel_rfl) (by kernel_rfl) (by kernel_rfl) ?yw5_3 ?rw5_3
  case yw5_3 =>
    refine StepS.pure (Seq1.pass (by decide)) (by rfl) (fun w9 => ?_)
    go_simp
    try rfl
  try simp only [Act.put, List.setIfInBounds_toArray, List.set_cons_zero, List.set_cons_succ]
  refine Ps.step (i := 3) (d := some 11) (u := ?uw5_4) rfl rfl (by kernel_rfl) (by kernel_rfl) (by kernel_rfl) (by kernel_rfl) ?yw5_4 ?rw5_4
  case yw5_4 =>
    refine StepS.read [] (by kernel_rfl) (Seq1.pass (by decide)) (by rfl) (fun L9 m9 w9 hSh hAt hDn hS => ?_)
    have hT : Below w.heap.size w w9 := Seq1.any (T := fun w9 => Below w.heap.size w w9) (fun _ _ h => h) (fun _ _ h => h) hS
    have n1 : w9.cell? ⟨W.heap.size, 1, none⟩ = some (.slice A m c) := (HN.out.ca hT).cell 1
    clear hS hT
    go_simp
    try rfl
  try simp only [Act.put, List.setIfInBounds_toArray, List.set_cons_zero, List.set_cons_succ]
  refine Ps.step (i := 4) (d := some 12) (u := ?uw5_5) rfl rfl (by kernel_rfl) (by kernel_rfl) (by kernel_rfl) (by kernel_rfl) ?yw5_5 ?rw5_5
  case yw5_5 =>
    refine StepS.read [] (by kernel_rfl) (Seq1.pass (by decide)) (by rfl) (fun L9 m9 w9 hSh hAt hDn hS => ?_)
    have hT : Below w.heap.size w w9 := Seq1.any (T := fun w9 => Below w.heap.size w w9) (fun _ _ h => h) (fun _ _ h => h) hS
    have n1 : w9.cell? ⟨gN, 0, none⟩ = some (.int .u64 x) := (H1.out.ca hT).cell 0
    clear hS hT
    go_simp
    try rfl
  try simp only [Act.put, List.setIfInBounds_toArray, List.set_cons_zero, List.set_cons_succ]
  refine Ps.one (k := 5) (d := some 13) rfl rfl (by kernel_rfl) (TurnS.call (V := fun v => ∃ i : Nat, v = .tuple #[.int .i64 i, .bool (foundB ps x i)] ∧ Low ps x i) ?fw5_6 ?aw5_6 [] (by kernel_rfl) (by rfl) (fun w9 => ?hw5_6) (fun L9 m9 w9 hSh hAt hDn hS => ?cw5_6)) (fun v5 hVv5 => ?rw5_6)
  case hw5_6 => go_simp; refine ⟨?_, ?_⟩ <;> rfl
  case cw5_6 =>
    have hT : Below w.heap.size w w9 := Seq1.any (T := fun w9 => Below w.heap.size w w9) (fun _ _ h => h) (fun _ _ h => h) hS
    exact (HFIND.out w9 hT).mono fun _ _ ⟨i, h1, h2, h3⟩ => ⟨_, h1, ⟨i, rfl, h2⟩, Seq1.set1 (bl_ca hT h3)⟩
  try simp only [Act.put, List.setIfInBounds_toArray, List.set_cons_zero, List.set_cons_succ]
  obtain ⟨i, rfl, hlow⟩ := hVv5
  have HLOW := Lib.hid hlow
  have HFH := Lib.hid (found_has HRISE.out hlow)
  generalize foundB ps x i = fb at *
  clear hlow
  refine Ps.step (i := 6) (d := some 7) (u := ?uw5_7) rfl rfl (by kernel_rfl) (by kernel_rfl) (by kernel_rfl) (by kernel_rfl) ?yw5_7 ?rw5_7
  case yw5_7 =>
    refine StepS.pure (Seq1.pass (by decide)) (by rfl) (fun w9 => ?_)
    go_simp
    try rfl
  try simp only [Act.put, List.setIfInBounds_toArray, List.set_cons_zero, List.set_cons_succ]
  refine Ps.step (i := 7) (d := some 14) (u := ?uw5_8) rfl rfl (by kernel_rfl) (by kernel_rfl) (by kernel_rfl) (by kernel_rfl) ?yw5_8 ?rw5_8
  case yw5_8 =>
    refine StepS.pure (Seq1.pass (by decide)) (by rfl) (fun w9 => ?_)
    go_simp
    try rfl
  try simp only [Act.put, List.setIfInBounds_toArray, List.set_cons_zero, List.set_cons_succ]
  refine Ps.step (i := 8) (d := some 15) (u := ?uw5_9) rfl rfl (by kernel_rfl) (by kernel_rfl) (by kernel_rfl) (by kernel_rfl) ?yw5_9 ?rw5_9
  case yw5_9 =>
    refine StepS.pure (Seq1.pass (by decide)) (by rfl) (fun w9 => ?_)
    go_simp
    try rfl
  try simp only [Act.put, List.setIfInBounds_toArray, List.set_cons_zero, List.set_cons_succ]
  refine Ps.step (i := 9) (d := some 5) (u := ?uw5_10) rfl rfl (by kernel_rfl) (by kernel_rfl) (by kernel_rfl) (by kernel_rfl) ?yw5_10 ?rw5_10
  case yw5_10 =>
    refine StepS.pure (Seq1.pass (by decide)) (by rfl) (fun w9 => ?_)
    go_simp
    try rfl
  try simp only [Act.put, List.setIfInBounds_toArray, List.set_cons_zero, List.set_cons_succ]
  refine Ps.step (i := 10) (d := some 6) (u := ?uw5_11) rfl rfl (by kernel_rfl) (by kernel_rfl) (by kernel_rfl) (by kernel_rfl) ?yw5_11 ?rw5_11
  case yw5_11 =>
    refine StepS.pure (Seq1.pass (by decide)) (by rfl) (fun w9 => ?_)
    go_simp
    try rfl
  try simp only [Act.put, List.setIfInBounds_toArray, List.set_cons_zero, List.set_cons_succ]
  refine Ps.done (by kernel_rfl) (fun w5 hS => ?_) _
  have hT := Seq1.fin (by rfl) hS
  clear hS
  cases fb
  · have HJ := Lib.hid (HNO.out HFH.out.symm _ (HBEL.out.trans (hT.mono HBEL.out.size)))
    have hs := hT.size
    have hbl : ∀ k, W.heap.size < k → k < W.heap.size + 2 → w5.heap[k]? = w.heap[k]? := fun k _ hk => hT.block k (by omega)
    go_wp2
    go_ret
    exact ⟨4, rfl, HJ.out, hs, hbl, fun h => by cases h⟩
  · have HC := Lib.hid (HYES.out i HLOW.out HFH.out.symm w5 A c es (HBEL.out.trans (hT.mono HBEL.out.size)) hbB (Nat.le_trans hB hT.size) (HN.out.ca hT) (HD.out.below hT) HES.out)
    have f0 : w5.cell? ⟨gD, 0, none⟩ = some (.func (.func D) #[] cap) := (H2.out.ca hT).cell 0
    have HS := Lib.hid hT.size
    have HBL := Lib.hid (show ∀ k, W.heap.size < k → k < W.heap.size + 2 → w5.heap[k]? = w.heap[k]? from fun k _ hk => hT.block k (by omega))
    clear hT
    go_wp2_with fail
    refine HC.out.mono ?_
    rintro e w6 ⟨er, rfl, hj, hs6, hk6, hz6⟩
    have HJ := Lib.hid hj
    have HK6 := Lib.hid hk6
    have HZ6 := Lib.hid hz6
    clear hj hk6 hz6
    go_wp2
    go_ret
    exact ⟨er, rfl, HJ.out, Nat.le_trans HS.out hs6, fun k h1 h2 => (HK6.out k h1 h2).trans (HBL.out k h1 h2), HZ6.out⟩
end Go.Proofs.Ytnbcffnhgijmcaa
