/- net.Send. Conditions: the slices read as these parcels and bytes. -/
import Derived.Test.YtnbcffnhgijmcaaNAdds
namespace Go.Proofs.Ytnbcffnhgijmcaa
open Go.RowKit
theorem res3 {P : Program} {fn : Func} {p q r : Tmp} {ty : TypeId} (h : fn.results = #[.cell p ty, .tmp q, .tmp r]) {tmps : Array Value} {w : World} {g : Nat} {t : TypeId} {cs : Array Value} {d : TypeDesc} {v u : Value}
    (hp : tmps.getD p undef = .pointer (some ⟨g, 0, none⟩)) (hq : tmps.getD q undef = v) (hr : tmps.getD r undef = u) (hg : Blk w g t cs) (hu : P.underlying ty = some d) (hd : (match d with | .struct _ | .array _ _ => true | _ => false) = true) (hi : (P.info? ty).map (·.size) = some cs.size) :
    (results fn tmps).run P w = .ok (.tuple #[.agg cs, v, u]) w := by
  have hp' : tmps[p]?.getD undef = .pointer (some ⟨g, 0, none⟩) := by simpa using hp
  have hq' : tmps[q]?.getD undef = v := by simpa using hq
  have hr' : tmps[r]?.getD undef = u := by simpa using hr
  simp [results, h, hp', hq', hr', asAddr, run_loadVar_row w g t ty cs (0, 0) d hg hu hd hi]
def newP (f t : Int) (bs : List UInt8) : PC := ⟨0, f, t, bs, false⟩
def fullB (sent : Int) (ps : List PC) : Bool := decide (20000 ≤ ps.length) || decide (sent = 1099511627776)
/-- what comes of a parcel more -/
def addE (sent : Int) (ps : List PC) : Int := if fullB sent ps then 6 else 0
def sendE (sent : Int) (ps : List PC) (f t : Int) (bs : List UInt8) : Int := if chkB sent ps then (if pairB f t then (if 60000 < bs.length then 3 else addE sent ps) else 2) else 340
theorem chk_rng {sent : Int} {ps : List PC} (h : chkB sent ps = true) : sent ≤ 1099511627776 ∧ ps.length ≤ 20000 := by
  unfold chkB at h
  simp only [Bool.and_eq_true, decide_eq_true_eq] at h
  omega
set_option maxRecDepth 100000 in
set_option maxHeartbeats 4000000 in
theorem send1_doc (sent : Int) (m : Nat) (ps : List PC) (f t : Int) (bA : Option Addr) (bn bc : Nat) (bs : List UInt8) (W0 W : World) (g1 g2 g3 : Nat) (hs0 : 0 ≤ sent) (hchk : chkB sent ps = true) (hm : ps.length = m) (h0 : Below W0.heap.size W0 W) (h0b : W0.heap.size ≤ W.heap.size)
    (h1 : Blk W g1 3 #[.int .i64 f]) (h2 : Blk W g2 3 #[.int .i64 t]) (h3 : Blk W g3 27 #[.slice bA bn bc]) (hb : RdB W bA bn bs) :
    DoC 42 #[.pointer (some ⟨g1, 0, none⟩), .pointer (some ⟨g2, 0, none⟩), .pointer (some ⟨g3, 0, none⟩)] W W.heap.size (W.heap.size + 2) sent m ps
      (fun er w' => er = (if pairB f t then (if 60000 < bs.length then 3 else addE sent ps) else 2) ∧ Below W0.heap.size W0 w') (fun _ s l => s = sent + 1 ∧ l.map El.p = ps ++ [added sent (newP f t bs)]) := by
  intro w A c es hbel hbB hB hN hD hes
  have k1 := (h1.below hbel h1.lt).cell 0
  have k2 := (h2.below hbel h2.lt).cell 0
  have k3 := (h3.below hbel h3.lt).cell 0
  have e1 : w.cell? ⟨g1, 0, none⟩ = some (.int .i64 f) := k1
  have e2 : w.cell? ⟨g2, 0, none⟩ = some (.int .i64 t) := k2
  have e3 : w.cell? ⟨g3, 0, none⟩ = some (.slice bA bn bc) := k3
  have hrb : ∀ w', Kept w w' W.heap.size w.heap.size → RdB w' bA bn bs := fun w' hk => hb.below ⟨hk.os.trans hbel.os, hk.tape.trans hbel.tape, hk.output.trans hbel.output, Nat.le_trans hbel.size hk.size, fun b hb' => (hk.block b (Nat.lt_of_lt_of_le hb' hbel.size) (by omega)).trans (hbel.block b hb')⟩
  have HRB := Lib.hid hrb
  have hbl : bs.length = bn := hb.len
  have hw0 : Below W0.heap.size W0 w := h0.trans (hbel.mono h0b)
  obtain ⟨hr1, hr2⟩ := chk_rng hchk
  have HN := Lib.hid hN
  have HD := Lib.hid hD
  have HES := Lib.hid hes
  clear k1 k2 k3 h1 h2 h3 hb hrb hchk hN hD hes
  rw [show (#[Value.pointer (some ⟨W.heap.size, 0, none⟩)] ++ #[.pointer (some ⟨g1, 0, none⟩), .pointer (some ⟨g2, 0, none⟩), .pointer (some ⟨g3, 0, none⟩)] : Array Value) = #[.pointer (some ⟨W.heap.size, 0, none⟩), .pointer (some ⟨g1, 0, none⟩), .pointer (some ⟨g2, 0, none⟩), .pointer (some ⟨g3, 0, none⟩)] from rfl]
  have HP := Lib.hid (fun w => pair_any f t w)
  obtain ⟨pb, hpb⟩ : ∃ pb, pb = pairB f t := ⟨_, rfl⟩
  rw [← hpb] at HP ⊢
  clear hpb
  cases pb
  · go_enter Try.func42, Try.ntmps42
    go_wp2_with fail
    refine (HP.out _).mono ?_
    rintro e w2 ⟨rfl, rfl⟩
    go_wp2
    go_ret
    exact ⟨2, rfl, ⟨rfl, hw0⟩, Nat.le_refl _, fun _ _ _ => rfl, fun h => by cases h⟩
  · by_cases hl : 60000 < bn
    · have hl1 : (60000 : Int) < (bn : Int) := by omega
      rw [show (if (true = true) then (if 60000 < bs.length then (3 : Int) else addE sent ps) else 2) = 3 from by rw [if_pos rfl, if_pos (by omega)]]
      go_enter Try.func42, Try.ntmps42
      go_wp2_with fail
      refine (HP.out _).mono ?_
      rintro e w2 ⟨rfl, rfl⟩
      go_wp2
      go_ret
      exact ⟨3, rfl, ⟨rfl, hw0⟩, Nat.le_refl _, fun _ _ _ => rfl, fun h => by cases h⟩
    · have hl1 : (bn : Int) ≤ 60000 := by omega
      rw [show (if (true = true) then (if 60000 < bs.length then (3 : Int) else addE sent ps) else 2) = addE sent ps from by rw [if_pos rfl, if_neg (by omega)]]
      cases hf : fullB sent ps
      · have hfull : m < 20000 ∧ sent < 1099511627776 := by
          unfold fullB at hf
          simp only [Bool.or_eq_false_iff, decide_eq_false_iff_not] at hf
          omega
        have HA := Lib.hid (adds_any sent A m c W.heap.size (W.heap.size + 2) es (newP f t bs) bA bn bc w HN.out HD.out (by omega) hB HRB.out (by omega) hfull.1 hs0 hfull.2)
        rw [show addE sent ps = 0 from by unfold addE; rw [hf]; rfl]
        unfold newP at HA
        clear hfull hf
        go_enter Try.func42, Try.ntmps42
        go_wp2_with fail
        refine (HP.out _).mono ?_
        rintro e w2 ⟨rfl, rfl⟩
        go_wp2_with fail
        refine HA.out.mono ?_
        rintro e w2 ⟨rfl, hk, A2, c2, e2, hN2, hD2, he2⟩
        have hw2 := hk.below hw0 h0b (by omega)
        have hs2 := hk.size
        have hbl2 : ∀ k, W.heap.size < k → k < W.heap.size + 2 → w2.heap[k]? = w.heap[k]? := fun k h1 h2 => hk.block k (by omega) (by omega)
        go_wp2
        go_ret
        exact ⟨0, rfl, ⟨rfl, hw2⟩, hs2, hbl2, fun _ => ⟨_, A2, _, c2, _, hN2, hD2, rfl, by rw [List.map_append, HES.out, List.map_cons, List.map_nil, he2]; rfl⟩⟩
      · have hfull : 20000 ≤ m ∨ sent = 1099511627776 := by
          unfold fullB at hf
          simp only [Bool.or_eq_true, decide_eq_true_eq] at hf
          omega
        have HA := Lib.hid (adds_full sent A m c W.heap.size (newP f t bs) bA bn bc w HN.out hfull)
        rw [show addE sent ps = 6 from by unfold addE; rw [hf]; rfl]
        unfold newP at HA
        clear hfull hf
        go_enter Try.func42, Try.ntmps42
        go_wp2_with fail
        refine (HP.out _).mono ?_
        rintro e w2 ⟨rfl, rfl⟩
        go_wp2_with fail
        refine HA.out.mono ?_
        rintro e w2 ⟨rfl, hk⟩
        have hw2 := bl_ca hw0 hk
        have hs2 := hk.size
        have hbl2 : ∀ k, W.heap.size < k → k < W.heap.size + 2 → w2.heap[k]? = w.heap[k]? := fun k h1 h2 => hk.block k (by omega)
        go_wp2
        go_ret
        exact ⟨6, rfl, ⟨rfl, hw2⟩, hs2, hbl2, fun h => by cases h⟩
set_option maxRecDepth 100000 in
set_option maxHeartbeats 4000000 in
theorem with_no (F : Nat → Prop) (sent : Int) (A : Option Addr) (m c : Nat) (ps : List PC) (f : Value) (w : World) (h : LP.rd w F A m ps) (hm : m ≤ 9223372036854775807) (hok : chkB sent ps = false) :
    Calls Try.prog 41 #[.agg #[.int .u64 sent, .slice A m c], f] w fun e w' => e = .returned (.tuple #[.agg #[.int .u64 0, .slice none 0 0], .int .i64 340]) ∧ Below w.heap.size w w' := by
  have HC := Lib.hid (fun W (h : LP.rd W F A m ps) => by have := check_any F sent A m c ps W h hm; rw [hok, show errN false = 340 from rfl] at this; exact this)
  have b1 := bl_al (bl_al (Below.refl w.heap.size w) (.cells #[.int .u64 sent, .slice A m c] 26)) (.cells #[.int .u64 0, .slice none 0 0] 26)
  have hR : Blk _ (w.heap.size + 1) _ _ := Blk.mk' (w := w.alloc (.cells #[.int .u64 sent, .slice A m c] 26)) (t := 26) (cs := #[.int .u64 0, .slice none 0 0]) (by simp only [World.size_alloc])
  have h1 := Lib.hid (Lay.rd_below h b1)
  clear hok h
  go_enter Try.func41, Try.ntmps41
  go_wp2_with fail
  generalize (w.alloc (.cells #[.int .u64 sent, .slice A m c] 26)).alloc (.cells #[.int .u64 0, .slice none 0 0] 26) = w1 at *
  refine (HC.out _ h1.out).mono ?_
  rintro e w2 ⟨rfl, q2⟩
  replace b1 := bl_ca b1 q2
  have KR := Lib.hid (hR.ca q2)
  clear q2 h1 HC hR
  go_wp2_with (refine wpList_store_blk rfl 26 (.tmp 4) (.tmp 13) rfl (w.heap.size + 1) 26 _ _ rfl rfl KR.out rfl netI (by simp [Value.oneCell']) ?_; intro wz hZ gz)
  exact bodyPost_ret (res2 Try.results41 rfl rfl hZ Try.underlying26 rfl netI) rfl ⟨rfl, bl_gr b1 gz (by omega)⟩
end Go.Proofs.Ytnbcffnhgijmcaa
