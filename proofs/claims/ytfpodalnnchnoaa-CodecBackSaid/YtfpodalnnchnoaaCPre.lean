/- bytes.HasPrefix. Conditions: both read as these bytes. -/
import Derived.Test.YtfpodalnnchnoaaCApM
namespace Go.Proofs.Ytfpodalnnchnoaa
open Go.RowKit
set_option maxHeartbeats 1000000 in
theorem prefix_any (A B : Option Addr) (n c m d : Nat) (xs bs : List UInt8) (w : World) (ha : RdB w A n xs) (hb : RdB w B m bs) (hc : n ≤ c) :
    Calls Try.prog 12 #[.slice A n c, .slice B m d] w fun e w' => e = .returned (.bool (preB xs bs)) ∧ w = w' := by
  have hn := ha.len
  have hm := hb.len
  by_cases h : m ≤ n
  · have e : preB xs bs = (xs.take m == bs) := by unfold preB; rw [hn, hm]; simp [h]
    rw [e]
    have HT := Lib.hid (ha.take h)
    have HB := Lib.hid hb
    obtain ⟨r, hr⟩ : ∃ r, r = (xs.take m == bs) := ⟨_, rfl⟩
    rw [← hr]
    have HE := Lib.hid (fun c d => hr ▸ equal_any A B m c m d (xs.take m) bs w HT.out HB.out : ∀ c d, Calls Try.prog 11 #[.slice A m c, .slice B m d] w fun e w' => e = .returned (.bool r) ∧ w = w')
    clear ha hb e hr HT HB hn hm
    have hmc : m ≤ c := by omega
    go_enter Try.func12, Try.ntmps12
    go_wp2_with fail
    refine (HE.out _ _).mono ?_
    rintro e w1 ⟨rfl, rfl⟩
    go_wp2
    exact bodyPost_ret (v := .bool r) (by simp [results, Try.results12, go_sem]) rfl ⟨rfl, rfl⟩
  · have e : preB xs bs = false := by unfold preB; rw [hn, hm]; simp [h]
    rw [e]
    clear ha hb e hn hm
    go_enter Try.func12, Try.ntmps12
    go_wp2
    exact bodyPost_ret (v := .bool false) (by simp [results, Try.results12, go_sem]) rfl ⟨rfl, rfl⟩
end Go.Proofs.Ytfpodalnnchnoaa
