/- The walk of the statement OctetNil: the Go text answers true and turns no memory that was there. Conditions: none. -/
import Derived.Test.YtdmfbmpllfkcaaaWakes1
namespace Go.Proofs.Ytdmfbmpllfkcaaa
open Go.RowKit
set_option maxRecDepth 100000 in
set_option maxHeartbeats 1000000 in
theorem octetNil_walk (m : Int) (w : World) (_hm : (Lit.int .i64 m).wf = true) :
    Calls Try.prog 9 #[.int .i64 m] w fun e w' => e = .returned (.bool true) ∧ Below w.heap.size w w' := by
  clear _hm
  go_enter Try.func9, Try.ntmps9
  go_wp2_with fail
  refine (wakes1_any w).mono ?_
  rintro e w1 ⟨rfl, b1⟩
  go_wp2_with fail
  refine (peek_nil m w1).mono ?_
  rintro e w2 ⟨rfl, rfl⟩
  go_wp2_with fail
  refine (u8_nil w1).mono ?_
  rintro e w2 ⟨rfl, q2⟩
  have b2 := b1.trans (q2.mono b1.size)
  clear b1 q2
  go_wp2_with fail
  refine (u16_nil w2).mono ?_
  rintro e w3 ⟨rfl, q3⟩
  have b3 := b2.trans (q3.mono b2.size)
  clear b2 q3
  go_wp2_with fail
  refine (u32_nil w3).mono ?_
  rintro e w4 ⟨rfl, q4⟩
  have b4 := b3.trans (q4.mono b3.size)
  clear b3 q4
  go_wp2_with fail
  refine (u64_nil w4).mono ?_
  rintro e w5 ⟨rfl, q5⟩
  have b5 := b4.trans (q5.mono b4.size)
  clear b4 q5
  go_wp2_with fail
  refine (raw_nil m w5).mono ?_
  rintro e w6 ⟨rfl, q6⟩
  have b6 := b5.trans (q6.mono b5.size)
  clear b5 q6
  go_wp2_with fail
  refine (left_nil w6).mono ?_
  rintro e w7 ⟨rfl, rfl⟩
  go_wp2_with fail
  refine (err_nil w6).mono ?_
  rintro e w7 ⟨rfl, rfl⟩
  go_wp2
  go_ret
  exact ⟨rfl, b6⟩
end Go.Proofs.Ytdmfbmpllfkcaaa
