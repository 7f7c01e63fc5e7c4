/- value.Text, Bool, Plain, True, and the reference's Bool, Plain. Conditions: none. -/
import Derived.Test.YtabbiepafibmmaaDoorRight
import Derived.Test.YtabbiepafibmmaaDoorBlk2
namespace Go.Proofs.YtabbiepafibmmaaDoor
open Go.RowKit
theorem ibne_t {a b : Int} (h : a ≠ b) : (a != b) = true := by simpa using h
theorem ibne_f {a b : Int} (h : a = b) : (a != b) = false := by simpa using h
theorem ibeq_t {a b : Int} (h : a = b) : (a == b) = true := by simpa using h
theorem ibeq_f {a b : Int} (h : a ≠ b) : (a == b) = false := by simpa using h
def plainB (k n u : Int) (s : ByteArray) : Bool := rightB k n u s && k != 4
set_option maxHeartbeats 1000000 in
theorem vtext_any (s : ByteArray) (h : s.size ≤ 40) (w : World) : Calls Tryd.prog 24 #[.string s] w fun e w' => e = .returned (.tuple #[.agg #[.int .i64 3, .int .i64 0, .int .u64 0, .string s], .int .i64 0]) ∧ Below w.heap.size w w' := by
  have h1 : (s.size : Int) ≤ 40 := by omega
  go_enter Tryd.func24, Tryd.ntmps24
  go_wp2
  refine bodyPost_ret (v := .tuple #[.agg #[.int .i64 3, .int .i64 0, .int .u64 0, .string s], .int .i64 0]) (by simp [results, Tryd.results24, go_sem]) rfl ⟨rfl, ?_⟩
  first | exact Below.refl _ _ | exact bl_al (Below.refl _ _) _
theorem vtext_long (s : ByteArray) (h : 40 < s.size) (w : World) : Calls Tryd.prog 24 #[.string s] w fun e w' => e = .returned (.tuple #[.agg #[.int .i64 0, .int .i64 0, .int .u64 0, .string ⟨#[]⟩], .int .i64 3]) ∧ Below w.heap.size w w' := by
  have h1 : (40 : Int) < (s.size : Int) := by omega
  go_enter Tryd.func24, Tryd.ntmps24
  go_wp2
  refine bodyPost_ret (v := .tuple #[.agg #[.int .i64 0, .int .i64 0, .int .u64 0, .string ⟨#[]⟩], .int .i64 3]) (by simp [results, Tryd.results24, go_sem]) rfl ⟨rfl, ?_⟩
  first | exact Below.refl _ _ | exact bl_al (Below.refl _ _) _
set_option maxHeartbeats 1000000 in
theorem vbool_true (w : World) : Calls Tryd.prog 27 #[.bool true] w fun e w' => e = .returned (.agg #[.int .i64 1, .int .i64 1, .int .u64 0, .string ⟨#[]⟩]) ∧ Below w.heap.size w w' := by
  go_enter Tryd.func27, Tryd.ntmps27
  go_wp2
  refine bodyPost_ret (v := .agg #[.int .i64 1, .int .i64 1, .int .u64 0, .string ⟨#[]⟩]) (by simp [results, Tryd.results27, go_sem]) rfl ⟨rfl, ?_⟩
  first | exact Below.refl _ _ | exact bl_al (Below.refl _ _) _ | exact bl_al (bl_al (Below.refl _ _) _) _
set_option maxHeartbeats 1000000 in
theorem vbool_false (w : World) : Calls Tryd.prog 27 #[.bool false] w fun e w' => e = .returned (.agg #[.int .i64 1, .int .i64 0, .int .u64 0, .string ⟨#[]⟩]) ∧ Below w.heap.size w w' := by
  go_enter Tryd.func27, Tryd.ntmps27
  go_wp2
  refine bodyPost_ret (v := .agg #[.int .i64 1, .int .i64 0, .int .u64 0, .string ⟨#[]⟩]) (by simp [results, Tryd.results27, go_sem]) rfl ⟨rfl, ?_⟩
  first | exact Below.refl _ _ | exact bl_al (Below.refl _ _) _ | exact bl_al (bl_al (Below.refl _ _) _) _
set_option maxHeartbeats 1000000 in
theorem rbool_true (w : World) : Calls Tryd.prog 21 #[.bool true] w fun e w' => e = .returned (.agg #[.int .i64 1, .int .i64 1, .int .u64 0, .string ⟨#[]⟩]) ∧ Below w.heap.size w w' := by
  go_enter Tryd.func21, Tryd.ntmps21
  go_wp2
  refine bodyPost_ret (v := .agg #[.int .i64 1, .int .i64 1, .int .u64 0, .string ⟨#[]⟩]) (by simp [results, Tryd.results21, go_sem]) rfl ⟨rfl, ?_⟩
  first | exact Below.refl _ _ | exact bl_al (Below.refl _ _) _ | exact bl_al (bl_al (Below.refl _ _) _) _
set_option maxHeartbeats 1000000 in
theorem rbool_false (w : World) : Calls Tryd.prog 21 #[.bool false] w fun e w' => e = .returned (.agg #[.int .i64 1, .int .i64 0, .int .u64 0, .string ⟨#[]⟩]) ∧ Below w.heap.size w w' := by
  go_enter Tryd.func21, Tryd.ntmps21
  go_wp2
  refine bodyPost_ret (v := .agg #[.int .i64 1, .int .i64 0, .int .u64 0, .string ⟨#[]⟩]) (by simp [results, Tryd.results21, go_sem]) rfl ⟨rfl, ?_⟩
  first | exact Below.refl _ _ | exact bl_al (Below.refl _ _) _ | exact bl_al (bl_al (Below.refl _ _) _) _
end Go.Proofs.YtabbiepafibmmaaDoor
