/-
  No cell of these rows narrows 'for every input' (looked for: loops, veiled, ifaces, maps, wideKeys, modest, calm, conditions, laid).
  DERIVED. THE GIVEN ROWS OF THIS SEAT. 7 by the template 'for every input the law returns true; each argument reads behind the call as it read before'; 0 by the template 'total and deterministic' (their statements: YtnbcffnhgijmcaaTotals.lean).
  GIVEN WITH THE SEED: the statements are not yours to turn. If you find one false, say at which input.
  Laid BY PROGRAM, IN A SANDBOX (cutbox-rows.mjs): the forced cells as the released guide's own fill.sh prints them over the translation 83c2ec5fd03ac351… (all of the seat's roots in one cut). By AI agents, Wed Nov 11 2026. No macro, syntax, notation, axiom, sorry.
-/
import Derived.Test.YtnbcffnhgijmcaaChecked
import GoSem.Claim
import GoSem.ClaimJoined
import GoSem.ClaimMapViews
import Derived.JoinedTies
import Derived.KernelRfl
namespace Go.Proofs.Ytnbcffnhgijmcaa
/- THE CELL 'sum', in the pinned program and in every row, IS THE sha256 OF THE DUMP (.gsa) THAT YtnbcffnhgijmcaaProg.lean LOADS. Nothing in Lean hashes anything: it is a label: what it is worth is what the hold of that sum in a sandbox is worth. -/
noncomputable def Try.pinned : Pinned := { name := "ytnbcffnhgijmcaa", sum := "83c2ec5fd03ac351b95d333d27e06e38e85fc8f177ff22c1588871e0916bae1d", checked := Try.checked }
namespace Rows
def none {H : Type} : Left H := { results := [], args := [] }

/-- 'bowspritlaw24.NetFills': WHATEVER THE INPUT: true; the input reads as it did. -/
def netFillsSpec : ChangeSpec := { name := "netFills", fn := fun _ => fun
  | [d1, d2] => { results := [.lit (.bool true)], args := [d1, d2] }
  | _ => none }
def netFillsRow : OpenClaim := { program := "ytnbcffnhgijmcaa", sum := "83c2ec5fd03ac351b95d333d27e06e38e85fc8f177ff22c1588871e0916bae1d", func := "bowsprit/bowspritlaw24.NetFills", spec := "netFills", unfollowed := true, recurses := true, apart := false }
def NetFillsSaid : Prop := netFillsRow.holds Try.pinned (OpenSpec.ofChange netFillsSpec)

/-- ITS FALSE NEIGHBOUR: 'it returns false'. Refute it at one input. -/
def netFillsWrong : ChangeSpec := { name := "netFills", fn := fun _ => fun
  | [d1, d2] => { results := [.lit (.bool false)], args := [d1, d2] }
  | _ => none }
def NetFillsWrongFalsely : Prop := netFillsRow.holds Try.pinned (OpenSpec.ofChange netFillsWrong)

/-- 'bowspritlaw24.NetFor': WHATEVER THE INPUT: true; the input reads as it did. -/
def netForSpec : ChangeSpec := { name := "netFor", fn := fun _ => fun
  | [d1, d2] => { results := [.lit (.bool true)], args := [d1, d2] }
  | _ => none }
def netForRow : OpenClaim := { program := "ytnbcffnhgijmcaa", sum := "83c2ec5fd03ac351b95d333d27e06e38e85fc8f177ff22c1588871e0916bae1d", func := "bowsprit/bowspritlaw24.NetFor", spec := "netFor", unfollowed := true, recurses := true, apart := false }
def NetForSaid : Prop := netForRow.holds Try.pinned (OpenSpec.ofChange netForSpec)

/-- ITS FALSE NEIGHBOUR: 'it returns false'. Refute it at one input. -/
def netForWrong : ChangeSpec := { name := "netFor", fn := fun _ => fun
  | [d1, d2] => { results := [.lit (.bool false)], args := [d1, d2] }
  | _ => none }
def NetForWrongFalsely : Prop := netForRow.holds Try.pinned (OpenSpec.ofChange netForWrong)

/-- 'bowspritlaw24.NetDoes': WHATEVER THE INPUT: true; the input reads as it did. -/
def netDoesSpec : ChangeSpec := { name := "netDoes", fn := fun _ => fun
  | [d1, d2] => { results := [.lit (.bool true)], args := [d1, d2] }
  | _ => none }
def netDoesRow : OpenClaim := { program := "ytnbcffnhgijmcaa", sum := "83c2ec5fd03ac351b95d333d27e06e38e85fc8f177ff22c1588871e0916bae1d", func := "bowsprit/bowspritlaw24.NetDoes", spec := "netDoes", unfollowed := true, recurses := true, apart := false }
def NetDoesSaid : Prop := netDoesRow.holds Try.pinned (OpenSpec.ofChange netDoesSpec)

/-- ITS FALSE NEIGHBOUR: 'it returns false'. Refute it at one input. -/
def netDoesWrong : ChangeSpec := { name := "netDoes", fn := fun _ => fun
  | [d1, d2] => { results := [.lit (.bool false)], args := [d1, d2] }
  | _ => none }
def NetDoesWrongFalsely : Prop := netDoesRow.holds Try.pinned (OpenSpec.ofChange netDoesWrong)

/-- 'bowspritlaw24.NetSends': WHATEVER THE INPUT: true; the input reads as it did. -/
def netSendsSpec : ChangeSpec := { name := "netSends", fn := fun _ => fun
  | [d] => { results := [.lit (.bool true)], args := [d] }
  | _ => none }
def netSendsRow : OpenClaim := { program := "ytnbcffnhgijmcaa", sum := "83c2ec5fd03ac351b95d333d27e06e38e85fc8f177ff22c1588871e0916bae1d", func := "bowsprit/bowspritlaw24.NetSends", spec := "netSends", unfollowed := true, recurses := true, apart := false }
def NetSendsSaid : Prop := netSendsRow.holds Try.pinned (OpenSpec.ofChange netSendsSpec)

/-- ITS FALSE NEIGHBOUR: 'it returns false'. Refute it at one input. -/
def netSendsWrong : ChangeSpec := { name := "netSends", fn := fun _ => fun
  | [d] => { results := [.lit (.bool false)], args := [d] }
  | _ => none }
def NetSendsWrongFalsely : Prop := netSendsRow.holds Try.pinned (OpenSpec.ofChange netSendsWrong)

/-- 'bowspritlaw24.NetOthers': WHATEVER THE INPUT: true; the input reads as it did. -/
def netOthersSpec : ChangeSpec := { name := "netOthers", fn := fun _ => fun
  | [d1, d2] => { results := [.lit (.bool true)], args := [d1, d2] }
  | _ => none }
def netOthersRow : OpenClaim := { program := "ytnbcffnhgijmcaa", sum := "83c2ec5fd03ac351b95d333d27e06e38e85fc8f177ff22c1588871e0916bae1d", func := "bowsprit/bowspritlaw24.NetOthers", spec := "netOthers", unfollowed := true, recurses := true, apart := false }
def NetOthersSaid : Prop := netOthersRow.holds Try.pinned (OpenSpec.ofChange netOthersSpec)

/-- ITS FALSE NEIGHBOUR: 'it returns false'. Refute it at one input. -/
def netOthersWrong : ChangeSpec := { name := "netOthers", fn := fun _ => fun
  | [d1, d2] => { results := [.lit (.bool false)], args := [d1, d2] }
  | _ => none }
def NetOthersWrongFalsely : Prop := netOthersRow.holds Try.pinned (OpenSpec.ofChange netOthersWrong)

/-- 'bowspritlaw24.NetTells': WHATEVER THE INPUT: true; the input reads as it did. -/
def netTellsSpec : ChangeSpec := { name := "netTells", fn := fun _ => fun
  | [d1, d2, d3] => { results := [.lit (.bool true)], args := [d1, d2, d3] }
  | _ => none }
def netTellsRow : OpenClaim := { program := "ytnbcffnhgijmcaa", sum := "83c2ec5fd03ac351b95d333d27e06e38e85fc8f177ff22c1588871e0916bae1d", func := "bowsprit/bowspritlaw24.NetTells", spec := "netTells", unfollowed := true, recurses := true, apart := false }
def NetTellsSaid : Prop := netTellsRow.holds Try.pinned (OpenSpec.ofChange netTellsSpec)

/-- ITS FALSE NEIGHBOUR: 'it returns false'. Refute it at one input. -/
def netTellsWrong : ChangeSpec := { name := "netTells", fn := fun _ => fun
  | [d1, d2, d3] => { results := [.lit (.bool false)], args := [d1, d2, d3] }
  | _ => none }
def NetTellsWrongFalsely : Prop := netTellsRow.holds Try.pinned (OpenSpec.ofChange netTellsWrong)

/-- 'bowspritlaw24.NetSeals': WHATEVER THE INPUT: true; the input reads as it did. -/
def netSealsSpec : ChangeSpec := { name := "netSeals", fn := fun _ => fun
  | [d1, d2, d3] => { results := [.lit (.bool true)], args := [d1, d2, d3] }
  | _ => none }
def netSealsRow : OpenClaim := { program := "ytnbcffnhgijmcaa", sum := "83c2ec5fd03ac351b95d333d27e06e38e85fc8f177ff22c1588871e0916bae1d", func := "bowsprit/bowspritlaw24.NetSeals", spec := "netSeals", unfollowed := true, recurses := true, apart := false }
def NetSealsSaid : Prop := netSealsRow.holds Try.pinned (OpenSpec.ofChange netSealsSpec)

/-- ITS FALSE NEIGHBOUR: 'it returns false'. Refute it at one input. -/
def netSealsWrong : ChangeSpec := { name := "netSeals", fn := fun _ => fun
  | [d1, d2, d3] => { results := [.lit (.bool false)], args := [d1, d2, d3] }
  | _ => none }
def NetSealsWrongFalsely : Prop := netSealsRow.holds Try.pinned (OpenSpec.ofChange netSealsWrong)

/- THE SECOND FORM. 'bulk': how many values and letters a reading holds, each counted each time it is reached (what is shared counts as often as it is met; a slice's spare places count too). A statement '..UptoSaid' is the law's where the arguments, and the package variables that the reading takes, are together of bulk at most 1048576: NARROWER than '..Said'. Prove '..Said' where nothing that the law and all that it calls make is longer than what came in: it says more and counts as full. Else prove '..UptoSaid'. A law counts once. -/
mutual
def uptoBulk {H : Type} : DataW H → Nat
  | .lit (.string bytes) => bytes.length + 1
  | .lit _ => 1
  | .nil => 1
  | .ptr d => uptoBulk d + 1
  | .slice elems spare => uptoBulkAll elems + uptoBulkAll spare + 1
  | .agg parts => uptoBulkAll parts + 1
  | .iface _ d => uptoBulk d + 1
  | .map entries => uptoBulkEntries entries + 1
  | .held _ => 1
def uptoBulkAll {H : Type} : List (DataW H) → Nat
  | [] => 0
  | d :: r => uptoBulk d + uptoBulkAll r
def uptoBulkEntries {H : Type} : List (Lit × DataW H) → Nat
  | [] => 0
  | x :: r => uptoBulkEntry x + uptoBulkEntries r
def uptoBulkEntry {H : Type} : Lit × DataW H → Nat
  | (.string bytes, d) => bytes.length + uptoBulk d + 1
  | (_, d) => uptoBulk d + 1
 end
def uptoSmall : (H : Type) → List (DataW H) → Bool := fun _ ds => decide (uptoBulkAll ds ≤ 1048576)
def OpenSpec.upto (s : _root_.Go.ChangeSpec) : _root_.Go.OpenSpec := { _root_.Go.OpenSpec.ofChange s with cond := some uptoSmall }

/-- 'bowspritlaw24.NetFills', WHERE WHAT IT READS IS OF BULK AT MOST 1048576: true; the input reads as it did. -/
def netFillsUptoRow : OpenClaim := { program := "ytnbcffnhgijmcaa", sum := "83c2ec5fd03ac351b95d333d27e06e38e85fc8f177ff22c1588871e0916bae1d", func := "bowsprit/bowspritlaw24.NetFills", spec := "netFills", unfollowed := true, recurses := true, apart := false, narrowed := true }
def NetFillsUptoSaid : Prop := netFillsUptoRow.holds Try.pinned (OpenSpec.upto netFillsSpec)

/-- 'bowspritlaw24.NetFor', WHERE WHAT IT READS IS OF BULK AT MOST 1048576: true; the input reads as it did. -/
def netForUptoRow : OpenClaim := { program := "ytnbcffnhgijmcaa", sum := "83c2ec5fd03ac351b95d333d27e06e38e85fc8f177ff22c1588871e0916bae1d", func := "bowsprit/bowspritlaw24.NetFor", spec := "netFor", unfollowed := true, recurses := true, apart := false, narrowed := true }
def NetForUptoSaid : Prop := netForUptoRow.holds Try.pinned (OpenSpec.upto netForSpec)

/-- 'bowspritlaw24.NetDoes', WHERE WHAT IT READS IS OF BULK AT MOST 1048576: true; the input reads as it did. -/
def netDoesUptoRow : OpenClaim := { program := "ytnbcffnhgijmcaa", sum := "83c2ec5fd03ac351b95d333d27e06e38e85fc8f177ff22c1588871e0916bae1d", func := "bowsprit/bowspritlaw24.NetDoes", spec := "netDoes", unfollowed := true, recurses := true, apart := false, narrowed := true }
def NetDoesUptoSaid : Prop := netDoesUptoRow.holds Try.pinned (OpenSpec.upto netDoesSpec)

/-- 'bowspritlaw24.NetSends', WHERE WHAT IT READS IS OF BULK AT MOST 1048576: true; the input reads as it did. -/
def netSendsUptoRow : OpenClaim := { program := "ytnbcffnhgijmcaa", sum := "83c2ec5fd03ac351b95d333d27e06e38e85fc8f177ff22c1588871e0916bae1d", func := "bowsprit/bowspritlaw24.NetSends", spec := "netSends", unfollowed := true, recurses := true, apart := false, narrowed := true }
def NetSendsUptoSaid : Prop := netSendsUptoRow.holds Try.pinned (OpenSpec.upto netSendsSpec)

/-- 'bowspritlaw24.NetOthers', WHERE WHAT IT READS IS OF BULK AT MOST 1048576: true; the input reads as it did. -/
def netOthersUptoRow : OpenClaim := { program := "ytnbcffnhgijmcaa", sum := "83c2ec5fd03ac351b95d333d27e06e38e85fc8f177ff22c1588871e0916bae1d", func := "bowsprit/bowspritlaw24.NetOthers", spec := "netOthers", unfollowed := true, recurses := true, apart := false, narrowed := true }
def NetOthersUptoSaid : Prop := netOthersUptoRow.holds Try.pinned (OpenSpec.upto netOthersSpec)

/-- 'bowspritlaw24.NetTells', WHERE WHAT IT READS IS OF BULK AT MOST 1048576: true; the input reads as it did. -/
def netTellsUptoRow : OpenClaim := { program := "ytnbcffnhgijmcaa", sum := "83c2ec5fd03ac351b95d333d27e06e38e85fc8f177ff22c1588871e0916bae1d", func := "bowsprit/bowspritlaw24.NetTells", spec := "netTells", unfollowed := true, recurses := true, apart := false, narrowed := true }
def NetTellsUptoSaid : Prop := netTellsUptoRow.holds Try.pinned (OpenSpec.upto netTellsSpec)

/-- 'bowspritlaw24.NetSeals', WHERE WHAT IT READS IS OF BULK AT MOST 1048576: true; the input reads as it did. -/
def netSealsUptoRow : OpenClaim := { program := "ytnbcffnhgijmcaa", sum := "83c2ec5fd03ac351b95d333d27e06e38e85fc8f177ff22c1588871e0916bae1d", func := "bowsprit/bowspritlaw24.NetSeals", spec := "netSeals", unfollowed := true, recurses := true, apart := false, narrowed := true }
def NetSealsUptoSaid : Prop := netSealsUptoRow.holds Try.pinned (OpenSpec.upto netSealsSpec)

end Rows
end Go.Proofs.Ytnbcffnhgijmcaa
