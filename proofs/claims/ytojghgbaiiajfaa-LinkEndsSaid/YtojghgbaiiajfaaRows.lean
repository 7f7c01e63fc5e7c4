/-
  No cell of these rows narrows 'for every input' (looked for: loops, veiled, ifaces, maps, wideKeys, modest, calm, conditions, laid).
  DERIVED. THE GIVEN ROWS OF THIS SEAT. 7 by the template 'for every input the law returns true; each argument reads behind the call as it read before'; 0 by the template 'total and deterministic' (their statements: YtojghgbaiiajfaaTotals.lean).
  GIVEN WITH THE SEED: the statements are not yours to turn. If you find one false, say at which input.
  Laid BY PROGRAM, IN A SANDBOX (cutbox-rows.mjs): the forced cells as the released guide's own fill.sh prints them over the translation f990b9b3a544ee40… (all of the seat's roots in one cut). By AI agents, Wed Nov 11 2026. No macro, syntax, notation, axiom, sorry.
-/
import Derived.Test.YtojghgbaiiajfaaChecked
import GoSem.Claim
import GoSem.ClaimJoined
import GoSem.ClaimMapViews
import Derived.JoinedTies
import Derived.KernelRfl
namespace Go.Proofs.Ytojghgbaiiajfaa
/- THE CELL 'sum', in the pinned program and in every row, IS THE sha256 OF THE DUMP (.gsa) THAT YtojghgbaiiajfaaProg.lean LOADS. Nothing in Lean hashes anything: it is a label: what it is worth is what the hold of that sum in a sandbox is worth. -/
noncomputable def Try.pinned : Pinned := { name := "ytojghgbaiiajfaa", sum := "f990b9b3a544ee40e2aeb7b409ab054f228a50bfa70efed22ddb74a80ece13c8", checked := Try.checked }
namespace Rows
def none {H : Type} : Left H := { results := [], args := [] }

/-- 'bowspritlaw22.LinkOpens': WHATEVER THE INPUT: true; the input reads as it did. -/
def linkOpensSpec : ChangeSpec := { name := "linkOpens", fn := fun _ => fun
  | [d1, d2] => { results := [.lit (.bool true)], args := [d1, d2] }
  | _ => none }
def linkOpensRow : OpenClaim := { program := "ytojghgbaiiajfaa", sum := "f990b9b3a544ee40e2aeb7b409ab054f228a50bfa70efed22ddb74a80ece13c8", func := "bowsprit/bowspritlaw22.LinkOpens", spec := "linkOpens", unfollowed := true, recurses := true, apart := false }
def LinkOpensSaid : Prop := linkOpensRow.holds Try.pinned (OpenSpec.ofChange linkOpensSpec)

/-- ITS FALSE NEIGHBOUR: 'it returns false'. Refute it at one input. -/
def linkOpensWrong : ChangeSpec := { name := "linkOpens", fn := fun _ => fun
  | [d1, d2] => { results := [.lit (.bool false)], args := [d1, d2] }
  | _ => none }
def LinkOpensWrongFalsely : Prop := linkOpensRow.holds Try.pinned (OpenSpec.ofChange linkOpensWrong)

/-- 'bowspritlaw22.LinkSends': WHATEVER THE INPUT: true; the input reads as it did. -/
def linkSendsSpec : ChangeSpec := { name := "linkSends", fn := fun _ => fun
  | [d1, d2] => { results := [.lit (.bool true)], args := [d1, d2] }
  | _ => none }
def linkSendsRow : OpenClaim := { program := "ytojghgbaiiajfaa", sum := "f990b9b3a544ee40e2aeb7b409ab054f228a50bfa70efed22ddb74a80ece13c8", func := "bowsprit/bowspritlaw22.LinkSends", spec := "linkSends", unfollowed := true, recurses := true, apart := false }
def LinkSendsSaid : Prop := linkSendsRow.holds Try.pinned (OpenSpec.ofChange linkSendsSpec)

/-- ITS FALSE NEIGHBOUR: 'it returns false'. Refute it at one input. -/
def linkSendsWrong : ChangeSpec := { name := "linkSends", fn := fun _ => fun
  | [d1, d2] => { results := [.lit (.bool false)], args := [d1, d2] }
  | _ => none }
def LinkSendsWrongFalsely : Prop := linkSendsRow.holds Try.pinned (OpenSpec.ofChange linkSendsWrong)

/-- 'bowspritlaw22.LinkTells': WHATEVER THE INPUT: true; the input reads as it did. -/
def linkTellsSpec : ChangeSpec := { name := "linkTells", fn := fun _ => fun
  | [d1, d2, d3] => { results := [.lit (.bool true)], args := [d1, d2, d3] }
  | _ => none }
def linkTellsRow : OpenClaim := { program := "ytojghgbaiiajfaa", sum := "f990b9b3a544ee40e2aeb7b409ab054f228a50bfa70efed22ddb74a80ece13c8", func := "bowsprit/bowspritlaw22.LinkTells", spec := "linkTells", unfollowed := true, recurses := true, apart := false }
def LinkTellsSaid : Prop := linkTellsRow.holds Try.pinned (OpenSpec.ofChange linkTellsSpec)

/-- ITS FALSE NEIGHBOUR: 'it returns false'. Refute it at one input. -/
def linkTellsWrong : ChangeSpec := { name := "linkTells", fn := fun _ => fun
  | [d1, d2, d3] => { results := [.lit (.bool false)], args := [d1, d2, d3] }
  | _ => none }
def LinkTellsWrongFalsely : Prop := linkTellsRow.holds Try.pinned (OpenSpec.ofChange linkTellsWrong)

/-- 'bowspritlaw22.LinkOthers': WHATEVER THE INPUT: true; the input reads as it did. -/
def linkOthersSpec : ChangeSpec := { name := "linkOthers", fn := fun _ => fun
  | [d1, d2, d3] => { results := [.lit (.bool true)], args := [d1, d2, d3] }
  | _ => none }
def linkOthersRow : OpenClaim := { program := "ytojghgbaiiajfaa", sum := "f990b9b3a544ee40e2aeb7b409ab054f228a50bfa70efed22ddb74a80ece13c8", func := "bowsprit/bowspritlaw22.LinkOthers", spec := "linkOthers", inPlace := ["slices.overlaps[bowsprit/api.Held]"], unfollowed := true, recurses := true, apart := false }
def LinkOthersSaid : Prop := linkOthersRow.holds Try.pinned (OpenSpec.ofChange linkOthersSpec)

/-- ITS FALSE NEIGHBOUR: 'it returns false'. Refute it at one input. -/
def linkOthersWrong : ChangeSpec := { name := "linkOthers", fn := fun _ => fun
  | [d1, d2, d3] => { results := [.lit (.bool false)], args := [d1, d2, d3] }
  | _ => none }
def LinkOthersWrongFalsely : Prop := linkOthersRow.holds Try.pinned (OpenSpec.ofChange linkOthersWrong)

/-- 'bowspritlaw22.LinkHears': WHATEVER THE INPUT: true; the input reads as it did. -/
def linkHearsSpec : ChangeSpec := { name := "linkHears", fn := fun _ => fun
  | [d1, d2] => { results := [.lit (.bool true)], args := [d1, d2] }
  | _ => none }
def linkHearsRow : OpenClaim := { program := "ytojghgbaiiajfaa", sum := "f990b9b3a544ee40e2aeb7b409ab054f228a50bfa70efed22ddb74a80ece13c8", func := "bowsprit/bowspritlaw22.LinkHears", spec := "linkHears", inPlace := ["slices.overlaps[bowsprit/api.Held]"], unfollowed := true, recurses := true, apart := false }
def LinkHearsSaid : Prop := linkHearsRow.holds Try.pinned (OpenSpec.ofChange linkHearsSpec)

/-- ITS FALSE NEIGHBOUR: 'it returns false'. Refute it at one input. -/
def linkHearsWrong : ChangeSpec := { name := "linkHears", fn := fun _ => fun
  | [d1, d2] => { results := [.lit (.bool false)], args := [d1, d2] }
  | _ => none }
def LinkHearsWrongFalsely : Prop := linkHearsRow.holds Try.pinned (OpenSpec.ofChange linkHearsWrong)

/-- 'bowspritlaw22.LinkSafe': WHATEVER THE INPUT: true; the input reads as it did. -/
def linkSafeSpec : ChangeSpec := { name := "linkSafe", fn := fun _ => fun
  | [d1, d2] => { results := [.lit (.bool true)], args := [d1, d2] }
  | _ => none }
def linkSafeRow : OpenClaim := { program := "ytojghgbaiiajfaa", sum := "f990b9b3a544ee40e2aeb7b409ab054f228a50bfa70efed22ddb74a80ece13c8", func := "bowsprit/bowspritlaw22.LinkSafe", spec := "linkSafe", inPlace := ["slices.overlaps[bowsprit/api.Held]"], unfollowed := true, recurses := true, apart := false }
def LinkSafeSaid : Prop := linkSafeRow.holds Try.pinned (OpenSpec.ofChange linkSafeSpec)

/-- ITS FALSE NEIGHBOUR: 'it returns false'. Refute it at one input. -/
def linkSafeWrong : ChangeSpec := { name := "linkSafe", fn := fun _ => fun
  | [d1, d2] => { results := [.lit (.bool false)], args := [d1, d2] }
  | _ => none }
def LinkSafeWrongFalsely : Prop := linkSafeRow.holds Try.pinned (OpenSpec.ofChange linkSafeWrong)

/-- 'bowspritlaw22.LinkEnds': WHATEVER THE INPUT: true; the input reads as it did. -/
def linkEndsSpec : ChangeSpec := { name := "linkEnds", fn := fun _ => fun
  | [d1, d2] => { results := [.lit (.bool true)], args := [d1, d2] }
  | _ => none }
def linkEndsRow : OpenClaim := { program := "ytojghgbaiiajfaa", sum := "f990b9b3a544ee40e2aeb7b409ab054f228a50bfa70efed22ddb74a80ece13c8", func := "bowsprit/bowspritlaw22.LinkEnds", spec := "linkEnds", inPlace := ["slices.overlaps[bowsprit/api.Held]"], unfollowed := true, recurses := true, apart := false }
def LinkEndsSaid : Prop := linkEndsRow.holds Try.pinned (OpenSpec.ofChange linkEndsSpec)

/-- ITS FALSE NEIGHBOUR: 'it returns false'. Refute it at one input. -/
def linkEndsWrong : ChangeSpec := { name := "linkEnds", fn := fun _ => fun
  | [d1, d2] => { results := [.lit (.bool false)], args := [d1, d2] }
  | _ => none }
def LinkEndsWrongFalsely : Prop := linkEndsRow.holds Try.pinned (OpenSpec.ofChange linkEndsWrong)

/- THE SECOND FORM. 'bulk': how many values and letters a reading holds, each counted each time it is reached (what is shared counts as often as it is met; a slice's spare places count too). A statement '..UptoSaid' is the law's where the arguments, and the package variables that the reading takes, are together of bulk at most 1048576: NARROWER than '..Said'. Prove '..Said' where nothing that the law and all that it calls make is longer than what came in: it says more and counts as full. Else prove '..UptoSaid'. A law counts once. -/
mutual
def uptoBulk {H : Type} : DataW H → Nat
  | .lit (.string bytes) => bytes.length + 1
  | .lit _ => 1
  | .nil => 1
  | .ptr d => uptoBulk d + 1
  | .slice elems spare => uptoBulkAll elems + uptoBulkAll spare + 1
  | .agg parts => uptoBulkAll parts + 1
  | .iface _ d => uptoBulk d + 1
  | .map entries => uptoBulkEntries entries + 1
  | .held _ => 1
def uptoBulkAll {H : Type} : List (DataW H) → Nat
  | [] => 0
  | d :: r => uptoBulk d + uptoBulkAll r
def uptoBulkEntries {H : Type} : List (Lit × DataW H) → Nat
  | [] => 0
  | x :: r => uptoBulkEntry x + uptoBulkEntries r
def uptoBulkEntry {H : Type} : Lit × DataW H → Nat
  | (.string bytes, d) => bytes.length + uptoBulk d + 1
  | (_, d) => uptoBulk d + 1
 end
def uptoSmall : (H : Type) → List (DataW H) → Bool := fun _ ds => decide (uptoBulkAll ds ≤ 1048576)
def OpenSpec.upto (s : _root_.Go.ChangeSpec) : _root_.Go.OpenSpec := { _root_.Go.OpenSpec.ofChange s with cond := some uptoSmall }

/-- 'bowspritlaw22.LinkOpens', WHERE WHAT IT READS IS OF BULK AT MOST 1048576: true; the input reads as it did. -/
def linkOpensUptoRow : OpenClaim := { program := "ytojghgbaiiajfaa", sum := "f990b9b3a544ee40e2aeb7b409ab054f228a50bfa70efed22ddb74a80ece13c8", func := "bowsprit/bowspritlaw22.LinkOpens", spec := "linkOpens", unfollowed := true, recurses := true, apart := false, narrowed := true }
def LinkOpensUptoSaid : Prop := linkOpensUptoRow.holds Try.pinned (OpenSpec.upto linkOpensSpec)

/-- 'bowspritlaw22.LinkSends', WHERE WHAT IT READS IS OF BULK AT MOST 1048576: true; the input reads as it did. -/
def linkSendsUptoRow : OpenClaim := { program := "ytojghgbaiiajfaa", sum := "f990b9b3a544ee40e2aeb7b409ab054f228a50bfa70efed22ddb74a80ece13c8", func := "bowsprit/bowspritlaw22.LinkSends", spec := "linkSends", unfollowed := true, recurses := true, apart := false, narrowed := true }
def LinkSendsUptoSaid : Prop := linkSendsUptoRow.holds Try.pinned (OpenSpec.upto linkSendsSpec)

/-- 'bowspritlaw22.LinkTells', WHERE WHAT IT READS IS OF BULK AT MOST 1048576: true; the input reads as it did. -/
def linkTellsUptoRow : OpenClaim := { program := "ytojghgbaiiajfaa", sum := "f990b9b3a544ee40e2aeb7b409ab054f228a50bfa70efed22ddb74a80ece13c8", func := "bowsprit/bowspritlaw22.LinkTells", spec := "linkTells", unfollowed := true, recurses := true, apart := false, narrowed := true }
def LinkTellsUptoSaid : Prop := linkTellsUptoRow.holds Try.pinned (OpenSpec.upto linkTellsSpec)

/-- 'bowspritlaw22.LinkOthers', WHERE WHAT IT READS IS OF BULK AT MOST 1048576: true; the input reads as it did. -/
def linkOthersUptoRow : OpenClaim := { program := "ytojghgbaiiajfaa", sum := "f990b9b3a544ee40e2aeb7b409ab054f228a50bfa70efed22ddb74a80ece13c8", func := "bowsprit/bowspritlaw22.LinkOthers", spec := "linkOthers", inPlace := ["slices.overlaps[bowsprit/api.Held]"], unfollowed := true, recurses := true, apart := false, narrowed := true }
def LinkOthersUptoSaid : Prop := linkOthersUptoRow.holds Try.pinned (OpenSpec.upto linkOthersSpec)

/-- 'bowspritlaw22.LinkHears', WHERE WHAT IT READS IS OF BULK AT MOST 1048576: true; the input reads as it did. -/
def linkHearsUptoRow : OpenClaim := { program := "ytojghgbaiiajfaa", sum := "f990b9b3a544ee40e2aeb7b409ab054f228a50bfa70efed22ddb74a80ece13c8", func := "bowsprit/bowspritlaw22.LinkHears", spec := "linkHears", inPlace := ["slices.overlaps[bowsprit/api.Held]"], unfollowed := true, recurses := true, apart := false, narrowed := true }
def LinkHearsUptoSaid : Prop := linkHearsUptoRow.holds Try.pinned (OpenSpec.upto linkHearsSpec)

/-- 'bowspritlaw22.LinkSafe', WHERE WHAT IT READS IS OF BULK AT MOST 1048576: true; the input reads as it did. -/
def linkSafeUptoRow : OpenClaim := { program := "ytojghgbaiiajfaa", sum := "f990b9b3a544ee40e2aeb7b409ab054f228a50bfa70efed22ddb74a80ece13c8", func := "bowsprit/bowspritlaw22.LinkSafe", spec := "linkSafe", inPlace := ["slices.overlaps[bowsprit/api.Held]"], unfollowed := true, recurses := true, apart := false, narrowed := true }
def LinkSafeUptoSaid : Prop := linkSafeUptoRow.holds Try.pinned (OpenSpec.upto linkSafeSpec)

/-- 'bowspritlaw22.LinkEnds', WHERE WHAT IT READS IS OF BULK AT MOST 1048576: true; the input reads as it did. -/
def linkEndsUptoRow : OpenClaim := { program := "ytojghgbaiiajfaa", sum := "f990b9b3a544ee40e2aeb7b409ab054f228a50bfa70efed22ddb74a80ece13c8", func := "bowsprit/bowspritlaw22.LinkEnds", spec := "linkEnds", inPlace := ["slices.overlaps[bowsprit/api.Held]"], unfollowed := true, recurses := true, apart := false, narrowed := true }
def LinkEndsUptoSaid : Prop := linkEndsUptoRow.holds Try.pinned (OpenSpec.upto linkEndsSpec)

end Rows
end Go.Proofs.Ytojghgbaiiajfaa
