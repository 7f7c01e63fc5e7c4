/-
  No cell of these rows narrows 'for every input' (looked for: loops, veiled, ifaces, maps, wideKeys, modest, calm, conditions, laid).
  DERIVED. THE GIVEN ROWS OF THIS SEAT. 5 by the template 'for every input the law returns true; each argument reads behind the call as it read before'; 0 by the template 'total and deterministic' (their statements: YtemakmgppafccaaTotals.lean).
  GIVEN WITH THE SEED: the statements are not yours to turn. If you find one false, say at which input.
  Laid BY PROGRAM, IN A SANDBOX (cutbox-rows.mjs): the forced cells as the released guide's own fill.sh prints them over the translation 83827fe1958a76a9… (all of the seat's roots in one cut). By AI agents, Wed Nov 11 2026. No macro, syntax, notation, axiom, sorry.
-/
import Derived.Test.YtemakmgppafccaaChecked
import GoSem.Claim
import GoSem.ClaimJoined
import GoSem.ClaimMapViews
import Derived.JoinedTies
import Derived.KernelRfl
namespace Go.Proofs.Ytemakmgppafccaa
/- THE CELL 'sum', in the pinned program and in every row, IS THE sha256 OF THE DUMP (.gsa) THAT YtemakmgppafccaaProg.lean LOADS. Nothing in Lean hashes anything: it is a label: what it is worth is what the hold of that sum in a sandbox is worth. -/
noncomputable def Try.pinned : Pinned := { name := "ytemakmgppafccaa", sum := "83827fe1958a76a9ac6a70d2c7a40a8c5dfc8cd3af4a707cc5deffacbb9e21e3", checked := Try.checked }
namespace Rows
def none {H : Type} : Left H := { results := [], args := [] }

/-- 'bowspritlaw04.ArithSums': WHATEVER THE INPUT: true; the input reads as it did. -/
def arithSumsSpec : ChangeSpec := { name := "arithSums", fn := fun _ => fun
  | [d] => { results := [.lit (.bool true)], args := [d] }
  | _ => none }
def arithSumsRow : OpenClaim := { program := "ytemakmgppafccaa", sum := "83827fe1958a76a9ac6a70d2c7a40a8c5dfc8cd3af4a707cc5deffacbb9e21e3", func := "bowsprit/bowspritlaw04.ArithSums", spec := "arithSums", inPlace := ["math/bits.Add64"], unfollowed := true, recurses := true, apart := false }
def ArithSumsSaid : Prop := arithSumsRow.holds Try.pinned (OpenSpec.ofChange arithSumsSpec)

/-- ITS FALSE NEIGHBOUR: 'it returns false'. Refute it at one input. -/
def arithSumsWrong : ChangeSpec := { name := "arithSums", fn := fun _ => fun
  | [d] => { results := [.lit (.bool false)], args := [d] }
  | _ => none }
def ArithSumsWrongFalsely : Prop := arithSumsRow.holds Try.pinned (OpenSpec.ofChange arithSumsWrong)

/-- 'bowspritlaw04.ArithOrder': WHATEVER THE INPUT: true; the input reads as it did. -/
def arithOrderSpec : ChangeSpec := { name := "arithOrder", fn := fun _ => fun
  | [d1, d2] => { results := [.lit (.bool true)], args := [d1, d2] }
  | _ => none }
def arithOrderRow : OpenClaim := { program := "ytemakmgppafccaa", sum := "83827fe1958a76a9ac6a70d2c7a40a8c5dfc8cd3af4a707cc5deffacbb9e21e3", func := "bowsprit/bowspritlaw04.ArithOrder", spec := "arithOrder", inPlace := ["math/bits.Add64"], unfollowed := true, recurses := true, apart := false }
def ArithOrderSaid : Prop := arithOrderRow.holds Try.pinned (OpenSpec.ofChange arithOrderSpec)

/-- ITS FALSE NEIGHBOUR: 'it returns false'. Refute it at one input. -/
def arithOrderWrong : ChangeSpec := { name := "arithOrder", fn := fun _ => fun
  | [d1, d2] => { results := [.lit (.bool false)], args := [d1, d2] }
  | _ => none }
def ArithOrderWrongFalsely : Prop := arithOrderRow.holds Try.pinned (OpenSpec.ofChange arithOrderWrong)

/-- 'bowspritlaw04.ArithNulls': WHATEVER THE INPUT: true; the input reads as it did. -/
def arithNullsSpec : ChangeSpec := { name := "arithNulls", fn := fun _ => fun
  | [d1, d2] => { results := [.lit (.bool true)], args := [d1, d2] }
  | _ => none }
def arithNullsRow : OpenClaim := { program := "ytemakmgppafccaa", sum := "83827fe1958a76a9ac6a70d2c7a40a8c5dfc8cd3af4a707cc5deffacbb9e21e3", func := "bowsprit/bowspritlaw04.ArithNulls", spec := "arithNulls", inPlace := ["math/bits.Add64"], unfollowed := true, recurses := true, apart := false }
def ArithNullsSaid : Prop := arithNullsRow.holds Try.pinned (OpenSpec.ofChange arithNullsSpec)

/-- ITS FALSE NEIGHBOUR: 'it returns false'. Refute it at one input. -/
def arithNullsWrong : ChangeSpec := { name := "arithNulls", fn := fun _ => fun
  | [d1, d2] => { results := [.lit (.bool false)], args := [d1, d2] }
  | _ => none }
def ArithNullsWrongFalsely : Prop := arithNullsRow.holds Try.pinned (OpenSpec.ofChange arithNullsWrong)

/-- 'bowspritlaw04.ArithBack': WHATEVER THE INPUT: true; the input reads as it did. -/
def arithBackSpec : ChangeSpec := { name := "arithBack", fn := fun _ => fun
  | [d] => { results := [.lit (.bool true)], args := [d] }
  | _ => none }
def arithBackRow : OpenClaim := { program := "ytemakmgppafccaa", sum := "83827fe1958a76a9ac6a70d2c7a40a8c5dfc8cd3af4a707cc5deffacbb9e21e3", func := "bowsprit/bowspritlaw04.ArithBack", spec := "arithBack", inPlace := ["math/bits.Add64"], unfollowed := true, recurses := true, apart := false }
def ArithBackSaid : Prop := arithBackRow.holds Try.pinned (OpenSpec.ofChange arithBackSpec)

/-- ITS FALSE NEIGHBOUR: 'it returns false'. Refute it at one input. -/
def arithBackWrong : ChangeSpec := { name := "arithBack", fn := fun _ => fun
  | [d] => { results := [.lit (.bool false)], args := [d] }
  | _ => none }
def ArithBackWrongFalsely : Prop := arithBackRow.holds Try.pinned (OpenSpec.ofChange arithBackWrong)

/-- 'bowspritlaw04.ArithDoes': WHATEVER THE INPUT: true; the input reads as it did. -/
def arithDoesSpec : ChangeSpec := { name := "arithDoes", fn := fun _ => fun
  | [d] => { results := [.lit (.bool true)], args := [d] }
  | _ => none }
def arithDoesRow : OpenClaim := { program := "ytemakmgppafccaa", sum := "83827fe1958a76a9ac6a70d2c7a40a8c5dfc8cd3af4a707cc5deffacbb9e21e3", func := "bowsprit/bowspritlaw04.ArithDoes", spec := "arithDoes", inPlace := ["math/bits.Add64"], unfollowed := true, recurses := true, apart := false }
def ArithDoesSaid : Prop := arithDoesRow.holds Try.pinned (OpenSpec.ofChange arithDoesSpec)

/-- ITS FALSE NEIGHBOUR: 'it returns false'. Refute it at one input. -/
def arithDoesWrong : ChangeSpec := { name := "arithDoes", fn := fun _ => fun
  | [d] => { results := [.lit (.bool false)], args := [d] }
  | _ => none }
def ArithDoesWrongFalsely : Prop := arithDoesRow.holds Try.pinned (OpenSpec.ofChange arithDoesWrong)

/- THE SECOND FORM. 'bulk': how many values and letters a reading holds, each counted each time it is reached (what is shared counts as often as it is met; a slice's spare places count too). A statement '..UptoSaid' is the law's where the arguments, and the package variables that the reading takes, are together of bulk at most 1048576: NARROWER than '..Said'. Prove '..Said' where nothing that the law and all that it calls make is longer than what came in: it says more and counts as full. Else prove '..UptoSaid'. A law counts once. -/
mutual
def uptoBulk {H : Type} : DataW H → Nat
  | .lit (.string bytes) => bytes.length + 1
  | .lit _ => 1
  | .nil => 1
  | .ptr d => uptoBulk d + 1
  | .slice elems spare => uptoBulkAll elems + uptoBulkAll spare + 1
  | .agg parts => uptoBulkAll parts + 1
  | .iface _ d => uptoBulk d + 1
  | .map entries => uptoBulkEntries entries + 1
  | .held _ => 1
def uptoBulkAll {H : Type} : List (DataW H) → Nat
  | [] => 0
  | d :: r => uptoBulk d + uptoBulkAll r
def uptoBulkEntries {H : Type} : List (Lit × DataW H) → Nat
  | [] => 0
  | x :: r => uptoBulkEntry x + uptoBulkEntries r
def uptoBulkEntry {H : Type} : Lit × DataW H → Nat
  | (.string bytes, d) => bytes.length + uptoBulk d + 1
  | (_, d) => uptoBulk d + 1
 end
def uptoSmall : (H : Type) → List (DataW H) → Bool := fun _ ds => decide (uptoBulkAll ds ≤ 1048576)
def OpenSpec.upto (s : _root_.Go.ChangeSpec) : _root_.Go.OpenSpec := { _root_.Go.OpenSpec.ofChange s with cond := some uptoSmall }

/-- 'bowspritlaw04.ArithSums', WHERE WHAT IT READS IS OF BULK AT MOST 1048576: true; the input reads as it did. -/
def arithSumsUptoRow : OpenClaim := { program := "ytemakmgppafccaa", sum := "83827fe1958a76a9ac6a70d2c7a40a8c5dfc8cd3af4a707cc5deffacbb9e21e3", func := "bowsprit/bowspritlaw04.ArithSums", spec := "arithSums", inPlace := ["math/bits.Add64"], unfollowed := true, recurses := true, apart := false, narrowed := true }
def ArithSumsUptoSaid : Prop := arithSumsUptoRow.holds Try.pinned (OpenSpec.upto arithSumsSpec)

/-- 'bowspritlaw04.ArithOrder', WHERE WHAT IT READS IS OF BULK AT MOST 1048576: true; the input reads as it did. -/
def arithOrderUptoRow : OpenClaim := { program := "ytemakmgppafccaa", sum := "83827fe1958a76a9ac6a70d2c7a40a8c5dfc8cd3af4a707cc5deffacbb9e21e3", func := "bowsprit/bowspritlaw04.ArithOrder", spec := "arithOrder", inPlace := ["math/bits.Add64"], unfollowed := true, recurses := true, apart := false, narrowed := true }
def ArithOrderUptoSaid : Prop := arithOrderUptoRow.holds Try.pinned (OpenSpec.upto arithOrderSpec)

/-- 'bowspritlaw04.ArithNulls', WHERE WHAT IT READS IS OF BULK AT MOST 1048576: true; the input reads as it did. -/
def arithNullsUptoRow : OpenClaim := { program := "ytemakmgppafccaa", sum := "83827fe1958a76a9ac6a70d2c7a40a8c5dfc8cd3af4a707cc5deffacbb9e21e3", func := "bowsprit/bowspritlaw04.ArithNulls", spec := "arithNulls", inPlace := ["math/bits.Add64"], unfollowed := true, recurses := true, apart := false, narrowed := true }
def ArithNullsUptoSaid : Prop := arithNullsUptoRow.holds Try.pinned (OpenSpec.upto arithNullsSpec)

/-- 'bowspritlaw04.ArithBack', WHERE WHAT IT READS IS OF BULK AT MOST 1048576: true; the input reads as it did. -/
def arithBackUptoRow : OpenClaim := { program := "ytemakmgppafccaa", sum := "83827fe1958a76a9ac6a70d2c7a40a8c5dfc8cd3af4a707cc5deffacbb9e21e3", func := "bowsprit/bowspritlaw04.ArithBack", spec := "arithBack", inPlace := ["math/bits.Add64"], unfollowed := true, recurses := true, apart := false, narrowed := true }
def ArithBackUptoSaid : Prop := arithBackUptoRow.holds Try.pinned (OpenSpec.upto arithBackSpec)

/-- 'bowspritlaw04.ArithDoes', WHERE WHAT IT READS IS OF BULK AT MOST 1048576: true; the input reads as it did. -/
def arithDoesUptoRow : OpenClaim := { program := "ytemakmgppafccaa", sum := "83827fe1958a76a9ac6a70d2c7a40a8c5dfc8cd3af4a707cc5deffacbb9e21e3", func := "bowsprit/bowspritlaw04.ArithDoes", spec := "arithDoes", inPlace := ["math/bits.Add64"], unfollowed := true, recurses := true, apart := false, narrowed := true }
def ArithDoesUptoSaid : Prop := arithDoesUptoRow.holds Try.pinned (OpenSpec.upto arithDoesSpec)

end Rows
end Go.Proofs.Ytemakmgppafccaa
