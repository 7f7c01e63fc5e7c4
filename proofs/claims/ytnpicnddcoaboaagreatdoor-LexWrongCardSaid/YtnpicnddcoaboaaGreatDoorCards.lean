/-
  DERIVED. GIVEN WITH THE SEED: THE CARDS: each row of YtnpicnddcoaboaaGreatDoorRows.lean that lists a variable, with what it lists TIED to the program's text (the seventh form; the later family's looks); each row that meets fmt, with fmt's text TOLD by the authors' own Lean function (tested against real Go, not proved from fmt's source: count such statements apart). THE CARD IS WHAT COUNTS. Prove the row's statement (the work); the ties are given (YtnpicnddcoaboaaGreatDoorTie.lean); close each card by the builder's one call (the guide's Derived/Test/ToyasCard.lean, 'card_holds'). Laid BY PROGRAM, IN A SANDBOX (cutbox-door.mjs). By AI agents, Wed Nov 11 2026. No macro, syntax, notation, axiom, sorry.
-/
import Derived.Test.YtnpicnddcoaboaaGreatDoorRows
import GoSem.ClaimSeven
namespace Go.Proofs.YtnpicnddcoaboaaGreatDoor
namespace Rows

/-- THE TIED CARD OF 'bowspritlaw07.LexReads'. -/
def lexReadsCard : Claim7 := { stood := { row := lexReadsRow, standIns := [], harness := (true, "c33b1ed414981dff0556949732e7caba08644ca4e08c4bc1612b6959ae3c780b"), looks := true }, kinds := [], alts := [], laidByText := true, laidKinds := [.data, .data, .data, .data, .sentinel, .sentinel, .widerDeep, .widerDeep, .pinned, .pinned], laidTests := true, laidLooks := .later }
def LexReadsCardSaid : Prop := Claim7.holds Tryz.pinned (.plain (OpenSpec.ofChange lexReadsSpec)) lexReadsCard

/-- THE TIED CARD OF 'bowspritlaw07.LexPrints'. -/
def lexPrintsCard : Claim7 := { stood := { row := lexPrintsRow, standIns := [], harness := (true, "c33b1ed414981dff0556949732e7caba08644ca4e08c4bc1612b6959ae3c780b"), looks := true }, kinds := [], alts := [], laidByText := true, laidKinds := [.data, .data, .data, .data, .sentinel, .sentinel, .widerDeep, .widerDeep, .pinned, .pinned], laidTests := true, laidLooks := .later }
def LexPrintsCardSaid : Prop := Claim7.holds Tryz.pinned (.plain (OpenSpec.ofChange lexPrintsSpec)) lexPrintsCard

/-- THE TIED CARD OF 'bowspritlaw07.LexWrong'. -/
def lexWrongCard : Claim7 := { stood := { row := lexWrongRow, standIns := [], harness := (true, "c33b1ed414981dff0556949732e7caba08644ca4e08c4bc1612b6959ae3c780b"), looks := true }, kinds := [], alts := [], laidByText := true, laidKinds := [.data, .data, .data, .data, .sentinel, .sentinel, .widerDeep, .widerDeep, .pinned, .pinned], laidTests := true, laidLooks := .later }
def LexWrongCardSaid : Prop := Claim7.holds Tryz.pinned (.plain (OpenSpec.ofChange lexWrongSpec)) lexWrongCard

/-- THE SECOND FORM's CARD OF 'bowspritlaw07.LexReads'. -/
def lexReadsUptoCard : Claim7 := { stood := { row := lexReadsUptoRow, standIns := [], harness := (true, "c33b1ed414981dff0556949732e7caba08644ca4e08c4bc1612b6959ae3c780b"), looks := true }, kinds := [], alts := [], laidByText := true, laidKinds := [.data, .data, .data, .data, .sentinel, .sentinel, .widerDeep, .widerDeep, .pinned, .pinned], laidTests := true, laidLooks := .later }
def LexReadsUptoCardSaid : Prop := Claim7.holds Tryz.pinned (.plain (OpenSpec.upto lexReadsSpec)) lexReadsUptoCard

/-- THE SECOND FORM's CARD OF 'bowspritlaw07.LexPrints'. -/
def lexPrintsUptoCard : Claim7 := { stood := { row := lexPrintsUptoRow, standIns := [], harness := (true, "c33b1ed414981dff0556949732e7caba08644ca4e08c4bc1612b6959ae3c780b"), looks := true }, kinds := [], alts := [], laidByText := true, laidKinds := [.data, .data, .data, .data, .sentinel, .sentinel, .widerDeep, .widerDeep, .pinned, .pinned], laidTests := true, laidLooks := .later }
def LexPrintsUptoCardSaid : Prop := Claim7.holds Tryz.pinned (.plain (OpenSpec.upto lexPrintsSpec)) lexPrintsUptoCard

/-- THE SECOND FORM's CARD OF 'bowspritlaw07.LexWrong'. -/
def lexWrongUptoCard : Claim7 := { stood := { row := lexWrongUptoRow, standIns := [], harness := (true, "c33b1ed414981dff0556949732e7caba08644ca4e08c4bc1612b6959ae3c780b"), looks := true }, kinds := [], alts := [], laidByText := true, laidKinds := [.data, .data, .data, .data, .sentinel, .sentinel, .widerDeep, .widerDeep, .pinned, .pinned], laidTests := true, laidLooks := .later }
def LexWrongUptoCardSaid : Prop := Claim7.holds Tryz.pinned (.plain (OpenSpec.upto lexWrongSpec)) lexWrongUptoCard
end Rows
end Go.Proofs.YtnpicnddcoaboaaGreatDoor
