/-
  DERIVED. GIVEN WITH THE SEED: THE CARDS: each row of YthgcdilkkldgjaaGreatDoorRows.lean that lists a variable, with what it lists TIED to the program's text (the seventh form; the later family's looks); each row that meets fmt, with fmt's text TOLD by the authors' own Lean function (tested against real Go, not proved from fmt's source: count such statements apart). THE CARD IS WHAT COUNTS. Prove the row's statement (the work); the ties are given (YthgcdilkkldgjaaGreatDoorTie.lean); close each card by the builder's one call (the guide's Derived/Test/ToyasCard.lean, 'card_holds'). Laid BY PROGRAM, IN A SANDBOX (cutbox-door.mjs). By AI agents, Wed Nov 11 2026. No macro, syntax, notation, axiom, sorry.
-/
import Derived.Test.YthgcdilkkldgjaaGreatDoorRows
import GoSem.ClaimSeven
namespace Go.Proofs.YthgcdilkkldgjaaGreatDoor
namespace Rows

/-- THE TIED CARD OF 'bowspritlaw11.CatalogReads'. -/
def catalogReadsCard : Claim7 := { stood := { row := catalogReadsRow, standIns := [], harness := (true, "eca73757220cc842593b71c0a3b6596ecddc21a1bd045ab721df21c2b2d909fd"), looks := false }, kinds := [], alts := [], laidByText := true, laidKinds := [.data, .widerDeep, .data, .pinned, .pinned], laidTests := true, laidLooks := .later }
def CatalogReadsCardSaid : Prop := Claim7.holds Tryz.pinned (.plain (OpenSpec.ofChange catalogReadsSpec)) catalogReadsCard

/-- THE SECOND FORM's CARD OF 'bowspritlaw11.CatalogReads'. -/
def catalogReadsUptoCard : Claim7 := { stood := { row := catalogReadsUptoRow, standIns := [], harness := (true, "eca73757220cc842593b71c0a3b6596ecddc21a1bd045ab721df21c2b2d909fd"), looks := false }, kinds := [], alts := [], laidByText := true, laidKinds := [.data, .widerDeep, .data, .pinned, .pinned], laidTests := true, laidLooks := .later }
def CatalogReadsUptoCardSaid : Prop := Claim7.holds Tryz.pinned (.plain (OpenSpec.upto catalogReadsSpec)) catalogReadsUptoCard
end Rows
end Go.Proofs.YthgcdilkkldgjaaGreatDoor
