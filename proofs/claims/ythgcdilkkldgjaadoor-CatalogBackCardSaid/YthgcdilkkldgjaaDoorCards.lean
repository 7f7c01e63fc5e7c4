/-
  DERIVED. GIVEN WITH THE SEED: THE CARDS: each row of YthgcdilkkldgjaaDoorRows.lean that lists a variable, with what it lists TIED to the program's text (the seventh form; the later family's looks); each row that meets fmt, with fmt's text TOLD by the authors' own Lean function (tested against real Go, not proved from fmt's source: count such statements apart). THE CARD IS WHAT COUNTS. Prove the row's statement (the work); the ties are given (YthgcdilkkldgjaaDoorTie.lean); close each card by the builder's one call (the guide's Derived/Test/ToyasCard.lean, 'card_holds'). Laid BY PROGRAM, IN A SANDBOX (cutbox-door.mjs). By AI agents, Wed Nov 11 2026. No macro, syntax, notation, axiom, sorry.
-/
import Derived.Test.YthgcdilkkldgjaaDoorRows
import GoSem.ClaimSeven
namespace Go.Proofs.YthgcdilkkldgjaaDoor
namespace Rows

/-- THE TIED CARD OF 'bowspritlaw11.CatalogChanges'. -/
def catalogChangesCard : Claim7 := { stood := { row := catalogChangesRow, standIns := [], harness := (true, "5ef108504fae244a59ee2f00c7a4280d867e8b265b747c2332d4c949ed8aab7b"), looks := false }, kinds := [], alts := [], laidByText := true, laidKinds := [.data, .widerDeep, .data, .pinned, .pinned], laidTests := true, laidLooks := .later }
def CatalogChangesCardSaid : Prop := Claim7.holds Tryd.pinned (.plain (OpenSpec.ofChange catalogChangesSpec)) catalogChangesCard

/-- THE TIED CARD OF 'bowspritlaw11.CatalogTells'. -/
def catalogTellsCard : Claim7 := { stood := { row := catalogTellsRow, standIns := [], harness := (true, "5ef108504fae244a59ee2f00c7a4280d867e8b265b747c2332d4c949ed8aab7b"), looks := false }, kinds := [], alts := [], laidByText := true, laidKinds := [.data, .widerDeep, .data, .pinned, .pinned], laidTests := true, laidLooks := .later }
def CatalogTellsCardSaid : Prop := Claim7.holds Tryd.pinned (.plain (OpenSpec.ofChange catalogTellsSpec)) catalogTellsCard

/-- THE TIED CARD OF 'bowspritlaw11.CatalogStays'. -/
def catalogStaysCard : Claim7 := { stood := { row := catalogStaysRow, standIns := [], harness := (true, "5ef108504fae244a59ee2f00c7a4280d867e8b265b747c2332d4c949ed8aab7b"), looks := false }, kinds := [], alts := [], laidByText := true, laidKinds := [.data, .widerDeep, .data, .pinned, .pinned], laidTests := true, laidLooks := .later }
def CatalogStaysCardSaid : Prop := Claim7.holds Tryd.pinned (.plain (OpenSpec.ofChange catalogStaysSpec)) catalogStaysCard

/-- THE TIED CARD OF 'bowspritlaw11.CatalogWrong'. -/
def catalogWrongCard : Claim7 := { stood := { row := catalogWrongRow, standIns := [], harness := (true, "5ef108504fae244a59ee2f00c7a4280d867e8b265b747c2332d4c949ed8aab7b"), looks := false }, kinds := [], alts := [], laidByText := true, laidKinds := [.data, .widerDeep, .data, .pinned, .pinned], laidTests := true, laidLooks := .later }
def CatalogWrongCardSaid : Prop := Claim7.holds Tryd.pinned (.plain (OpenSpec.ofChange catalogWrongSpec)) catalogWrongCard

/-- THE TIED CARD OF 'bowspritlaw11.CatalogBack'. -/
def catalogBackCard : Claim7 := { stood := { row := catalogBackRow, standIns := [], harness := (true, "5ef108504fae244a59ee2f00c7a4280d867e8b265b747c2332d4c949ed8aab7b"), looks := false }, kinds := [], alts := [], laidByText := true, laidKinds := [.data, .widerDeep, .data, .pinned, .pinned], laidTests := true, laidLooks := .later }
def CatalogBackCardSaid : Prop := Claim7.holds Tryd.pinned (.plain (OpenSpec.ofChange catalogBackSpec)) catalogBackCard

/-- THE SECOND FORM's CARD OF 'bowspritlaw11.CatalogChanges'. -/
def catalogChangesUptoCard : Claim7 := { stood := { row := catalogChangesUptoRow, standIns := [], harness := (true, "5ef108504fae244a59ee2f00c7a4280d867e8b265b747c2332d4c949ed8aab7b"), looks := false }, kinds := [], alts := [], laidByText := true, laidKinds := [.data, .widerDeep, .data, .pinned, .pinned], laidTests := true, laidLooks := .later }
def CatalogChangesUptoCardSaid : Prop := Claim7.holds Tryd.pinned (.plain (OpenSpec.upto catalogChangesSpec)) catalogChangesUptoCard

/-- THE SECOND FORM's CARD OF 'bowspritlaw11.CatalogTells'. -/
def catalogTellsUptoCard : Claim7 := { stood := { row := catalogTellsUptoRow, standIns := [], harness := (true, "5ef108504fae244a59ee2f00c7a4280d867e8b265b747c2332d4c949ed8aab7b"), looks := false }, kinds := [], alts := [], laidByText := true, laidKinds := [.data, .widerDeep, .data, .pinned, .pinned], laidTests := true, laidLooks := .later }
def CatalogTellsUptoCardSaid : Prop := Claim7.holds Tryd.pinned (.plain (OpenSpec.upto catalogTellsSpec)) catalogTellsUptoCard

/-- THE SECOND FORM's CARD OF 'bowspritlaw11.CatalogStays'. -/
def catalogStaysUptoCard : Claim7 := { stood := { row := catalogStaysUptoRow, standIns := [], harness := (true, "5ef108504fae244a59ee2f00c7a4280d867e8b265b747c2332d4c949ed8aab7b"), looks := false }, kinds := [], alts := [], laidByText := true, laidKinds := [.data, .widerDeep, .data, .pinned, .pinned], laidTests := true, laidLooks := .later }
def CatalogStaysUptoCardSaid : Prop := Claim7.holds Tryd.pinned (.plain (OpenSpec.upto catalogStaysSpec)) catalogStaysUptoCard

/-- THE SECOND FORM's CARD OF 'bowspritlaw11.CatalogWrong'. -/
def catalogWrongUptoCard : Claim7 := { stood := { row := catalogWrongUptoRow, standIns := [], harness := (true, "5ef108504fae244a59ee2f00c7a4280d867e8b265b747c2332d4c949ed8aab7b"), looks := false }, kinds := [], alts := [], laidByText := true, laidKinds := [.data, .widerDeep, .data, .pinned, .pinned], laidTests := true, laidLooks := .later }
def CatalogWrongUptoCardSaid : Prop := Claim7.holds Tryd.pinned (.plain (OpenSpec.upto catalogWrongSpec)) catalogWrongUptoCard

/-- THE SECOND FORM's CARD OF 'bowspritlaw11.CatalogBack'. -/
def catalogBackUptoCard : Claim7 := { stood := { row := catalogBackUptoRow, standIns := [], harness := (true, "5ef108504fae244a59ee2f00c7a4280d867e8b265b747c2332d4c949ed8aab7b"), looks := false }, kinds := [], alts := [], laidByText := true, laidKinds := [.data, .widerDeep, .data, .pinned, .pinned], laidTests := true, laidLooks := .later }
def CatalogBackUptoCardSaid : Prop := Claim7.holds Tryd.pinned (.plain (OpenSpec.upto catalogBackSpec)) catalogBackUptoCard
end Rows
end Go.Proofs.YthgcdilkkldgjaaDoor
