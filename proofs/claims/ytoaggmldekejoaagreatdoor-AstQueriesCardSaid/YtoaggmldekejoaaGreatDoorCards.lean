/-
  DERIVED. GIVEN WITH THE SEED: THE CARDS: each row of YtoaggmldekejoaaGreatDoorRows.lean that lists a variable, with what it lists TIED to the program's text (the seventh form; the later family's looks); each row that meets fmt, with fmt's text TOLD by the authors' own Lean function (tested against real Go, not proved from fmt's source: count such statements apart). THE CARD IS WHAT COUNTS. Prove the row's statement (the work); the ties are given (YtoaggmldekejoaaGreatDoorTie.lean); close each card by the builder's one call (the guide's Derived/Test/ToyasCard.lean, 'card_holds'). Laid BY PROGRAM, IN A SANDBOX (cutbox-door.mjs). By AI agents, Wed Nov 11 2026. No macro, syntax, notation, axiom, sorry.
-/
import Derived.Test.YtoaggmldekejoaaGreatDoorRows
import GoSem.ClaimSeven
namespace Go.Proofs.YtoaggmldekejoaaGreatDoor
namespace Rows

/-- THE TIED CARD OF 'bowspritlaw08.AstTrees'. -/
def astTreesCard : Claim7 := { stood := { row := astTreesRow, standIns := [], harness := (true, "73298afe0c43b744bcdf69f65d46cc14c645dc808d01586124bbc7ee3c5f46ae"), looks := false }, kinds := [], alts := [], laidByText := true, laidKinds := [.data, .data, .data, .data, .widerDeep, .data, .data, .pinned, .pinned], laidTests := true, laidLooks := .later }
def AstTreesCardSaid : Prop := Claim7.holds Tryz.pinned (.plain (OpenSpec.ofChange astTreesSpec)) astTreesCard

/-- THE TIED CARD OF 'bowspritlaw08.AstQueries'. -/
def astQueriesCard : Claim7 := { stood := { row := astQueriesRow, standIns := [], harness := (true, "73298afe0c43b744bcdf69f65d46cc14c645dc808d01586124bbc7ee3c5f46ae"), looks := false }, kinds := [], alts := [], laidByText := true, laidKinds := [.data, .data, .data, .data, .widerDeep, .data, .data, .pinned, .pinned], laidTests := true, laidLooks := .later }
def AstQueriesCardSaid : Prop := Claim7.holds Tryz.pinned (.plain (OpenSpec.ofChange astQueriesSpec)) astQueriesCard

/-- THE TIED CARD OF 'bowspritlaw08.AstUnlike'. -/
def astUnlikeCard : Claim7 := { stood := { row := astUnlikeRow, standIns := [], harness := (true, "73298afe0c43b744bcdf69f65d46cc14c645dc808d01586124bbc7ee3c5f46ae"), looks := false }, kinds := [], alts := [], laidByText := true, laidKinds := [.data, .data, .data, .data, .widerDeep, .data, .data, .pinned, .pinned], laidTests := true, laidLooks := .later }
def AstUnlikeCardSaid : Prop := Claim7.holds Tryz.pinned (.plain (OpenSpec.ofChange astUnlikeSpec)) astUnlikeCard

/-- THE SECOND FORM's CARD OF 'bowspritlaw08.AstTrees'. -/
def astTreesUptoCard : Claim7 := { stood := { row := astTreesUptoRow, standIns := [], harness := (true, "73298afe0c43b744bcdf69f65d46cc14c645dc808d01586124bbc7ee3c5f46ae"), looks := false }, kinds := [], alts := [], laidByText := true, laidKinds := [.data, .data, .data, .data, .widerDeep, .data, .data, .pinned, .pinned], laidTests := true, laidLooks := .later }
def AstTreesUptoCardSaid : Prop := Claim7.holds Tryz.pinned (.plain (OpenSpec.upto astTreesSpec)) astTreesUptoCard

/-- THE SECOND FORM's CARD OF 'bowspritlaw08.AstQueries'. -/
def astQueriesUptoCard : Claim7 := { stood := { row := astQueriesUptoRow, standIns := [], harness := (true, "73298afe0c43b744bcdf69f65d46cc14c645dc808d01586124bbc7ee3c5f46ae"), looks := false }, kinds := [], alts := [], laidByText := true, laidKinds := [.data, .data, .data, .data, .widerDeep, .data, .data, .pinned, .pinned], laidTests := true, laidLooks := .later }
def AstQueriesUptoCardSaid : Prop := Claim7.holds Tryz.pinned (.plain (OpenSpec.upto astQueriesSpec)) astQueriesUptoCard

/-- THE SECOND FORM's CARD OF 'bowspritlaw08.AstUnlike'. -/
def astUnlikeUptoCard : Claim7 := { stood := { row := astUnlikeUptoRow, standIns := [], harness := (true, "73298afe0c43b744bcdf69f65d46cc14c645dc808d01586124bbc7ee3c5f46ae"), looks := false }, kinds := [], alts := [], laidByText := true, laidKinds := [.data, .data, .data, .data, .widerDeep, .data, .data, .pinned, .pinned], laidTests := true, laidLooks := .later }
def AstUnlikeUptoCardSaid : Prop := Claim7.holds Tryz.pinned (.plain (OpenSpec.upto astUnlikeSpec)) astUnlikeUptoCard
end Rows
end Go.Proofs.YtoaggmldekejoaaGreatDoor
