/-
  DERIVED. GIVEN WITH THE SEED: THE CARDS: each row of YtoaggmldekejoaaDoorRows.lean that lists a variable, with what it lists TIED to the program's text (the seventh form; the later family's looks); each row that meets fmt, with fmt's text TOLD by the authors' own Lean function (tested against real Go, not proved from fmt's source: count such statements apart). THE CARD IS WHAT COUNTS. Prove the row's statement (the work); the ties are given (YtoaggmldekejoaaDoorTie.lean); close each card by the builder's one call (the guide's Derived/Test/ToyasCard.lean, 'card_holds'). Laid BY PROGRAM, IN A SANDBOX (cutbox-door.mjs). By AI agents, Wed Nov 11 2026. No macro, syntax, notation, axiom, sorry.
-/
import Derived.Test.YtoaggmldekejoaaDoorRows
import GoSem.ClaimSeven
namespace Go.Proofs.YtoaggmldekejoaaDoor
namespace Rows

/-- THE TIED CARD OF 'bowspritlaw08.AstMakes'. -/
def astMakesCard : Claim7 := { stood := { row := astMakesRow, standIns := [], harness := (true, "77a2fb1075d9f0731be72411cb6d1026b0d33cc4e41cf0451c1f8573b628efee"), looks := false }, kinds := [], alts := [], laidByText := true, laidKinds := [.data, .data, .data, .data, .widerDeep, .data, .data, .pinned, .pinned], laidTests := true, laidLooks := .later }
def AstMakesCardSaid : Prop := Claim7.holds Tryd.pinned (.plain (OpenSpec.ofChange astMakesSpec)) astMakesCard

/-- THE TIED CARD OF 'bowspritlaw08.AstParts'. -/
def astPartsCard : Claim7 := { stood := { row := astPartsRow, standIns := [], harness := (true, "77a2fb1075d9f0731be72411cb6d1026b0d33cc4e41cf0451c1f8573b628efee"), looks := false }, kinds := [], alts := [], laidByText := true, laidKinds := [.data, .data, .data, .data, .widerDeep, .data, .data, .pinned, .pinned], laidTests := true, laidLooks := .later }
def AstPartsCardSaid : Prop := Claim7.holds Tryd.pinned (.plain (OpenSpec.ofChange astPartsSpec)) astPartsCard

/-- THE TIED CARD OF 'bowspritlaw08.AstApart'. -/
def astApartCard : Claim7 := { stood := { row := astApartRow, standIns := [], harness := (true, "77a2fb1075d9f0731be72411cb6d1026b0d33cc4e41cf0451c1f8573b628efee"), looks := false }, kinds := [], alts := [], laidByText := true, laidKinds := [.data, .data, .data, .data, .widerDeep, .data, .data, .pinned, .pinned], laidTests := true, laidLooks := .later }
def AstApartCardSaid : Prop := Claim7.holds Tryd.pinned (.plain (OpenSpec.ofChange astApartSpec)) astApartCard

/-- THE TIED CARD OF 'bowspritlaw08.AstWhole'. -/
def astWholeCard : Claim7 := { stood := { row := astWholeRow, standIns := [], harness := (true, "77a2fb1075d9f0731be72411cb6d1026b0d33cc4e41cf0451c1f8573b628efee"), looks := false }, kinds := [], alts := [], laidByText := true, laidKinds := [.data, .data, .data, .data, .widerDeep, .data, .data, .pinned, .pinned], laidTests := true, laidLooks := .later }
def AstWholeCardSaid : Prop := Claim7.holds Tryd.pinned (.plain (OpenSpec.ofChange astWholeSpec)) astWholeCard

/-- THE SECOND FORM's CARD OF 'bowspritlaw08.AstMakes'. -/
def astMakesUptoCard : Claim7 := { stood := { row := astMakesUptoRow, standIns := [], harness := (true, "77a2fb1075d9f0731be72411cb6d1026b0d33cc4e41cf0451c1f8573b628efee"), looks := false }, kinds := [], alts := [], laidByText := true, laidKinds := [.data, .data, .data, .data, .widerDeep, .data, .data, .pinned, .pinned], laidTests := true, laidLooks := .later }
def AstMakesUptoCardSaid : Prop := Claim7.holds Tryd.pinned (.plain (OpenSpec.upto astMakesSpec)) astMakesUptoCard

/-- THE SECOND FORM's CARD OF 'bowspritlaw08.AstParts'. -/
def astPartsUptoCard : Claim7 := { stood := { row := astPartsUptoRow, standIns := [], harness := (true, "77a2fb1075d9f0731be72411cb6d1026b0d33cc4e41cf0451c1f8573b628efee"), looks := false }, kinds := [], alts := [], laidByText := true, laidKinds := [.data, .data, .data, .data, .widerDeep, .data, .data, .pinned, .pinned], laidTests := true, laidLooks := .later }
def AstPartsUptoCardSaid : Prop := Claim7.holds Tryd.pinned (.plain (OpenSpec.upto astPartsSpec)) astPartsUptoCard

/-- THE SECOND FORM's CARD OF 'bowspritlaw08.AstApart'. -/
def astApartUptoCard : Claim7 := { stood := { row := astApartUptoRow, standIns := [], harness := (true, "77a2fb1075d9f0731be72411cb6d1026b0d33cc4e41cf0451c1f8573b628efee"), looks := false }, kinds := [], alts := [], laidByText := true, laidKinds := [.data, .data, .data, .data, .widerDeep, .data, .data, .pinned, .pinned], laidTests := true, laidLooks := .later }
def AstApartUptoCardSaid : Prop := Claim7.holds Tryd.pinned (.plain (OpenSpec.upto astApartSpec)) astApartUptoCard

/-- THE SECOND FORM's CARD OF 'bowspritlaw08.AstWhole'. -/
def astWholeUptoCard : Claim7 := { stood := { row := astWholeUptoRow, standIns := [], harness := (true, "77a2fb1075d9f0731be72411cb6d1026b0d33cc4e41cf0451c1f8573b628efee"), looks := false }, kinds := [], alts := [], laidByText := true, laidKinds := [.data, .data, .data, .data, .widerDeep, .data, .data, .pinned, .pinned], laidTests := true, laidLooks := .later }
def AstWholeUptoCardSaid : Prop := Claim7.holds Tryd.pinned (.plain (OpenSpec.upto astWholeSpec)) astWholeUptoCard
end Rows
end Go.Proofs.YtoaggmldekejoaaDoor
