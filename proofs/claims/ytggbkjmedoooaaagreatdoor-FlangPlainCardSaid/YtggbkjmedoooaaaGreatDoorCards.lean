/-
  DERIVED. GIVEN WITH THE SEED: THE CARDS: each row of YtggbkjmedoooaaaGreatDoorRows.lean that lists a variable, with what it lists TIED to the program's text (the seventh form; the later family's looks); each row that meets fmt, with fmt's text TOLD by the authors' own Lean function (tested against real Go, not proved from fmt's source: count such statements apart). THE CARD IS WHAT COUNTS. Prove the row's statement (the work); the ties are given (YtggbkjmedoooaaaGreatDoorTie.lean); close each card by the builder's one call (the guide's Derived/Test/ToyasCard.lean, 'card_holds'). Laid BY PROGRAM, IN A SANDBOX (cutbox-door.mjs). By AI agents, Wed Nov 11 2026. No macro, syntax, notation, axiom, sorry.
-/
import Derived.Test.YtggbkjmedoooaaaGreatDoorRows
import GoSem.ClaimSeven
namespace Go.Proofs.YtggbkjmedoooaaaGreatDoor
namespace Rows

/-- THE TIED CARD OF 'lighteragelaw11.FlangPrints'. -/
def flangPrintsCard : Claim7 := { stood := { row := flangPrintsRow, standIns := [], harness := (true, "2671c26b3ad06fa5a849b7ed1bf9bfb42bf73980b98a4111658e8d5d79c293b3"), looks := false }, kinds := [], alts := [], laidByText := true, laidKinds := [.data, .pinned], laidTests := true, laidLooks := .later }
def FlangPrintsCardSaid : Prop := Claim7.holds Tryz.pinned (.plain (OpenSpec.ofChange flangPrintsSpec)) flangPrintsCard

/-- THE TIED CARD OF 'lighteragelaw11.FlangParses'. -/
def flangParsesCard : Claim7 := { stood := { row := flangParsesRow, standIns := [], harness := (true, "2671c26b3ad06fa5a849b7ed1bf9bfb42bf73980b98a4111658e8d5d79c293b3"), looks := false }, kinds := [], alts := [], laidByText := true, laidKinds := [.data, .pinned], laidTests := true, laidLooks := .later }
def FlangParsesCardSaid : Prop := Claim7.holds Tryz.pinned (.plain (OpenSpec.ofChange flangParsesSpec)) flangParsesCard

/-- THE TIED CARD OF 'lighteragelaw11.FlangPlain'. -/
def flangPlainCard : Claim7 := { stood := { row := flangPlainRow, standIns := [], harness := (true, "2671c26b3ad06fa5a849b7ed1bf9bfb42bf73980b98a4111658e8d5d79c293b3"), looks := false }, kinds := [], alts := [], laidByText := true, laidKinds := [.data, .pinned], laidTests := true, laidLooks := .later }
def FlangPlainCardSaid : Prop := Claim7.holds Tryz.pinned (.plain (OpenSpec.ofChange flangPlainSpec)) flangPlainCard

/-- THE SECOND FORM's CARD OF 'lighteragelaw11.FlangPrints'. -/
def flangPrintsUptoCard : Claim7 := { stood := { row := flangPrintsUptoRow, standIns := [], harness := (true, "2671c26b3ad06fa5a849b7ed1bf9bfb42bf73980b98a4111658e8d5d79c293b3"), looks := false }, kinds := [], alts := [], laidByText := true, laidKinds := [.data, .pinned], laidTests := true, laidLooks := .later }
def FlangPrintsUptoCardSaid : Prop := Claim7.holds Tryz.pinned (.plain (OpenSpec.upto flangPrintsSpec)) flangPrintsUptoCard

/-- THE SECOND FORM's CARD OF 'lighteragelaw11.FlangParses'. -/
def flangParsesUptoCard : Claim7 := { stood := { row := flangParsesUptoRow, standIns := [], harness := (true, "2671c26b3ad06fa5a849b7ed1bf9bfb42bf73980b98a4111658e8d5d79c293b3"), looks := false }, kinds := [], alts := [], laidByText := true, laidKinds := [.data, .pinned], laidTests := true, laidLooks := .later }
def FlangParsesUptoCardSaid : Prop := Claim7.holds Tryz.pinned (.plain (OpenSpec.upto flangParsesSpec)) flangParsesUptoCard

/-- THE SECOND FORM's CARD OF 'lighteragelaw11.FlangPlain'. -/
def flangPlainUptoCard : Claim7 := { stood := { row := flangPlainUptoRow, standIns := [], harness := (true, "2671c26b3ad06fa5a849b7ed1bf9bfb42bf73980b98a4111658e8d5d79c293b3"), looks := false }, kinds := [], alts := [], laidByText := true, laidKinds := [.data, .pinned], laidTests := true, laidLooks := .later }
def FlangPlainUptoCardSaid : Prop := Claim7.holds Tryz.pinned (.plain (OpenSpec.upto flangPlainSpec)) flangPlainUptoCard
end Rows
end Go.Proofs.YtggbkjmedoooaaaGreatDoor
