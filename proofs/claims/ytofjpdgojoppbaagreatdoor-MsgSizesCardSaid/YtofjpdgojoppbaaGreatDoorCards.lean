/-
  DERIVED. GIVEN WITH THE SEED: THE CARDS: each row of YtofjpdgojoppbaaGreatDoorRows.lean that lists a variable, with what it lists TIED to the program's text (the seventh form; the later family's looks); each row that meets fmt, with fmt's text TOLD by the authors' own Lean function (tested against real Go, not proved from fmt's source: count such statements apart). THE CARD IS WHAT COUNTS. Prove the row's statement (the work); the ties are given (YtofjpdgojoppbaaGreatDoorTie.lean); close each card by the builder's one call (the guide's Derived/Test/ToyasCard.lean, 'card_holds'). Laid BY PROGRAM, IN A SANDBOX (cutbox-door.mjs). By AI agents, Wed Nov 11 2026. No macro, syntax, notation, axiom, sorry.
-/
import Derived.Test.YtofjpdgojoppbaaGreatDoorRows
import GoSem.ClaimSeven
namespace Go.Proofs.YtofjpdgojoppbaaGreatDoor
namespace Rows

/-- THE TIED CARD OF 'lighteragelaw18.MsgGets'. -/
def msgGetsCard : Claim7 := { stood := { row := msgGetsRow, standIns := [], harness := (true, "325a987f6e1f7848aa3595f6c583a138e0ef4520bf9c9bb59bd68ba3dc404215"), looks := false }, kinds := [], alts := [], laidByText := true, laidKinds := [.data, .pinned], laidTests := true, laidLooks := .later }
def MsgGetsCardSaid : Prop := Claim7.holds Tryz.pinned (.plain (OpenSpec.ofChange msgGetsSpec)) msgGetsCard

/-- THE TIED CARD OF 'lighteragelaw18.MsgTurned'. -/
def msgTurnedCard : Claim7 := { stood := { row := msgTurnedRow, standIns := [], harness := (true, "325a987f6e1f7848aa3595f6c583a138e0ef4520bf9c9bb59bd68ba3dc404215"), looks := false }, kinds := [], alts := [], laidByText := true, laidKinds := [.data, .pinned], laidTests := true, laidLooks := .later }
def MsgTurnedCardSaid : Prop := Claim7.holds Tryz.pinned (.plain (OpenSpec.ofChange msgTurnedSpec)) msgTurnedCard

/-- THE TIED CARD OF 'lighteragelaw18.MsgSizes'. -/
def msgSizesCard : Claim7 := { stood := { row := msgSizesRow, standIns := [], harness := (true, "325a987f6e1f7848aa3595f6c583a138e0ef4520bf9c9bb59bd68ba3dc404215"), looks := false }, kinds := [], alts := [], laidByText := true, laidKinds := [.data, .pinned], laidTests := true, laidLooks := .later }
def MsgSizesCardSaid : Prop := Claim7.holds Tryz.pinned (.plain (OpenSpec.ofChange msgSizesSpec)) msgSizesCard

/-- THE TIED CARD OF 'lighteragelaw18.MsgPuts'. -/
def msgPutsCard : Claim7 := { stood := { row := msgPutsRow, standIns := [], harness := (true, "325a987f6e1f7848aa3595f6c583a138e0ef4520bf9c9bb59bd68ba3dc404215"), looks := false }, kinds := [], alts := [], laidByText := true, laidKinds := [.data, .pinned], laidTests := true, laidLooks := .later }
def MsgPutsCardSaid : Prop := Claim7.holds Tryz.pinned (.plain (OpenSpec.ofChange msgPutsSpec)) msgPutsCard

/-- THE SECOND FORM's CARD OF 'lighteragelaw18.MsgGets'. -/
def msgGetsUptoCard : Claim7 := { stood := { row := msgGetsUptoRow, standIns := [], harness := (true, "325a987f6e1f7848aa3595f6c583a138e0ef4520bf9c9bb59bd68ba3dc404215"), looks := false }, kinds := [], alts := [], laidByText := true, laidKinds := [.data, .pinned], laidTests := true, laidLooks := .later }
def MsgGetsUptoCardSaid : Prop := Claim7.holds Tryz.pinned (.plain (OpenSpec.upto msgGetsSpec)) msgGetsUptoCard

/-- THE SECOND FORM's CARD OF 'lighteragelaw18.MsgTurned'. -/
def msgTurnedUptoCard : Claim7 := { stood := { row := msgTurnedUptoRow, standIns := [], harness := (true, "325a987f6e1f7848aa3595f6c583a138e0ef4520bf9c9bb59bd68ba3dc404215"), looks := false }, kinds := [], alts := [], laidByText := true, laidKinds := [.data, .pinned], laidTests := true, laidLooks := .later }
def MsgTurnedUptoCardSaid : Prop := Claim7.holds Tryz.pinned (.plain (OpenSpec.upto msgTurnedSpec)) msgTurnedUptoCard

/-- THE SECOND FORM's CARD OF 'lighteragelaw18.MsgSizes'. -/
def msgSizesUptoCard : Claim7 := { stood := { row := msgSizesUptoRow, standIns := [], harness := (true, "325a987f6e1f7848aa3595f6c583a138e0ef4520bf9c9bb59bd68ba3dc404215"), looks := false }, kinds := [], alts := [], laidByText := true, laidKinds := [.data, .pinned], laidTests := true, laidLooks := .later }
def MsgSizesUptoCardSaid : Prop := Claim7.holds Tryz.pinned (.plain (OpenSpec.upto msgSizesSpec)) msgSizesUptoCard

/-- THE SECOND FORM's CARD OF 'lighteragelaw18.MsgPuts'. -/
def msgPutsUptoCard : Claim7 := { stood := { row := msgPutsUptoRow, standIns := [], harness := (true, "325a987f6e1f7848aa3595f6c583a138e0ef4520bf9c9bb59bd68ba3dc404215"), looks := false }, kinds := [], alts := [], laidByText := true, laidKinds := [.data, .pinned], laidTests := true, laidLooks := .later }
def MsgPutsUptoCardSaid : Prop := Claim7.holds Tryz.pinned (.plain (OpenSpec.upto msgPutsSpec)) msgPutsUptoCard
end Rows
end Go.Proofs.YtofjpdgojoppbaaGreatDoor
