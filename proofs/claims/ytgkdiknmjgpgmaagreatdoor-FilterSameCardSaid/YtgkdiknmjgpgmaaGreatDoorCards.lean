/-
  DERIVED. GIVEN WITH THE SEED: THE CARDS: each row of YtgkdiknmjgpgmaaGreatDoorRows.lean that lists a variable, with what it lists TIED to the program's text (the seventh form; the later family's looks); each row that meets fmt, with fmt's text TOLD by the authors' own Lean function (tested against real Go, not proved from fmt's source: count such statements apart). THE CARD IS WHAT COUNTS. Prove the row's statement (the work); the ties are given (YtgkdiknmjgpgmaaGreatDoorTie.lean); close each card by the builder's one call (the guide's Derived/Test/ToyasCard.lean, 'card_holds'). Laid BY PROGRAM, IN A SANDBOX (cutbox-door.mjs). By AI agents, Wed Nov 11 2026. No macro, syntax, notation, axiom, sorry.
-/
import Derived.Test.YtgkdiknmjgpgmaaGreatDoorRows
import GoSem.ClaimSeven
namespace Go.Proofs.YtgkdiknmjgpgmaaGreatDoor
namespace Rows

/-- THE TIED CARD OF 'lighteragelaw09.FilterNorms'. -/
def filterNormsCard : Claim7 := { stood := { row := filterNormsRow, standIns := [], harness := (true, "f3611ce9b1bb86f5eb9fcf63cd5cba05b799aa54ed971305577c368028a96107"), looks := false }, kinds := [], alts := [], laidByText := true, laidKinds := [.data, .pinned], laidTests := true, laidLooks := .later }
def FilterNormsCardSaid : Prop := Claim7.holds Tryz.pinned (.plain (OpenSpec.ofChange filterNormsSpec)) filterNormsCard

/-- THE TIED CARD OF 'lighteragelaw09.FilterSame'. -/
def filterSameCard : Claim7 := { stood := { row := filterSameRow, standIns := [], harness := (true, "f3611ce9b1bb86f5eb9fcf63cd5cba05b799aa54ed971305577c368028a96107"), looks := false }, kinds := [], alts := [], laidByText := true, laidKinds := [.data, .pinned], laidTests := true, laidLooks := .later }
def FilterSameCardSaid : Prop := Claim7.holds Tryz.pinned (.plain (OpenSpec.ofChange filterSameSpec)) filterSameCard

/-- THE SECOND FORM's CARD OF 'lighteragelaw09.FilterNorms'. -/
def filterNormsUptoCard : Claim7 := { stood := { row := filterNormsUptoRow, standIns := [], harness := (true, "f3611ce9b1bb86f5eb9fcf63cd5cba05b799aa54ed971305577c368028a96107"), looks := false }, kinds := [], alts := [], laidByText := true, laidKinds := [.data, .pinned], laidTests := true, laidLooks := .later }
def FilterNormsUptoCardSaid : Prop := Claim7.holds Tryz.pinned (.plain (OpenSpec.upto filterNormsSpec)) filterNormsUptoCard

/-- THE SECOND FORM's CARD OF 'lighteragelaw09.FilterSame'. -/
def filterSameUptoCard : Claim7 := { stood := { row := filterSameUptoRow, standIns := [], harness := (true, "f3611ce9b1bb86f5eb9fcf63cd5cba05b799aa54ed971305577c368028a96107"), looks := false }, kinds := [], alts := [], laidByText := true, laidKinds := [.data, .pinned], laidTests := true, laidLooks := .later }
def FilterSameUptoCardSaid : Prop := Claim7.holds Tryz.pinned (.plain (OpenSpec.upto filterSameSpec)) filterSameUptoCard
end Rows
end Go.Proofs.YtgkdiknmjgpgmaaGreatDoor
