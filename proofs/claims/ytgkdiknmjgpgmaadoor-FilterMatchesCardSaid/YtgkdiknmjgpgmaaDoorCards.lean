/-
  DERIVED. GIVEN WITH THE SEED: THE CARDS: each row of YtgkdiknmjgpgmaaDoorRows.lean that lists a variable, with what it lists TIED to the program's text (the seventh form; the later family's looks); each row that meets fmt, with fmt's text TOLD by the authors' own Lean function (tested against real Go, not proved from fmt's source: count such statements apart). THE CARD IS WHAT COUNTS. Prove the row's statement (the work); the ties are given (YtgkdiknmjgpgmaaDoorTie.lean); close each card by the builder's one call (the guide's Derived/Test/ToyasCard.lean, 'card_holds'). Laid BY PROGRAM, IN A SANDBOX (cutbox-door.mjs). By AI agents, Wed Nov 11 2026. No macro, syntax, notation, axiom, sorry.
-/
import Derived.Test.YtgkdiknmjgpgmaaDoorRows
import GoSem.ClaimSeven
namespace Go.Proofs.YtgkdiknmjgpgmaaDoor
namespace Rows

/-- THE TIED CARD OF 'lighteragelaw16.UpdateMatches'. -/
def updateMatchesCard : Claim7 := { stood := { row := updateMatchesRow, standIns := [], harness := (true, "3cae95286ce014aeddd2cc9272a0d5cd341df4eca4541fc0795095eee37bac61"), looks := false }, kinds := [], alts := [], laidByText := true, laidKinds := [.data, .pinned], laidTests := true, laidLooks := .later }
def UpdateMatchesCardSaid : Prop := Claim7.holds Tryd.pinned (.plain (OpenSpec.ofChange updateMatchesSpec)) updateMatchesCard

/-- THE TIED CARD OF 'lighteragelaw16.UpdateViews'. -/
def updateViewsCard : Claim7 := { stood := { row := updateViewsRow, standIns := [], harness := (true, "3cae95286ce014aeddd2cc9272a0d5cd341df4eca4541fc0795095eee37bac61"), looks := false }, kinds := [], alts := [], laidByText := true, laidKinds := [.data, .pinned], laidTests := true, laidLooks := .later }
def UpdateViewsCardSaid : Prop := Claim7.holds Tryd.pinned (.plain (OpenSpec.ofChange updateViewsSpec)) updateViewsCard

/-- THE TIED CARD OF 'lighteragelaw16.UpdateWins'. -/
def updateWinsCard : Claim7 := { stood := { row := updateWinsRow, standIns := [], harness := (true, "3cae95286ce014aeddd2cc9272a0d5cd341df4eca4541fc0795095eee37bac61"), looks := false }, kinds := [], alts := [], laidByText := true, laidKinds := [.data, .pinned], laidTests := true, laidLooks := .later }
def UpdateWinsCardSaid : Prop := Claim7.holds Tryd.pinned (.plain (OpenSpec.ofChange updateWinsSpec)) updateWinsCard

/-- THE TIED CARD OF 'lighteragelaw16.UpdateChecks'. -/
def updateChecksCard : Claim7 := { stood := { row := updateChecksRow, standIns := [], harness := (true, "3cae95286ce014aeddd2cc9272a0d5cd341df4eca4541fc0795095eee37bac61"), looks := false }, kinds := [], alts := [], laidByText := true, laidKinds := [.data, .pinned], laidTests := true, laidLooks := .later }
def UpdateChecksCardSaid : Prop := Claim7.holds Tryd.pinned (.plain (OpenSpec.ofChange updateChecksSpec)) updateChecksCard

/-- THE TIED CARD OF 'lighteragelaw09.FilterChecks'. -/
def filterChecksCard : Claim7 := { stood := { row := filterChecksRow, standIns := [], harness := (true, "3cae95286ce014aeddd2cc9272a0d5cd341df4eca4541fc0795095eee37bac61"), looks := false }, kinds := [], alts := [], laidByText := true, laidKinds := [.data, .pinned], laidTests := true, laidLooks := .later }
def FilterChecksCardSaid : Prop := Claim7.holds Tryd.pinned (.plain (OpenSpec.ofChange filterChecksSpec)) filterChecksCard

/-- THE TIED CARD OF 'lighteragelaw09.FilterMatches'. -/
def filterMatchesCard : Claim7 := { stood := { row := filterMatchesRow, standIns := [], harness := (true, "3cae95286ce014aeddd2cc9272a0d5cd341df4eca4541fc0795095eee37bac61"), looks := false }, kinds := [], alts := [], laidByText := true, laidKinds := [.data, .pinned], laidTests := true, laidLooks := .later }
def FilterMatchesCardSaid : Prop := Claim7.holds Tryd.pinned (.plain (OpenSpec.ofChange filterMatchesSpec)) filterMatchesCard

/-- THE SECOND FORM's CARD OF 'lighteragelaw16.UpdateMatches'. -/
def updateMatchesUptoCard : Claim7 := { stood := { row := updateMatchesUptoRow, standIns := [], harness := (true, "3cae95286ce014aeddd2cc9272a0d5cd341df4eca4541fc0795095eee37bac61"), looks := false }, kinds := [], alts := [], laidByText := true, laidKinds := [.data, .pinned], laidTests := true, laidLooks := .later }
def UpdateMatchesUptoCardSaid : Prop := Claim7.holds Tryd.pinned (.plain (OpenSpec.upto updateMatchesSpec)) updateMatchesUptoCard

/-- THE SECOND FORM's CARD OF 'lighteragelaw16.UpdateViews'. -/
def updateViewsUptoCard : Claim7 := { stood := { row := updateViewsUptoRow, standIns := [], harness := (true, "3cae95286ce014aeddd2cc9272a0d5cd341df4eca4541fc0795095eee37bac61"), looks := false }, kinds := [], alts := [], laidByText := true, laidKinds := [.data, .pinned], laidTests := true, laidLooks := .later }
def UpdateViewsUptoCardSaid : Prop := Claim7.holds Tryd.pinned (.plain (OpenSpec.upto updateViewsSpec)) updateViewsUptoCard

/-- THE SECOND FORM's CARD OF 'lighteragelaw16.UpdateWins'. -/
def updateWinsUptoCard : Claim7 := { stood := { row := updateWinsUptoRow, standIns := [], harness := (true, "3cae95286ce014aeddd2cc9272a0d5cd341df4eca4541fc0795095eee37bac61"), looks := false }, kinds := [], alts := [], laidByText := true, laidKinds := [.data, .pinned], laidTests := true, laidLooks := .later }
def UpdateWinsUptoCardSaid : Prop := Claim7.holds Tryd.pinned (.plain (OpenSpec.upto updateWinsSpec)) updateWinsUptoCard

/-- THE SECOND FORM's CARD OF 'lighteragelaw16.UpdateChecks'. -/
def updateChecksUptoCard : Claim7 := { stood := { row := updateChecksUptoRow, standIns := [], harness := (true, "3cae95286ce014aeddd2cc9272a0d5cd341df4eca4541fc0795095eee37bac61"), looks := false }, kinds := [], alts := [], laidByText := true, laidKinds := [.data, .pinned], laidTests := true, laidLooks := .later }
def UpdateChecksUptoCardSaid : Prop := Claim7.holds Tryd.pinned (.plain (OpenSpec.upto updateChecksSpec)) updateChecksUptoCard

/-- THE SECOND FORM's CARD OF 'lighteragelaw09.FilterChecks'. -/
def filterChecksUptoCard : Claim7 := { stood := { row := filterChecksUptoRow, standIns := [], harness := (true, "3cae95286ce014aeddd2cc9272a0d5cd341df4eca4541fc0795095eee37bac61"), looks := false }, kinds := [], alts := [], laidByText := true, laidKinds := [.data, .pinned], laidTests := true, laidLooks := .later }
def FilterChecksUptoCardSaid : Prop := Claim7.holds Tryd.pinned (.plain (OpenSpec.upto filterChecksSpec)) filterChecksUptoCard

/-- THE SECOND FORM's CARD OF 'lighteragelaw09.FilterMatches'. -/
def filterMatchesUptoCard : Claim7 := { stood := { row := filterMatchesUptoRow, standIns := [], harness := (true, "3cae95286ce014aeddd2cc9272a0d5cd341df4eca4541fc0795095eee37bac61"), looks := false }, kinds := [], alts := [], laidByText := true, laidKinds := [.data, .pinned], laidTests := true, laidLooks := .later }
def FilterMatchesUptoCardSaid : Prop := Claim7.holds Tryd.pinned (.plain (OpenSpec.upto filterMatchesSpec)) filterMatchesUptoCard
end Rows
end Go.Proofs.YtgkdiknmjgpgmaaDoor
