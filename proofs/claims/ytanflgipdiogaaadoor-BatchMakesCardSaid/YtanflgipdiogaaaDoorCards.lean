/-
  DERIVED. GIVEN WITH THE SEED: THE CARDS: each row of YtanflgipdiogaaaDoorRows.lean that lists a variable, with what it lists TIED to the program's text (the seventh form; the later family's looks); each row that meets fmt, with fmt's text TOLD by the authors' own Lean function (tested against real Go, not proved from fmt's source: count such statements apart). THE CARD IS WHAT COUNTS. Prove the row's statement (the work); the ties are given (YtanflgipdiogaaaDoorTie.lean); close each card by the builder's one call (the guide's Derived/Test/ToyasCard.lean, 'card_holds'). Laid BY PROGRAM, IN A SANDBOX (cutbox-door.mjs). By AI agents, Wed Nov 11 2026. No macro, syntax, notation, axiom, sorry.
-/
import Derived.Test.YtanflgipdiogaaaDoorRows
import GoSem.ClaimSeven
namespace Go.Proofs.YtanflgipdiogaaaDoor
namespace Rows

/-- THE TIED CARD OF 'lighteragelaw19.BatchCuts'. -/
def batchCutsCard : Claim7 := { stood := { row := batchCutsRow, standIns := [], harness := (true, "decd67d2235603f20f639cd1b5d98d0c367e6dc197ac03a467a43e6a366192e3"), looks := false }, kinds := [], alts := [], laidByText := true, laidKinds := [.data, .pinned], laidTests := true, laidLooks := .later }
def BatchCutsCardSaid : Prop := Claim7.holds Tryd.pinned (.plain (OpenSpec.ofChange batchCutsSpec)) batchCutsCard

/-- THE TIED CARD OF 'lighteragelaw19.BatchBounds'. -/
def batchBoundsCard : Claim7 := { stood := { row := batchBoundsRow, standIns := [], harness := (true, "decd67d2235603f20f639cd1b5d98d0c367e6dc197ac03a467a43e6a366192e3"), looks := false }, kinds := [], alts := [], laidByText := true, laidKinds := [.data, .pinned], laidTests := true, laidLooks := .later }
def BatchBoundsCardSaid : Prop := Claim7.holds Tryd.pinned (.plain (OpenSpec.ofChange batchBoundsSpec)) batchBoundsCard

/-- THE TIED CARD OF 'lighteragelaw19.BatchMakes'. -/
def batchMakesCard : Claim7 := { stood := { row := batchMakesRow, standIns := [], harness := (true, "decd67d2235603f20f639cd1b5d98d0c367e6dc197ac03a467a43e6a366192e3"), looks := false }, kinds := [], alts := [], laidByText := true, laidKinds := [.data, .pinned], laidTests := true, laidLooks := .later }
def BatchMakesCardSaid : Prop := Claim7.holds Tryd.pinned (.plain (OpenSpec.ofChange batchMakesSpec)) batchMakesCard

/-- THE TIED CARD OF 'lighteragelaw17.PackFilters'. -/
def packFiltersCard : Claim7 := { stood := { row := packFiltersRow, standIns := [], harness := (true, "decd67d2235603f20f639cd1b5d98d0c367e6dc197ac03a467a43e6a366192e3"), looks := false }, kinds := [], alts := [], laidByText := true, laidKinds := [.data, .pinned], laidTests := true, laidLooks := .later }
def PackFiltersCardSaid : Prop := Claim7.holds Tryd.pinned (.plain (OpenSpec.ofChange packFiltersSpec)) packFiltersCard

/-- THE TIED CARD OF 'lighteragelaw17.PackUpdates'. -/
def packUpdatesCard : Claim7 := { stood := { row := packUpdatesRow, standIns := [], harness := (true, "decd67d2235603f20f639cd1b5d98d0c367e6dc197ac03a467a43e6a366192e3"), looks := false }, kinds := [], alts := [], laidByText := true, laidKinds := [.data, .pinned], laidTests := true, laidLooks := .later }
def PackUpdatesCardSaid : Prop := Claim7.holds Tryd.pinned (.plain (OpenSpec.ofChange packUpdatesSpec)) packUpdatesCard

/-- THE SECOND FORM's CARD OF 'lighteragelaw19.BatchCuts'. -/
def batchCutsUptoCard : Claim7 := { stood := { row := batchCutsUptoRow, standIns := [], harness := (true, "decd67d2235603f20f639cd1b5d98d0c367e6dc197ac03a467a43e6a366192e3"), looks := false }, kinds := [], alts := [], laidByText := true, laidKinds := [.data, .pinned], laidTests := true, laidLooks := .later }
def BatchCutsUptoCardSaid : Prop := Claim7.holds Tryd.pinned (.plain (OpenSpec.upto batchCutsSpec)) batchCutsUptoCard

/-- THE SECOND FORM's CARD OF 'lighteragelaw19.BatchBounds'. -/
def batchBoundsUptoCard : Claim7 := { stood := { row := batchBoundsUptoRow, standIns := [], harness := (true, "decd67d2235603f20f639cd1b5d98d0c367e6dc197ac03a467a43e6a366192e3"), looks := false }, kinds := [], alts := [], laidByText := true, laidKinds := [.data, .pinned], laidTests := true, laidLooks := .later }
def BatchBoundsUptoCardSaid : Prop := Claim7.holds Tryd.pinned (.plain (OpenSpec.upto batchBoundsSpec)) batchBoundsUptoCard

/-- THE SECOND FORM's CARD OF 'lighteragelaw19.BatchMakes'. -/
def batchMakesUptoCard : Claim7 := { stood := { row := batchMakesUptoRow, standIns := [], harness := (true, "decd67d2235603f20f639cd1b5d98d0c367e6dc197ac03a467a43e6a366192e3"), looks := false }, kinds := [], alts := [], laidByText := true, laidKinds := [.data, .pinned], laidTests := true, laidLooks := .later }
def BatchMakesUptoCardSaid : Prop := Claim7.holds Tryd.pinned (.plain (OpenSpec.upto batchMakesSpec)) batchMakesUptoCard

/-- THE SECOND FORM's CARD OF 'lighteragelaw17.PackFilters'. -/
def packFiltersUptoCard : Claim7 := { stood := { row := packFiltersUptoRow, standIns := [], harness := (true, "decd67d2235603f20f639cd1b5d98d0c367e6dc197ac03a467a43e6a366192e3"), looks := false }, kinds := [], alts := [], laidByText := true, laidKinds := [.data, .pinned], laidTests := true, laidLooks := .later }
def PackFiltersUptoCardSaid : Prop := Claim7.holds Tryd.pinned (.plain (OpenSpec.upto packFiltersSpec)) packFiltersUptoCard

/-- THE SECOND FORM's CARD OF 'lighteragelaw17.PackUpdates'. -/
def packUpdatesUptoCard : Claim7 := { stood := { row := packUpdatesUptoRow, standIns := [], harness := (true, "decd67d2235603f20f639cd1b5d98d0c367e6dc197ac03a467a43e6a366192e3"), looks := false }, kinds := [], alts := [], laidByText := true, laidKinds := [.data, .pinned], laidTests := true, laidLooks := .later }
def PackUpdatesUptoCardSaid : Prop := Claim7.holds Tryd.pinned (.plain (OpenSpec.upto packUpdatesSpec)) packUpdatesUptoCard
end Rows
end Go.Proofs.YtanflgipdiogaaaDoor
