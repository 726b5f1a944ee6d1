/-
  DERIVED. GIVEN WITH THE SEED: THE CARDS: each row of YtealcpdbefbnaaaGreatDoorRows.lean that lists a variable, with what it lists TIED to the program's text (the seventh form; the later family's looks); each row that meets fmt, with fmt's text TOLD by the authors' own Lean function (tested against real Go, not proved from fmt's source: count such statements apart). THE CARD IS WHAT COUNTS. Prove the row's statement (the work); the ties are given (YtealcpdbefbnaaaGreatDoorTie.lean); close each card by the builder's one call (the guide's Derived/Test/ToyasCard.lean, 'card_holds'). Laid BY PROGRAM, IN A SANDBOX (cutbox-door.mjs). By AI agents, Wed Nov 11 2026. No macro, syntax, notation, axiom, sorry.
-/
import Derived.Test.YtealcpdbefbnaaaGreatDoorRows
import GoSem.ClaimSeven
namespace Go.Proofs.YtealcpdbefbnaaaGreatDoor
namespace Rows

/-- THE TIED CARD OF 'lighteragelaw28.TreeChecks'. -/
def treeChecksCard : Claim7 := { stood := { row := treeChecksRow, standIns := [], harness := (true, "6b2d6a02d009d82f17fe30300dc88735281e1d778b01332886f48138f06c243f"), looks := false }, kinds := [], alts := [], laidByText := true, laidKinds := [.data, .pinned], laidTests := true, laidLooks := .later }
def TreeChecksCardSaid : Prop := Claim7.holds Tryz.pinned (.plain (OpenSpec.ofChange treeChecksSpec)) treeChecksCard

/-- THE TIED CARD OF 'lighteragelaw28.TreeMay'. -/
def treeMayCard : Claim7 := { stood := { row := treeMayRow, standIns := [], harness := (true, "6b2d6a02d009d82f17fe30300dc88735281e1d778b01332886f48138f06c243f"), looks := false }, kinds := [], alts := [], laidByText := true, laidKinds := [.data, .pinned], laidTests := true, laidLooks := .later }
def TreeMayCardSaid : Prop := Claim7.holds Tryz.pinned (.plain (OpenSpec.ofChange treeMaySpec)) treeMayCard

/-- THE TIED CARD OF 'lighteragelaw28.TreeTells'. -/
def treeTellsCard : Claim7 := { stood := { row := treeTellsRow, standIns := [], harness := (true, "6b2d6a02d009d82f17fe30300dc88735281e1d778b01332886f48138f06c243f"), looks := false }, kinds := [], alts := [], laidByText := true, laidKinds := [.data, .pinned], laidTests := true, laidLooks := .later }
def TreeTellsCardSaid : Prop := Claim7.holds Tryz.pinned (.plain (OpenSpec.ofChange treeTellsSpec)) treeTellsCard

/-- THE SECOND FORM's CARD OF 'lighteragelaw28.TreeChecks'. -/
def treeChecksUptoCard : Claim7 := { stood := { row := treeChecksUptoRow, standIns := [], harness := (true, "6b2d6a02d009d82f17fe30300dc88735281e1d778b01332886f48138f06c243f"), looks := false }, kinds := [], alts := [], laidByText := true, laidKinds := [.data, .pinned], laidTests := true, laidLooks := .later }
def TreeChecksUptoCardSaid : Prop := Claim7.holds Tryz.pinned (.plain (OpenSpec.upto treeChecksSpec)) treeChecksUptoCard

/-- THE SECOND FORM's CARD OF 'lighteragelaw28.TreeMay'. -/
def treeMayUptoCard : Claim7 := { stood := { row := treeMayUptoRow, standIns := [], harness := (true, "6b2d6a02d009d82f17fe30300dc88735281e1d778b01332886f48138f06c243f"), looks := false }, kinds := [], alts := [], laidByText := true, laidKinds := [.data, .pinned], laidTests := true, laidLooks := .later }
def TreeMayUptoCardSaid : Prop := Claim7.holds Tryz.pinned (.plain (OpenSpec.upto treeMaySpec)) treeMayUptoCard

/-- THE SECOND FORM's CARD OF 'lighteragelaw28.TreeTells'. -/
def treeTellsUptoCard : Claim7 := { stood := { row := treeTellsUptoRow, standIns := [], harness := (true, "6b2d6a02d009d82f17fe30300dc88735281e1d778b01332886f48138f06c243f"), looks := false }, kinds := [], alts := [], laidByText := true, laidKinds := [.data, .pinned], laidTests := true, laidLooks := .later }
def TreeTellsUptoCardSaid : Prop := Claim7.holds Tryz.pinned (.plain (OpenSpec.upto treeTellsSpec)) treeTellsUptoCard
end Rows
end Go.Proofs.YtealcpdbefbnaaaGreatDoor
