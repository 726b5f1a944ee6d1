/-
  DERIVED. GIVEN WITH THE SEED: THE CARDS: each row of YtfoafookodldfaaDoorRows.lean that lists a variable, with what it lists TIED to the program's text (the seventh form; the later family's looks); each row that meets fmt, with fmt's text TOLD by the authors' own Lean function (tested against real Go, not proved from fmt's source: count such statements apart). THE CARD IS WHAT COUNTS. Prove the row's statement (the work); the ties are given (YtfoafookodldfaaDoorTie.lean); close each card by the builder's one call (the guide's Derived/Test/ToyasCard.lean, 'card_holds'). Laid BY PROGRAM, IN A SANDBOX (cutbox-door.mjs). By AI agents, Wed Nov 11 2026. No macro, syntax, notation, axiom, sorry.
-/
import Derived.Test.YtfoafookodldfaaDoorRows
import GoSem.ClaimSeven
namespace Go.Proofs.YtfoafookodldfaaDoor
namespace Rows

/-- THE TIED CARD OF 'lighteragelaw07.PathOrder'. -/
def pathOrderCard : Claim7 := { stood := { row := pathOrderRow, standIns := [], harness := (true, "c946b29584404771b3971de18c9bc31a7983e599128ee4c9759a10b4fbf28a1a"), looks := false }, kinds := [], alts := [], laidByText := true, laidKinds := [.data, .pinned], laidTests := true, laidLooks := .later }
def PathOrderCardSaid : Prop := Claim7.holds Tryd.pinned (.plain (OpenSpec.ofChange pathOrderSpec)) pathOrderCard

/-- THE TIED CARD OF 'lighteragelaw07.PathCovers'. -/
def pathCoversCard : Claim7 := { stood := { row := pathCoversRow, standIns := [], harness := (true, "c946b29584404771b3971de18c9bc31a7983e599128ee4c9759a10b4fbf28a1a"), looks := false }, kinds := [], alts := [], laidByText := true, laidKinds := [.data, .pinned], laidTests := true, laidLooks := .later }
def PathCoversCardSaid : Prop := Claim7.holds Tryd.pinned (.plain (OpenSpec.ofChange pathCoversSpec)) pathCoversCard

/-- THE TIED CARD OF 'lighteragelaw07.PathChecks'. -/
def pathChecksCard : Claim7 := { stood := { row := pathChecksRow, standIns := [], harness := (true, "c946b29584404771b3971de18c9bc31a7983e599128ee4c9759a10b4fbf28a1a"), looks := false }, kinds := [], alts := [], laidByText := true, laidKinds := [.data, .pinned], laidTests := true, laidLooks := .later }
def PathChecksCardSaid : Prop := Claim7.holds Tryd.pinned (.plain (OpenSpec.ofChange pathChecksSpec)) pathChecksCard

/-- THE TIED CARD OF 'lighteragelaw07.PathJoins'. -/
def pathJoinsCard : Claim7 := { stood := { row := pathJoinsRow, standIns := [], harness := (true, "c946b29584404771b3971de18c9bc31a7983e599128ee4c9759a10b4fbf28a1a"), looks := false }, kinds := [], alts := [], laidByText := true, laidKinds := [.data, .pinned], laidTests := true, laidLooks := .later }
def PathJoinsCardSaid : Prop := Claim7.holds Tryd.pinned (.plain (OpenSpec.ofChange pathJoinsSpec)) pathJoinsCard

/-- THE SECOND FORM's CARD OF 'lighteragelaw07.PathOrder'. -/
def pathOrderUptoCard : Claim7 := { stood := { row := pathOrderUptoRow, standIns := [], harness := (true, "c946b29584404771b3971de18c9bc31a7983e599128ee4c9759a10b4fbf28a1a"), looks := false }, kinds := [], alts := [], laidByText := true, laidKinds := [.data, .pinned], laidTests := true, laidLooks := .later }
def PathOrderUptoCardSaid : Prop := Claim7.holds Tryd.pinned (.plain (OpenSpec.upto pathOrderSpec)) pathOrderUptoCard

/-- THE SECOND FORM's CARD OF 'lighteragelaw07.PathCovers'. -/
def pathCoversUptoCard : Claim7 := { stood := { row := pathCoversUptoRow, standIns := [], harness := (true, "c946b29584404771b3971de18c9bc31a7983e599128ee4c9759a10b4fbf28a1a"), looks := false }, kinds := [], alts := [], laidByText := true, laidKinds := [.data, .pinned], laidTests := true, laidLooks := .later }
def PathCoversUptoCardSaid : Prop := Claim7.holds Tryd.pinned (.plain (OpenSpec.upto pathCoversSpec)) pathCoversUptoCard

/-- THE SECOND FORM's CARD OF 'lighteragelaw07.PathChecks'. -/
def pathChecksUptoCard : Claim7 := { stood := { row := pathChecksUptoRow, standIns := [], harness := (true, "c946b29584404771b3971de18c9bc31a7983e599128ee4c9759a10b4fbf28a1a"), looks := false }, kinds := [], alts := [], laidByText := true, laidKinds := [.data, .pinned], laidTests := true, laidLooks := .later }
def PathChecksUptoCardSaid : Prop := Claim7.holds Tryd.pinned (.plain (OpenSpec.upto pathChecksSpec)) pathChecksUptoCard

/-- THE SECOND FORM's CARD OF 'lighteragelaw07.PathJoins'. -/
def pathJoinsUptoCard : Claim7 := { stood := { row := pathJoinsUptoRow, standIns := [], harness := (true, "c946b29584404771b3971de18c9bc31a7983e599128ee4c9759a10b4fbf28a1a"), looks := false }, kinds := [], alts := [], laidByText := true, laidKinds := [.data, .pinned], laidTests := true, laidLooks := .later }
def PathJoinsUptoCardSaid : Prop := Claim7.holds Tryd.pinned (.plain (OpenSpec.upto pathJoinsSpec)) pathJoinsUptoCard
end Rows
end Go.Proofs.YtfoafookodldfaaDoor
