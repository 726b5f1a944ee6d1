/-
  DERIVED. GIVEN WITH THE SEED: THE CARDS: each row of YtjnjamhohnnefaaGreatDoorRows.lean that lists a variable, with what it lists TIED to the program's text (the seventh form; the later family's looks); each row that meets fmt, with fmt's text TOLD by the authors' own Lean function (tested against real Go, not proved from fmt's source: count such statements apart). THE CARD IS WHAT COUNTS. Prove the row's statement (the work); the ties are given (YtjnjamhohnnefaaGreatDoorTie.lean); close each card by the builder's one call (the guide's Derived/Test/ToyasCard.lean, 'card_holds'). Laid BY PROGRAM, IN A SANDBOX (cutbox-door.mjs). By AI agents, Wed Nov 11 2026. No macro, syntax, notation, axiom, sorry.
-/
import Derived.Test.YtjnjamhohnnefaaGreatDoorRows
import GoSem.ClaimSeven
namespace Go.Proofs.YtjnjamhohnnefaaGreatDoor
namespace Rows

/-- THE TIED CARD OF 'lighteragelaw28.TreeChecks'. -/
def treeChecksCard : Claim7 := { stood := { row := treeChecksRow, standIns := [], harness := (true, "fb42ca605660c0b870b8a54b09c8433360c452bb6daaf883577e84550aa19d12"), looks := false }, kinds := [], alts := [], laidByText := true, laidKinds := [.data, .pinned], laidTests := true, laidLooks := .later }
def TreeChecksCardSaid : Prop := Claim7.holds Tryz.pinned (.plain (OpenSpec.ofChange treeChecksSpec)) treeChecksCard

/-- THE TIED CARD OF 'lighteragelaw28.TreeMay'. -/
def treeMayCard : Claim7 := { stood := { row := treeMayRow, standIns := [], harness := (true, "fb42ca605660c0b870b8a54b09c8433360c452bb6daaf883577e84550aa19d12"), looks := false }, kinds := [], alts := [], laidByText := true, laidKinds := [.data, .pinned], laidTests := true, laidLooks := .later }
def TreeMayCardSaid : Prop := Claim7.holds Tryz.pinned (.plain (OpenSpec.ofChange treeMaySpec)) treeMayCard

/-- THE TIED CARD OF 'lighteragelaw28.TreeTells'. -/
def treeTellsCard : Claim7 := { stood := { row := treeTellsRow, standIns := [], harness := (true, "fb42ca605660c0b870b8a54b09c8433360c452bb6daaf883577e84550aa19d12"), looks := false }, kinds := [], alts := [], laidByText := true, laidKinds := [.data, .pinned], laidTests := true, laidLooks := .later }
def TreeTellsCardSaid : Prop := Claim7.holds Tryz.pinned (.plain (OpenSpec.ofChange treeTellsSpec)) treeTellsCard

/-- THE TIED CARD OF 'lighteragelaw39.RouteWays'. -/
def routeWaysCard : Claim7 := { stood := { row := routeWaysRow, standIns := [], harness := (true, "fb42ca605660c0b870b8a54b09c8433360c452bb6daaf883577e84550aa19d12"), looks := false }, kinds := [], alts := [], laidByText := true, laidKinds := [.data, .pinned], laidTests := true, laidLooks := .later }
def RouteWaysCardSaid : Prop := Claim7.holds Tryz.pinned (.plain (OpenSpec.ofChange routeWaysSpec)) routeWaysCard

/-- THE TIED CARD OF 'lighteragelaw39.RouteEdges'. -/
def routeEdgesCard : Claim7 := { stood := { row := routeEdgesRow, standIns := [], harness := (true, "fb42ca605660c0b870b8a54b09c8433360c452bb6daaf883577e84550aa19d12"), looks := false }, kinds := [], alts := [], laidByText := true, laidKinds := [.data, .pinned], laidTests := true, laidLooks := .later }
def RouteEdgesCardSaid : Prop := Claim7.holds Tryz.pinned (.plain (OpenSpec.ofChange routeEdgesSpec)) routeEdgesCard

/-- THE TIED CARD OF 'lighteragelaw39.RouteShort'. -/
def routeShortCard : Claim7 := { stood := { row := routeShortRow, standIns := [], harness := (true, "fb42ca605660c0b870b8a54b09c8433360c452bb6daaf883577e84550aa19d12"), looks := false }, kinds := [], alts := [], laidByText := true, laidKinds := [.data, .pinned], laidTests := true, laidLooks := .later }
def RouteShortCardSaid : Prop := Claim7.holds Tryz.pinned (.plain (OpenSpec.ofChange routeShortSpec)) routeShortCard

/-- THE TIED CARD OF 'lighteragelaw39.RouteWants'. -/
def routeWantsCard : Claim7 := { stood := { row := routeWantsRow, standIns := [], harness := (true, "fb42ca605660c0b870b8a54b09c8433360c452bb6daaf883577e84550aa19d12"), looks := false }, kinds := [], alts := [], laidByText := true, laidKinds := [.data, .pinned], laidTests := true, laidLooks := .later }
def RouteWantsCardSaid : Prop := Claim7.holds Tryz.pinned (.plain (OpenSpec.ofChange routeWantsSpec)) routeWantsCard

/-- THE SECOND FORM's CARD OF 'lighteragelaw28.TreeChecks'. -/
def treeChecksUptoCard : Claim7 := { stood := { row := treeChecksUptoRow, standIns := [], harness := (true, "fb42ca605660c0b870b8a54b09c8433360c452bb6daaf883577e84550aa19d12"), looks := false }, kinds := [], alts := [], laidByText := true, laidKinds := [.data, .pinned], laidTests := true, laidLooks := .later }
def TreeChecksUptoCardSaid : Prop := Claim7.holds Tryz.pinned (.plain (OpenSpec.upto treeChecksSpec)) treeChecksUptoCard

/-- THE SECOND FORM's CARD OF 'lighteragelaw28.TreeMay'. -/
def treeMayUptoCard : Claim7 := { stood := { row := treeMayUptoRow, standIns := [], harness := (true, "fb42ca605660c0b870b8a54b09c8433360c452bb6daaf883577e84550aa19d12"), looks := false }, kinds := [], alts := [], laidByText := true, laidKinds := [.data, .pinned], laidTests := true, laidLooks := .later }
def TreeMayUptoCardSaid : Prop := Claim7.holds Tryz.pinned (.plain (OpenSpec.upto treeMaySpec)) treeMayUptoCard

/-- THE SECOND FORM's CARD OF 'lighteragelaw28.TreeTells'. -/
def treeTellsUptoCard : Claim7 := { stood := { row := treeTellsUptoRow, standIns := [], harness := (true, "fb42ca605660c0b870b8a54b09c8433360c452bb6daaf883577e84550aa19d12"), looks := false }, kinds := [], alts := [], laidByText := true, laidKinds := [.data, .pinned], laidTests := true, laidLooks := .later }
def TreeTellsUptoCardSaid : Prop := Claim7.holds Tryz.pinned (.plain (OpenSpec.upto treeTellsSpec)) treeTellsUptoCard

/-- THE SECOND FORM's CARD OF 'lighteragelaw39.RouteWays'. -/
def routeWaysUptoCard : Claim7 := { stood := { row := routeWaysUptoRow, standIns := [], harness := (true, "fb42ca605660c0b870b8a54b09c8433360c452bb6daaf883577e84550aa19d12"), looks := false }, kinds := [], alts := [], laidByText := true, laidKinds := [.data, .pinned], laidTests := true, laidLooks := .later }
def RouteWaysUptoCardSaid : Prop := Claim7.holds Tryz.pinned (.plain (OpenSpec.upto routeWaysSpec)) routeWaysUptoCard

/-- THE SECOND FORM's CARD OF 'lighteragelaw39.RouteEdges'. -/
def routeEdgesUptoCard : Claim7 := { stood := { row := routeEdgesUptoRow, standIns := [], harness := (true, "fb42ca605660c0b870b8a54b09c8433360c452bb6daaf883577e84550aa19d12"), looks := false }, kinds := [], alts := [], laidByText := true, laidKinds := [.data, .pinned], laidTests := true, laidLooks := .later }
def RouteEdgesUptoCardSaid : Prop := Claim7.holds Tryz.pinned (.plain (OpenSpec.upto routeEdgesSpec)) routeEdgesUptoCard

/-- THE SECOND FORM's CARD OF 'lighteragelaw39.RouteShort'. -/
def routeShortUptoCard : Claim7 := { stood := { row := routeShortUptoRow, standIns := [], harness := (true, "fb42ca605660c0b870b8a54b09c8433360c452bb6daaf883577e84550aa19d12"), looks := false }, kinds := [], alts := [], laidByText := true, laidKinds := [.data, .pinned], laidTests := true, laidLooks := .later }
def RouteShortUptoCardSaid : Prop := Claim7.holds Tryz.pinned (.plain (OpenSpec.upto routeShortSpec)) routeShortUptoCard

/-- THE SECOND FORM's CARD OF 'lighteragelaw39.RouteWants'. -/
def routeWantsUptoCard : Claim7 := { stood := { row := routeWantsUptoRow, standIns := [], harness := (true, "fb42ca605660c0b870b8a54b09c8433360c452bb6daaf883577e84550aa19d12"), looks := false }, kinds := [], alts := [], laidByText := true, laidKinds := [.data, .pinned], laidTests := true, laidLooks := .later }
def RouteWantsUptoCardSaid : Prop := Claim7.holds Tryz.pinned (.plain (OpenSpec.upto routeWantsSpec)) routeWantsUptoCard
end Rows
end Go.Proofs.YtjnjamhohnnefaaGreatDoor
