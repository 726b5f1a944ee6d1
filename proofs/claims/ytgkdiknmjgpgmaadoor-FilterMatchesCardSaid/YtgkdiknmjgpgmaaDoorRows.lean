/-
  NARROWER THAN 'FOR EVERY INPUT', by the rows' own cells (each row's printed sentence says how): UpdateMatches: laid · UpdateViews: laid · UpdateWins: laid · UpdateChecks: laid · FilterChecks: laid · FilterMatches: laid.
  DERIVED. THE GIVEN ROWS OF THIS SEAT. 6 by the template 'for every input the law returns true; each argument reads behind the call as it read before'; 0 by the template 'total and deterministic' (their statements: YtgkdiknmjgpgmaaDoorTotals.lean).
  GIVEN WITH THE SEED: the statements are not yours to turn. If you find one false, say at which input.
  Laid BY PROGRAM, IN A SANDBOX (cutbox-rows.mjs): the forced cells as the released guide's own fill.sh prints them over the translation fa2b5b2ac19a5af5… (all of the seat's roots in one cut). By AI agents, Wed Nov 11 2026. No macro, syntax, notation, axiom, sorry.
-/
import Derived.Test.YtgkdiknmjgpgmaaDoorChecked
import GoSem.PinnedTables
import GoSem.Claim
import GoSem.ClaimJoined
import GoSem.ClaimMapViews
import Derived.JoinedTies
import Derived.KernelRfl
namespace Go.Proofs.YtgkdiknmjgpgmaaDoor
/- THE CELL 'sum', in the pinned program and in every row, IS THE sha256 OF THE DUMP (.gsa) THAT YtgkdiknmjgpgmaaDoorProg.lean LOADS. Nothing in Lean hashes anything: it is a label: what it is worth is what the hold of that sum in a sandbox is worth. -/
noncomputable def Tryd.pinned : Pinned := { name := "ytgkdiknmjgpgmaadoor", sum := "fa2b5b2ac19a5af50b11a82e4625344f027067c2269dd7098d2f5ae1f2872719", checked := Tryd.checked }
namespace Rows
def none {H : Type} : Left H := { results := [], args := [] }

/- WHAT THE LISTED PACKAGE-LEVEL VARIABLES READ AS WHEN THE CALL BEGINS. Each datum BY PROGRAM (the guide's laid-datum.mjs) off the statement by which the dump's own 'gosem.cut.vars' lays the variable. In a bare row this is a premise. The card (YtgkdiknmjgpgmaaDoorCards.lean) ties it to the program's text. -/
def laid_unicode_utf8_acceptRanges {H : Type} : DataW H := .agg [.agg [.lit (.int .u8 128), .lit (.int .u8 191)], .agg [.lit (.int .u8 160), .lit (.int .u8 191)], .agg [.lit (.int .u8 128), .lit (.int .u8 159)], .agg [.lit (.int .u8 144), .lit (.int .u8 191)], .agg [.lit (.int .u8 128), .lit (.int .u8 143)], .agg [.lit (.int .u8 0), .lit (.int .u8 0)], .agg [.lit (.int .u8 0), .lit (.int .u8 0)], .agg [.lit (.int .u8 0), .lit (.int .u8 0)], .agg [.lit (.int .u8 0), .lit (.int .u8 0)], .agg [.lit (.int .u8 0), .lit (.int .u8 0)], .agg [.lit (.int .u8 0), .lit (.int .u8 0)], .agg [.lit (.int .u8 0), .lit (.int .u8 0)], .agg [.lit (.int .u8 0), .lit (.int .u8 0)], .agg [.lit (.int .u8 0), .lit (.int .u8 0)], .agg [.lit (.int .u8 0), .lit (.int .u8 0)], .agg [.lit (.int .u8 0), .lit (.int .u8 0)]]
/-- One of Go's own tables, pinned by name: the form's constant. -/
def laid_unicode_utf8_first : DataW Unit := Go.Pinned.utf8First

/-- 'lighteragelaw16.UpdateMatches': WHATEVER THE INPUT: true; the input reads as it did. -/
def updateMatchesSpec : ChangeSpec := { name := "updateMatches", fn := fun _ => fun
  | [d1, d2] => { results := [.lit (.bool true)], args := [d1, d2] }
  | _ => none }
def updateMatchesRow : OpenClaim := { program := "ytgkdiknmjgpgmaadoor", sum := "fa2b5b2ac19a5af50b11a82e4625344f027067c2269dd7098d2f5ae1f2872719", func := "lighterage/lighteragelaw16.UpdateMatches", spec := "updateMatches", inPlace := ["internal/bytealg.CountString", "internal/bytealg.IndexByteString", "internal/bytealg.IndexString"], unfollowed := true, recurses := true, named := ["unicode/utf8.first", "unicode/utf8.acceptRanges", "internal/bytealg.MaxLen"], apart := false, laid := [("unicode/utf8.acceptRanges", laid_unicode_utf8_acceptRanges), ("unicode/utf8.first", laid_unicode_utf8_first)] }
def UpdateMatchesSaid : Prop := updateMatchesRow.holds Tryd.pinned (OpenSpec.ofChange updateMatchesSpec)

/-- ITS FALSE NEIGHBOUR: 'it returns false'. Refute it at one input. -/
def updateMatchesWrong : ChangeSpec := { name := "updateMatches", fn := fun _ => fun
  | [d1, d2] => { results := [.lit (.bool false)], args := [d1, d2] }
  | _ => none }
def UpdateMatchesWrongFalsely : Prop := updateMatchesRow.holds Tryd.pinned (OpenSpec.ofChange updateMatchesWrong)

/-- 'lighteragelaw16.UpdateViews': WHATEVER THE INPUT: true; the input reads as it did. -/
def updateViewsSpec : ChangeSpec := { name := "updateViews", fn := fun _ => fun
  | [d1, d2, d3] => { results := [.lit (.bool true)], args := [d1, d2, d3] }
  | _ => none }
def updateViewsRow : OpenClaim := { program := "ytgkdiknmjgpgmaadoor", sum := "fa2b5b2ac19a5af50b11a82e4625344f027067c2269dd7098d2f5ae1f2872719", func := "lighterage/lighteragelaw16.UpdateViews", spec := "updateViews", inPlace := ["internal/bytealg.CountString", "internal/bytealg.IndexByteString", "internal/bytealg.IndexString"], unfollowed := true, recurses := true, named := ["unicode/utf8.first", "unicode/utf8.acceptRanges", "internal/bytealg.MaxLen"], apart := false, laid := [("unicode/utf8.acceptRanges", laid_unicode_utf8_acceptRanges), ("unicode/utf8.first", laid_unicode_utf8_first)] }
def UpdateViewsSaid : Prop := updateViewsRow.holds Tryd.pinned (OpenSpec.ofChange updateViewsSpec)

/-- ITS FALSE NEIGHBOUR: 'it returns false'. Refute it at one input. -/
def updateViewsWrong : ChangeSpec := { name := "updateViews", fn := fun _ => fun
  | [d1, d2, d3] => { results := [.lit (.bool false)], args := [d1, d2, d3] }
  | _ => none }
def UpdateViewsWrongFalsely : Prop := updateViewsRow.holds Tryd.pinned (OpenSpec.ofChange updateViewsWrong)

/-- 'lighteragelaw16.UpdateWins': WHATEVER THE INPUT: true; the input reads as it did. -/
def updateWinsSpec : ChangeSpec := { name := "updateWins", fn := fun _ => fun
  | [d1, d2, d3] => { results := [.lit (.bool true)], args := [d1, d2, d3] }
  | _ => none }
def updateWinsRow : OpenClaim := { program := "ytgkdiknmjgpgmaadoor", sum := "fa2b5b2ac19a5af50b11a82e4625344f027067c2269dd7098d2f5ae1f2872719", func := "lighterage/lighteragelaw16.UpdateWins", spec := "updateWins", inPlace := ["internal/bytealg.CountString", "internal/bytealg.IndexByteString", "internal/bytealg.IndexString"], unfollowed := true, recurses := true, named := ["unicode/utf8.first", "unicode/utf8.acceptRanges", "internal/bytealg.MaxLen"], apart := false, laid := [("unicode/utf8.acceptRanges", laid_unicode_utf8_acceptRanges), ("unicode/utf8.first", laid_unicode_utf8_first)] }
def UpdateWinsSaid : Prop := updateWinsRow.holds Tryd.pinned (OpenSpec.ofChange updateWinsSpec)

/-- ITS FALSE NEIGHBOUR: 'it returns false'. Refute it at one input. -/
def updateWinsWrong : ChangeSpec := { name := "updateWins", fn := fun _ => fun
  | [d1, d2, d3] => { results := [.lit (.bool false)], args := [d1, d2, d3] }
  | _ => none }
def UpdateWinsWrongFalsely : Prop := updateWinsRow.holds Tryd.pinned (OpenSpec.ofChange updateWinsWrong)

/-- 'lighteragelaw16.UpdateChecks': WHATEVER THE INPUT: true; the input reads as it did. -/
def updateChecksSpec : ChangeSpec := { name := "updateChecks", fn := fun _ => fun
  | [d1, d2] => { results := [.lit (.bool true)], args := [d1, d2] }
  | _ => none }
def updateChecksRow : OpenClaim := { program := "ytgkdiknmjgpgmaadoor", sum := "fa2b5b2ac19a5af50b11a82e4625344f027067c2269dd7098d2f5ae1f2872719", func := "lighterage/lighteragelaw16.UpdateChecks", spec := "updateChecks", inPlace := ["internal/bytealg.CountString", "internal/bytealg.IndexByteString", "internal/bytealg.IndexString"], unfollowed := true, recurses := true, named := ["unicode/utf8.first", "unicode/utf8.acceptRanges", "internal/bytealg.MaxLen"], apart := false, laid := [("unicode/utf8.acceptRanges", laid_unicode_utf8_acceptRanges), ("unicode/utf8.first", laid_unicode_utf8_first)] }
def UpdateChecksSaid : Prop := updateChecksRow.holds Tryd.pinned (OpenSpec.ofChange updateChecksSpec)

/-- ITS FALSE NEIGHBOUR: 'it returns false'. Refute it at one input. -/
def updateChecksWrong : ChangeSpec := { name := "updateChecks", fn := fun _ => fun
  | [d1, d2] => { results := [.lit (.bool false)], args := [d1, d2] }
  | _ => none }
def UpdateChecksWrongFalsely : Prop := updateChecksRow.holds Tryd.pinned (OpenSpec.ofChange updateChecksWrong)

/-- 'lighteragelaw09.FilterChecks': WHATEVER THE INPUT: true; the input reads as it did. -/
def filterChecksSpec : ChangeSpec := { name := "filterChecks", fn := fun _ => fun
  | [d] => { results := [.lit (.bool true)], args := [d] }
  | _ => none }
def filterChecksRow : OpenClaim := { program := "ytgkdiknmjgpgmaadoor", sum := "fa2b5b2ac19a5af50b11a82e4625344f027067c2269dd7098d2f5ae1f2872719", func := "lighterage/lighteragelaw09.FilterChecks", spec := "filterChecks", inPlace := ["internal/bytealg.CountString", "internal/bytealg.IndexByteString", "internal/bytealg.IndexString"], unfollowed := true, recurses := true, named := ["unicode/utf8.first", "unicode/utf8.acceptRanges", "internal/bytealg.MaxLen"], apart := false, laid := [("unicode/utf8.acceptRanges", laid_unicode_utf8_acceptRanges), ("unicode/utf8.first", laid_unicode_utf8_first)] }
def FilterChecksSaid : Prop := filterChecksRow.holds Tryd.pinned (OpenSpec.ofChange filterChecksSpec)

/-- ITS FALSE NEIGHBOUR: 'it returns false'. Refute it at one input. -/
def filterChecksWrong : ChangeSpec := { name := "filterChecks", fn := fun _ => fun
  | [d] => { results := [.lit (.bool false)], args := [d] }
  | _ => none }
def FilterChecksWrongFalsely : Prop := filterChecksRow.holds Tryd.pinned (OpenSpec.ofChange filterChecksWrong)

/-- 'lighteragelaw09.FilterMatches': WHATEVER THE INPUT: true; the input reads as it did. -/
def filterMatchesSpec : ChangeSpec := { name := "filterMatches", fn := fun _ => fun
  | [d1, d2] => { results := [.lit (.bool true)], args := [d1, d2] }
  | _ => none }
def filterMatchesRow : OpenClaim := { program := "ytgkdiknmjgpgmaadoor", sum := "fa2b5b2ac19a5af50b11a82e4625344f027067c2269dd7098d2f5ae1f2872719", func := "lighterage/lighteragelaw09.FilterMatches", spec := "filterMatches", inPlace := ["internal/bytealg.CountString", "internal/bytealg.IndexByteString", "internal/bytealg.IndexString"], unfollowed := true, recurses := true, named := ["unicode/utf8.first", "unicode/utf8.acceptRanges", "internal/bytealg.MaxLen"], apart := false, laid := [("unicode/utf8.acceptRanges", laid_unicode_utf8_acceptRanges), ("unicode/utf8.first", laid_unicode_utf8_first)] }
def FilterMatchesSaid : Prop := filterMatchesRow.holds Tryd.pinned (OpenSpec.ofChange filterMatchesSpec)

/-- ITS FALSE NEIGHBOUR: 'it returns false'. Refute it at one input. -/
def filterMatchesWrong : ChangeSpec := { name := "filterMatches", fn := fun _ => fun
  | [d1, d2] => { results := [.lit (.bool false)], args := [d1, d2] }
  | _ => none }
def FilterMatchesWrongFalsely : Prop := filterMatchesRow.holds Tryd.pinned (OpenSpec.ofChange filterMatchesWrong)

/- THE SECOND FORM. 'bulk': how many values and letters a reading holds, each counted each time it is reached (what is shared counts as often as it is met; a slice's spare places count too). A statement '..UptoSaid' is the law's where the arguments, and the package variables that the reading takes, are together of bulk at most 1048576: NARROWER than '..Said'. Prove '..Said' where nothing that the law and all that it calls make is longer than what came in: it says more and counts as full. Else prove '..UptoSaid'. A law counts once. -/
mutual
def uptoBulk {H : Type} : DataW H → Nat
  | .lit (.string bytes) => bytes.length + 1
  | .lit _ => 1
  | .nil => 1
  | .ptr d => uptoBulk d + 1
  | .slice elems spare => uptoBulkAll elems + uptoBulkAll spare + 1
  | .agg parts => uptoBulkAll parts + 1
  | .iface _ d => uptoBulk d + 1
  | .map entries => uptoBulkEntries entries + 1
  | .held _ => 1
def uptoBulkAll {H : Type} : List (DataW H) → Nat
  | [] => 0
  | d :: r => uptoBulk d + uptoBulkAll r
def uptoBulkEntries {H : Type} : List (Lit × DataW H) → Nat
  | [] => 0
  | x :: r => uptoBulkEntry x + uptoBulkEntries r
def uptoBulkEntry {H : Type} : Lit × DataW H → Nat
  | (.string bytes, d) => bytes.length + uptoBulk d + 1
  | (_, d) => uptoBulk d + 1
 end
def uptoSmall : (H : Type) → List (DataW H) → Bool := fun _ ds => decide (uptoBulkAll ds ≤ 1048576)
def OpenSpec.upto (s : _root_.Go.ChangeSpec) : _root_.Go.OpenSpec := { _root_.Go.OpenSpec.ofChange s with cond := some uptoSmall }

/-- 'lighteragelaw16.UpdateMatches', WHERE WHAT IT READS IS OF BULK AT MOST 1048576: true; the input reads as it did. -/
def updateMatchesUptoRow : OpenClaim := { program := "ytgkdiknmjgpgmaadoor", sum := "fa2b5b2ac19a5af50b11a82e4625344f027067c2269dd7098d2f5ae1f2872719", func := "lighterage/lighteragelaw16.UpdateMatches", spec := "updateMatches", inPlace := ["internal/bytealg.CountString", "internal/bytealg.IndexByteString", "internal/bytealg.IndexString"], unfollowed := true, recurses := true, named := ["unicode/utf8.first", "unicode/utf8.acceptRanges", "internal/bytealg.MaxLen"], apart := false, laid := [("unicode/utf8.acceptRanges", laid_unicode_utf8_acceptRanges), ("unicode/utf8.first", laid_unicode_utf8_first)], narrowed := true }
def UpdateMatchesUptoSaid : Prop := updateMatchesUptoRow.holds Tryd.pinned (OpenSpec.upto updateMatchesSpec)

/-- 'lighteragelaw16.UpdateViews', WHERE WHAT IT READS IS OF BULK AT MOST 1048576: true; the input reads as it did. -/
def updateViewsUptoRow : OpenClaim := { program := "ytgkdiknmjgpgmaadoor", sum := "fa2b5b2ac19a5af50b11a82e4625344f027067c2269dd7098d2f5ae1f2872719", func := "lighterage/lighteragelaw16.UpdateViews", spec := "updateViews", inPlace := ["internal/bytealg.CountString", "internal/bytealg.IndexByteString", "internal/bytealg.IndexString"], unfollowed := true, recurses := true, named := ["unicode/utf8.first", "unicode/utf8.acceptRanges", "internal/bytealg.MaxLen"], apart := false, laid := [("unicode/utf8.acceptRanges", laid_unicode_utf8_acceptRanges), ("unicode/utf8.first", laid_unicode_utf8_first)], narrowed := true }
def UpdateViewsUptoSaid : Prop := updateViewsUptoRow.holds Tryd.pinned (OpenSpec.upto updateViewsSpec)

/-- 'lighteragelaw16.UpdateWins', WHERE WHAT IT READS IS OF BULK AT MOST 1048576: true; the input reads as it did. -/
def updateWinsUptoRow : OpenClaim := { program := "ytgkdiknmjgpgmaadoor", sum := "fa2b5b2ac19a5af50b11a82e4625344f027067c2269dd7098d2f5ae1f2872719", func := "lighterage/lighteragelaw16.UpdateWins", spec := "updateWins", inPlace := ["internal/bytealg.CountString", "internal/bytealg.IndexByteString", "internal/bytealg.IndexString"], unfollowed := true, recurses := true, named := ["unicode/utf8.first", "unicode/utf8.acceptRanges", "internal/bytealg.MaxLen"], apart := false, laid := [("unicode/utf8.acceptRanges", laid_unicode_utf8_acceptRanges), ("unicode/utf8.first", laid_unicode_utf8_first)], narrowed := true }
def UpdateWinsUptoSaid : Prop := updateWinsUptoRow.holds Tryd.pinned (OpenSpec.upto updateWinsSpec)

/-- 'lighteragelaw16.UpdateChecks', WHERE WHAT IT READS IS OF BULK AT MOST 1048576: true; the input reads as it did. -/
def updateChecksUptoRow : OpenClaim := { program := "ytgkdiknmjgpgmaadoor", sum := "fa2b5b2ac19a5af50b11a82e4625344f027067c2269dd7098d2f5ae1f2872719", func := "lighterage/lighteragelaw16.UpdateChecks", spec := "updateChecks", inPlace := ["internal/bytealg.CountString", "internal/bytealg.IndexByteString", "internal/bytealg.IndexString"], unfollowed := true, recurses := true, named := ["unicode/utf8.first", "unicode/utf8.acceptRanges", "internal/bytealg.MaxLen"], apart := false, laid := [("unicode/utf8.acceptRanges", laid_unicode_utf8_acceptRanges), ("unicode/utf8.first", laid_unicode_utf8_first)], narrowed := true }
def UpdateChecksUptoSaid : Prop := updateChecksUptoRow.holds Tryd.pinned (OpenSpec.upto updateChecksSpec)

/-- 'lighteragelaw09.FilterChecks', WHERE WHAT IT READS IS OF BULK AT MOST 1048576: true; the input reads as it did. -/
def filterChecksUptoRow : OpenClaim := { program := "ytgkdiknmjgpgmaadoor", sum := "fa2b5b2ac19a5af50b11a82e4625344f027067c2269dd7098d2f5ae1f2872719", func := "lighterage/lighteragelaw09.FilterChecks", spec := "filterChecks", inPlace := ["internal/bytealg.CountString", "internal/bytealg.IndexByteString", "internal/bytealg.IndexString"], unfollowed := true, recurses := true, named := ["unicode/utf8.first", "unicode/utf8.acceptRanges", "internal/bytealg.MaxLen"], apart := false, laid := [("unicode/utf8.acceptRanges", laid_unicode_utf8_acceptRanges), ("unicode/utf8.first", laid_unicode_utf8_first)], narrowed := true }
def FilterChecksUptoSaid : Prop := filterChecksUptoRow.holds Tryd.pinned (OpenSpec.upto filterChecksSpec)

/-- 'lighteragelaw09.FilterMatches', WHERE WHAT IT READS IS OF BULK AT MOST 1048576: true; the input reads as it did. -/
def filterMatchesUptoRow : OpenClaim := { program := "ytgkdiknmjgpgmaadoor", sum := "fa2b5b2ac19a5af50b11a82e4625344f027067c2269dd7098d2f5ae1f2872719", func := "lighterage/lighteragelaw09.FilterMatches", spec := "filterMatches", inPlace := ["internal/bytealg.CountString", "internal/bytealg.IndexByteString", "internal/bytealg.IndexString"], unfollowed := true, recurses := true, named := ["unicode/utf8.first", "unicode/utf8.acceptRanges", "internal/bytealg.MaxLen"], apart := false, laid := [("unicode/utf8.acceptRanges", laid_unicode_utf8_acceptRanges), ("unicode/utf8.first", laid_unicode_utf8_first)], narrowed := true }
def FilterMatchesUptoSaid : Prop := filterMatchesUptoRow.holds Tryd.pinned (OpenSpec.upto filterMatchesSpec)

end Rows
end Go.Proofs.YtgkdiknmjgpgmaaDoor
