/-
  NARROWER THAN 'FOR EVERY INPUT', by the rows' own cells (each row's printed sentence says how): BatchCuts: laid · BatchBounds: laid · BatchMakes: laid · PackFilters: laid · PackUpdates: laid.
  DERIVED. THE GIVEN ROWS OF THIS SEAT. 5 by the template 'for every input the law returns true; each argument reads behind the call as it read before'; 0 by the template 'total and deterministic' (their statements: YtanflgipdiogaaaDoorTotals.lean).
  GIVEN WITH THE SEED: the statements are not yours to turn. If you find one false, say at which input.
  Laid BY PROGRAM, IN A SANDBOX (cutbox-rows.mjs): the forced cells as the released guide's own fill.sh prints them over the translation f6b5d709c8279f50… (all of the seat's roots in one cut). By AI agents, Wed Nov 11 2026. No macro, syntax, notation, axiom, sorry.
-/
import Derived.Test.YtanflgipdiogaaaDoorChecked
import GoSem.PinnedTables
import GoSem.Claim
import GoSem.ClaimJoined
import GoSem.ClaimMapViews
import Derived.JoinedTies
import Derived.KernelRfl
namespace Go.Proofs.YtanflgipdiogaaaDoor
/- THE CELL 'sum', in the pinned program and in every row, IS THE sha256 OF THE DUMP (.gsa) THAT YtanflgipdiogaaaDoorProg.lean LOADS. Nothing in Lean hashes anything: it is a label: what it is worth is what the hold of that sum in a sandbox is worth. -/
noncomputable def Tryd.pinned : Pinned := { name := "ytanflgipdiogaaadoor", sum := "f6b5d709c8279f509a5b3fe1a1af42282f1774f2e71c680f089ca0597f6b210e", checked := Tryd.checked }
namespace Rows
def none {H : Type} : Left H := { results := [], args := [] }

/- WHAT THE LISTED PACKAGE-LEVEL VARIABLES READ AS WHEN THE CALL BEGINS. Each datum BY PROGRAM (the guide's laid-datum.mjs) off the statement by which the dump's own 'gosem.cut.vars' lays the variable. In a bare row this is a premise. The card (YtanflgipdiogaaaDoorCards.lean) ties it to the program's text. -/
def laid_unicode_utf8_acceptRanges {H : Type} : DataW H := .agg [.agg [.lit (.int .u8 128), .lit (.int .u8 191)], .agg [.lit (.int .u8 160), .lit (.int .u8 191)], .agg [.lit (.int .u8 128), .lit (.int .u8 159)], .agg [.lit (.int .u8 144), .lit (.int .u8 191)], .agg [.lit (.int .u8 128), .lit (.int .u8 143)], .agg [.lit (.int .u8 0), .lit (.int .u8 0)], .agg [.lit (.int .u8 0), .lit (.int .u8 0)], .agg [.lit (.int .u8 0), .lit (.int .u8 0)], .agg [.lit (.int .u8 0), .lit (.int .u8 0)], .agg [.lit (.int .u8 0), .lit (.int .u8 0)], .agg [.lit (.int .u8 0), .lit (.int .u8 0)], .agg [.lit (.int .u8 0), .lit (.int .u8 0)], .agg [.lit (.int .u8 0), .lit (.int .u8 0)], .agg [.lit (.int .u8 0), .lit (.int .u8 0)], .agg [.lit (.int .u8 0), .lit (.int .u8 0)], .agg [.lit (.int .u8 0), .lit (.int .u8 0)]]
/-- One of Go's own tables, pinned by name: the form's constant. -/
def laid_unicode_utf8_first : DataW Unit := Go.Pinned.utf8First

/-- 'lighteragelaw19.BatchCuts': WHATEVER THE INPUT: true; the input reads as it did. -/
def batchCutsSpec : ChangeSpec := { name := "batchCuts", fn := fun _ => fun
  | [d1, d2] => { results := [.lit (.bool true)], args := [d1, d2] }
  | _ => none }
def batchCutsRow : OpenClaim := { program := "ytanflgipdiogaaadoor", sum := "f6b5d709c8279f509a5b3fe1a1af42282f1774f2e71c680f089ca0597f6b210e", func := "lighterage/lighteragelaw19.BatchCuts", spec := "batchCuts", inPlace := ["internal/bytealg.CountString", "internal/bytealg.IndexByteString", "internal/bytealg.IndexString"], unfollowed := true, recurses := true, named := ["unicode/utf8.first", "unicode/utf8.acceptRanges", "internal/bytealg.MaxLen"], apart := false, laid := [("unicode/utf8.acceptRanges", laid_unicode_utf8_acceptRanges), ("unicode/utf8.first", laid_unicode_utf8_first)] }
def BatchCutsSaid : Prop := batchCutsRow.holds Tryd.pinned (OpenSpec.ofChange batchCutsSpec)

/-- ITS FALSE NEIGHBOUR: 'it returns false'. Refute it at one input. -/
def batchCutsWrong : ChangeSpec := { name := "batchCuts", fn := fun _ => fun
  | [d1, d2] => { results := [.lit (.bool false)], args := [d1, d2] }
  | _ => none }
def BatchCutsWrongFalsely : Prop := batchCutsRow.holds Tryd.pinned (OpenSpec.ofChange batchCutsWrong)

/-- 'lighteragelaw19.BatchBounds': WHATEVER THE INPUT: true; the input reads as it did. -/
def batchBoundsSpec : ChangeSpec := { name := "batchBounds", fn := fun _ => fun
  | [d1, d2] => { results := [.lit (.bool true)], args := [d1, d2] }
  | _ => none }
def batchBoundsRow : OpenClaim := { program := "ytanflgipdiogaaadoor", sum := "f6b5d709c8279f509a5b3fe1a1af42282f1774f2e71c680f089ca0597f6b210e", func := "lighterage/lighteragelaw19.BatchBounds", spec := "batchBounds", inPlace := ["internal/bytealg.CountString", "internal/bytealg.IndexByteString", "internal/bytealg.IndexString"], unfollowed := true, recurses := true, named := ["unicode/utf8.first", "unicode/utf8.acceptRanges", "internal/bytealg.MaxLen"], apart := false, laid := [("unicode/utf8.acceptRanges", laid_unicode_utf8_acceptRanges), ("unicode/utf8.first", laid_unicode_utf8_first)] }
def BatchBoundsSaid : Prop := batchBoundsRow.holds Tryd.pinned (OpenSpec.ofChange batchBoundsSpec)

/-- ITS FALSE NEIGHBOUR: 'it returns false'. Refute it at one input. -/
def batchBoundsWrong : ChangeSpec := { name := "batchBounds", fn := fun _ => fun
  | [d1, d2] => { results := [.lit (.bool false)], args := [d1, d2] }
  | _ => none }
def BatchBoundsWrongFalsely : Prop := batchBoundsRow.holds Tryd.pinned (OpenSpec.ofChange batchBoundsWrong)

/-- 'lighteragelaw19.BatchMakes': WHATEVER THE INPUT: true; the input reads as it did. -/
def batchMakesSpec : ChangeSpec := { name := "batchMakes", fn := fun _ => fun
  | [d1, d2, d3] => { results := [.lit (.bool true)], args := [d1, d2, d3] }
  | _ => none }
def batchMakesRow : OpenClaim := { program := "ytanflgipdiogaaadoor", sum := "f6b5d709c8279f509a5b3fe1a1af42282f1774f2e71c680f089ca0597f6b210e", func := "lighterage/lighteragelaw19.BatchMakes", spec := "batchMakes", inPlace := ["internal/bytealg.CountString", "internal/bytealg.IndexByteString", "internal/bytealg.IndexString"], unfollowed := true, recurses := true, named := ["unicode/utf8.first", "unicode/utf8.acceptRanges", "internal/bytealg.MaxLen"], apart := false, laid := [("unicode/utf8.acceptRanges", laid_unicode_utf8_acceptRanges), ("unicode/utf8.first", laid_unicode_utf8_first)] }
def BatchMakesSaid : Prop := batchMakesRow.holds Tryd.pinned (OpenSpec.ofChange batchMakesSpec)

/-- ITS FALSE NEIGHBOUR: 'it returns false'. Refute it at one input. -/
def batchMakesWrong : ChangeSpec := { name := "batchMakes", fn := fun _ => fun
  | [d1, d2, d3] => { results := [.lit (.bool false)], args := [d1, d2, d3] }
  | _ => none }
def BatchMakesWrongFalsely : Prop := batchMakesRow.holds Tryd.pinned (OpenSpec.ofChange batchMakesWrong)

/-- 'lighteragelaw17.PackFilters': WHATEVER THE INPUT: true; the input reads as it did. -/
def packFiltersSpec : ChangeSpec := { name := "packFilters", fn := fun _ => fun
  | [d1, d2] => { results := [.lit (.bool true)], args := [d1, d2] }
  | _ => none }
def packFiltersRow : OpenClaim := { program := "ytanflgipdiogaaadoor", sum := "f6b5d709c8279f509a5b3fe1a1af42282f1774f2e71c680f089ca0597f6b210e", func := "lighterage/lighteragelaw17.PackFilters", spec := "packFilters", inPlace := ["internal/bytealg.CountString", "internal/bytealg.IndexByteString", "internal/bytealg.IndexString"], unfollowed := true, recurses := true, named := ["unicode/utf8.first", "unicode/utf8.acceptRanges", "internal/bytealg.MaxLen"], apart := false, laid := [("unicode/utf8.acceptRanges", laid_unicode_utf8_acceptRanges), ("unicode/utf8.first", laid_unicode_utf8_first)] }
def PackFiltersSaid : Prop := packFiltersRow.holds Tryd.pinned (OpenSpec.ofChange packFiltersSpec)

/-- ITS FALSE NEIGHBOUR: 'it returns false'. Refute it at one input. -/
def packFiltersWrong : ChangeSpec := { name := "packFilters", fn := fun _ => fun
  | [d1, d2] => { results := [.lit (.bool false)], args := [d1, d2] }
  | _ => none }
def PackFiltersWrongFalsely : Prop := packFiltersRow.holds Tryd.pinned (OpenSpec.ofChange packFiltersWrong)

/-- 'lighteragelaw17.PackUpdates': WHATEVER THE INPUT: true; the input reads as it did. -/
def packUpdatesSpec : ChangeSpec := { name := "packUpdates", fn := fun _ => fun
  | [d1, d2, d3] => { results := [.lit (.bool true)], args := [d1, d2, d3] }
  | _ => none }
def packUpdatesRow : OpenClaim := { program := "ytanflgipdiogaaadoor", sum := "f6b5d709c8279f509a5b3fe1a1af42282f1774f2e71c680f089ca0597f6b210e", func := "lighterage/lighteragelaw17.PackUpdates", spec := "packUpdates", inPlace := ["internal/bytealg.CountString", "internal/bytealg.IndexByteString", "internal/bytealg.IndexString"], unfollowed := true, recurses := true, named := ["unicode/utf8.first", "unicode/utf8.acceptRanges", "internal/bytealg.MaxLen"], apart := false, laid := [("unicode/utf8.acceptRanges", laid_unicode_utf8_acceptRanges), ("unicode/utf8.first", laid_unicode_utf8_first)] }
def PackUpdatesSaid : Prop := packUpdatesRow.holds Tryd.pinned (OpenSpec.ofChange packUpdatesSpec)

/-- ITS FALSE NEIGHBOUR: 'it returns false'. Refute it at one input. -/
def packUpdatesWrong : ChangeSpec := { name := "packUpdates", fn := fun _ => fun
  | [d1, d2, d3] => { results := [.lit (.bool false)], args := [d1, d2, d3] }
  | _ => none }
def PackUpdatesWrongFalsely : Prop := packUpdatesRow.holds Tryd.pinned (OpenSpec.ofChange packUpdatesWrong)

/- THE SECOND FORM. 'bulk': how many values and letters a reading holds, each counted each time it is reached (what is shared counts as often as it is met; a slice's spare places count too). A statement '..UptoSaid' is the law's where the arguments, and the package variables that the reading takes, are together of bulk at most 1048576: NARROWER than '..Said'. Prove '..Said' where nothing that the law and all that it calls make is longer than what came in: it says more and counts as full. Else prove '..UptoSaid'. A law counts once. -/
mutual
def uptoBulk {H : Type} : DataW H → Nat
  | .lit (.string bytes) => bytes.length + 1
  | .lit _ => 1
  | .nil => 1
  | .ptr d => uptoBulk d + 1
  | .slice elems spare => uptoBulkAll elems + uptoBulkAll spare + 1
  | .agg parts => uptoBulkAll parts + 1
  | .iface _ d => uptoBulk d + 1
  | .map entries => uptoBulkEntries entries + 1
  | .held _ => 1
def uptoBulkAll {H : Type} : List (DataW H) → Nat
  | [] => 0
  | d :: r => uptoBulk d + uptoBulkAll r
def uptoBulkEntries {H : Type} : List (Lit × DataW H) → Nat
  | [] => 0
  | x :: r => uptoBulkEntry x + uptoBulkEntries r
def uptoBulkEntry {H : Type} : Lit × DataW H → Nat
  | (.string bytes, d) => bytes.length + uptoBulk d + 1
  | (_, d) => uptoBulk d + 1
 end
def uptoSmall : (H : Type) → List (DataW H) → Bool := fun _ ds => decide (uptoBulkAll ds ≤ 1048576)
def OpenSpec.upto (s : _root_.Go.ChangeSpec) : _root_.Go.OpenSpec := { _root_.Go.OpenSpec.ofChange s with cond := some uptoSmall }

/-- 'lighteragelaw19.BatchCuts', WHERE WHAT IT READS IS OF BULK AT MOST 1048576: true; the input reads as it did. -/
def batchCutsUptoRow : OpenClaim := { program := "ytanflgipdiogaaadoor", sum := "f6b5d709c8279f509a5b3fe1a1af42282f1774f2e71c680f089ca0597f6b210e", func := "lighterage/lighteragelaw19.BatchCuts", spec := "batchCuts", inPlace := ["internal/bytealg.CountString", "internal/bytealg.IndexByteString", "internal/bytealg.IndexString"], unfollowed := true, recurses := true, named := ["unicode/utf8.first", "unicode/utf8.acceptRanges", "internal/bytealg.MaxLen"], apart := false, laid := [("unicode/utf8.acceptRanges", laid_unicode_utf8_acceptRanges), ("unicode/utf8.first", laid_unicode_utf8_first)], narrowed := true }
def BatchCutsUptoSaid : Prop := batchCutsUptoRow.holds Tryd.pinned (OpenSpec.upto batchCutsSpec)

/-- 'lighteragelaw19.BatchBounds', WHERE WHAT IT READS IS OF BULK AT MOST 1048576: true; the input reads as it did. -/
def batchBoundsUptoRow : OpenClaim := { program := "ytanflgipdiogaaadoor", sum := "f6b5d709c8279f509a5b3fe1a1af42282f1774f2e71c680f089ca0597f6b210e", func := "lighterage/lighteragelaw19.BatchBounds", spec := "batchBounds", inPlace := ["internal/bytealg.CountString", "internal/bytealg.IndexByteString", "internal/bytealg.IndexString"], unfollowed := true, recurses := true, named := ["unicode/utf8.first", "unicode/utf8.acceptRanges", "internal/bytealg.MaxLen"], apart := false, laid := [("unicode/utf8.acceptRanges", laid_unicode_utf8_acceptRanges), ("unicode/utf8.first", laid_unicode_utf8_first)], narrowed := true }
def BatchBoundsUptoSaid : Prop := batchBoundsUptoRow.holds Tryd.pinned (OpenSpec.upto batchBoundsSpec)

/-- 'lighteragelaw19.BatchMakes', WHERE WHAT IT READS IS OF BULK AT MOST 1048576: true; the input reads as it did. -/
def batchMakesUptoRow : OpenClaim := { program := "ytanflgipdiogaaadoor", sum := "f6b5d709c8279f509a5b3fe1a1af42282f1774f2e71c680f089ca0597f6b210e", func := "lighterage/lighteragelaw19.BatchMakes", spec := "batchMakes", inPlace := ["internal/bytealg.CountString", "internal/bytealg.IndexByteString", "internal/bytealg.IndexString"], unfollowed := true, recurses := true, named := ["unicode/utf8.first", "unicode/utf8.acceptRanges", "internal/bytealg.MaxLen"], apart := false, laid := [("unicode/utf8.acceptRanges", laid_unicode_utf8_acceptRanges), ("unicode/utf8.first", laid_unicode_utf8_first)], narrowed := true }
def BatchMakesUptoSaid : Prop := batchMakesUptoRow.holds Tryd.pinned (OpenSpec.upto batchMakesSpec)

/-- 'lighteragelaw17.PackFilters', WHERE WHAT IT READS IS OF BULK AT MOST 1048576: true; the input reads as it did. -/
def packFiltersUptoRow : OpenClaim := { program := "ytanflgipdiogaaadoor", sum := "f6b5d709c8279f509a5b3fe1a1af42282f1774f2e71c680f089ca0597f6b210e", func := "lighterage/lighteragelaw17.PackFilters", spec := "packFilters", inPlace := ["internal/bytealg.CountString", "internal/bytealg.IndexByteString", "internal/bytealg.IndexString"], unfollowed := true, recurses := true, named := ["unicode/utf8.first", "unicode/utf8.acceptRanges", "internal/bytealg.MaxLen"], apart := false, laid := [("unicode/utf8.acceptRanges", laid_unicode_utf8_acceptRanges), ("unicode/utf8.first", laid_unicode_utf8_first)], narrowed := true }
def PackFiltersUptoSaid : Prop := packFiltersUptoRow.holds Tryd.pinned (OpenSpec.upto packFiltersSpec)

/-- 'lighteragelaw17.PackUpdates', WHERE WHAT IT READS IS OF BULK AT MOST 1048576: true; the input reads as it did. -/
def packUpdatesUptoRow : OpenClaim := { program := "ytanflgipdiogaaadoor", sum := "f6b5d709c8279f509a5b3fe1a1af42282f1774f2e71c680f089ca0597f6b210e", func := "lighterage/lighteragelaw17.PackUpdates", spec := "packUpdates", inPlace := ["internal/bytealg.CountString", "internal/bytealg.IndexByteString", "internal/bytealg.IndexString"], unfollowed := true, recurses := true, named := ["unicode/utf8.first", "unicode/utf8.acceptRanges", "internal/bytealg.MaxLen"], apart := false, laid := [("unicode/utf8.acceptRanges", laid_unicode_utf8_acceptRanges), ("unicode/utf8.first", laid_unicode_utf8_first)], narrowed := true }
def PackUpdatesUptoSaid : Prop := packUpdatesUptoRow.holds Tryd.pinned (OpenSpec.upto packUpdatesSpec)

end Rows
end Go.Proofs.YtanflgipdiogaaaDoor
