/-
  No cell of these rows narrows 'for every input' (looked for: loops, veiled, ifaces, maps, wideKeys, modest, calm, conditions, laid).
  DERIVED. THE GIVEN ROWS OF THIS SEAT. 7 by the template 'for every input the law returns true; each argument reads behind the call as it read before'; 0 by the template 'total and deterministic' (their statements: YtgkdiknmjgpgmaaTotals.lean).
  GIVEN WITH THE SEED: the statements are not yours to turn. If you find one false, say at which input.
  Laid BY PROGRAM, IN A SANDBOX (cutbox-rows.mjs): the forced cells as the released guide's own fill.sh prints them over the translation 6a14368385064807… (all of the seat's roots in one cut). By AI agents, Wed Nov 11 2026. No macro, syntax, notation, axiom, sorry.
-/
import Derived.Test.YtgkdiknmjgpgmaaChecked
import GoSem.Claim
import GoSem.ClaimJoined
import GoSem.ClaimMapViews
import Derived.JoinedTies
import Derived.KernelRfl
namespace Go.Proofs.Ytgkdiknmjgpgmaa
/- THE CELL 'sum', in the pinned program and in every row, IS THE sha256 OF THE DUMP (.gsa) THAT YtgkdiknmjgpgmaaProg.lean LOADS. Nothing in Lean hashes anything: it is a label: what it is worth is what the hold of that sum in a sandbox is worth. -/
noncomputable def Try.pinned : Pinned := { name := "ytgkdiknmjgpgmaa", sum := "6a14368385064807ffb12b51d38d338ed350302e51b24f7facebf0704bc895a6", checked := Try.checked }
namespace Rows
def none {H : Type} : Left H := { results := [], args := [] }

/-- 'lighteragelaw20.FilesNames': WHATEVER THE INPUT: true; the input reads as it did. -/
def filesNamesSpec : ChangeSpec := { name := "filesNames", fn := fun _ => fun
  | [d] => { results := [.lit (.bool true)], args := [d] }
  | _ => none }
def filesNamesRow : OpenClaim := { program := "ytgkdiknmjgpgmaa", sum := "6a14368385064807ffb12b51d38d338ed350302e51b24f7facebf0704bc895a6", func := "lighterage/lighteragelaw20.FilesNames", spec := "filesNames", unfollowed := true, recurses := true, apart := false }
def FilesNamesSaid : Prop := filesNamesRow.holds Try.pinned (OpenSpec.ofChange filesNamesSpec)

/-- ITS FALSE NEIGHBOUR: 'it returns false'. Refute it at one input. -/
def filesNamesWrong : ChangeSpec := { name := "filesNames", fn := fun _ => fun
  | [d] => { results := [.lit (.bool false)], args := [d] }
  | _ => none }
def FilesNamesWrongFalsely : Prop := filesNamesRow.holds Try.pinned (OpenSpec.ofChange filesNamesWrong)

/-- 'lighteragelaw20.FilesSays': WHATEVER THE INPUT: true; the input reads as it did. -/
def filesSaysSpec : ChangeSpec := { name := "filesSays", fn := fun _ => fun
  | [d1, d2] => { results := [.lit (.bool true)], args := [d1, d2] }
  | _ => none }
def filesSaysRow : OpenClaim := { program := "ytgkdiknmjgpgmaa", sum := "6a14368385064807ffb12b51d38d338ed350302e51b24f7facebf0704bc895a6", func := "lighterage/lighteragelaw20.FilesSays", spec := "filesSays", unfollowed := true, recurses := true, apart := false }
def FilesSaysSaid : Prop := filesSaysRow.holds Try.pinned (OpenSpec.ofChange filesSaysSpec)

/-- ITS FALSE NEIGHBOUR: 'it returns false'. Refute it at one input. -/
def filesSaysWrong : ChangeSpec := { name := "filesSays", fn := fun _ => fun
  | [d1, d2] => { results := [.lit (.bool false)], args := [d1, d2] }
  | _ => none }
def FilesSaysWrongFalsely : Prop := filesSaysRow.holds Try.pinned (OpenSpec.ofChange filesSaysWrong)

/-- 'lighteragelaw20.FilesFinds': WHATEVER THE INPUT: true; the input reads as it did. -/
def filesFindsSpec : ChangeSpec := { name := "filesFinds", fn := fun _ => fun
  | [d1, d2, d3] => { results := [.lit (.bool true)], args := [d1, d2, d3] }
  | _ => none }
def filesFindsRow : OpenClaim := { program := "ytgkdiknmjgpgmaa", sum := "6a14368385064807ffb12b51d38d338ed350302e51b24f7facebf0704bc895a6", func := "lighterage/lighteragelaw20.FilesFinds", spec := "filesFinds", unfollowed := true, recurses := true, apart := false }
def FilesFindsSaid : Prop := filesFindsRow.holds Try.pinned (OpenSpec.ofChange filesFindsSpec)

/-- ITS FALSE NEIGHBOUR: 'it returns false'. Refute it at one input. -/
def filesFindsWrong : ChangeSpec := { name := "filesFinds", fn := fun _ => fun
  | [d1, d2, d3] => { results := [.lit (.bool false)], args := [d1, d2, d3] }
  | _ => none }
def FilesFindsWrongFalsely : Prop := filesFindsRow.holds Try.pinned (OpenSpec.ofChange filesFindsWrong)

/-- 'lighteragelaw40.DiffPlays': WHATEVER THE INPUT: true; the input reads as it did. -/
def diffPlaysSpec : ChangeSpec := { name := "diffPlays", fn := fun _ => fun
  | [d1, d2] => { results := [.lit (.bool true)], args := [d1, d2] }
  | _ => none }
def diffPlaysRow : OpenClaim := { program := "ytgkdiknmjgpgmaa", sum := "6a14368385064807ffb12b51d38d338ed350302e51b24f7facebf0704bc895a6", func := "lighterage/lighteragelaw40.DiffPlays", spec := "diffPlays", unfollowed := true, recurses := true, apart := false }
def DiffPlaysSaid : Prop := diffPlaysRow.holds Try.pinned (OpenSpec.ofChange diffPlaysSpec)

/-- ITS FALSE NEIGHBOUR: 'it returns false'. Refute it at one input. -/
def diffPlaysWrong : ChangeSpec := { name := "diffPlays", fn := fun _ => fun
  | [d1, d2] => { results := [.lit (.bool false)], args := [d1, d2] }
  | _ => none }
def DiffPlaysWrongFalsely : Prop := diffPlaysRow.holds Try.pinned (OpenSpec.ofChange diffPlaysWrong)

/-- 'lighteragelaw40.DiffRight': WHATEVER THE INPUT: true; the input reads as it did. -/
def diffRightSpec : ChangeSpec := { name := "diffRight", fn := fun _ => fun
  | [d1, d2] => { results := [.lit (.bool true)], args := [d1, d2] }
  | _ => none }
def diffRightRow : OpenClaim := { program := "ytgkdiknmjgpgmaa", sum := "6a14368385064807ffb12b51d38d338ed350302e51b24f7facebf0704bc895a6", func := "lighterage/lighteragelaw40.DiffRight", spec := "diffRight", unfollowed := true, recurses := true, apart := false }
def DiffRightSaid : Prop := diffRightRow.holds Try.pinned (OpenSpec.ofChange diffRightSpec)

/-- ITS FALSE NEIGHBOUR: 'it returns false'. Refute it at one input. -/
def diffRightWrong : ChangeSpec := { name := "diffRight", fn := fun _ => fun
  | [d1, d2] => { results := [.lit (.bool false)], args := [d1, d2] }
  | _ => none }
def DiffRightWrongFalsely : Prop := diffRightRow.holds Try.pinned (OpenSpec.ofChange diffRightWrong)

/-- 'lighteragelaw40.DiffLess': WHATEVER THE INPUT: true; the input reads as it did. -/
def diffLessSpec : ChangeSpec := { name := "diffLess", fn := fun _ => fun
  | [d1, d2] => { results := [.lit (.bool true)], args := [d1, d2] }
  | _ => none }
def diffLessRow : OpenClaim := { program := "ytgkdiknmjgpgmaa", sum := "6a14368385064807ffb12b51d38d338ed350302e51b24f7facebf0704bc895a6", func := "lighterage/lighteragelaw40.DiffLess", spec := "diffLess", unfollowed := true, recurses := true, apart := false }
def DiffLessSaid : Prop := diffLessRow.holds Try.pinned (OpenSpec.ofChange diffLessSpec)

/-- ITS FALSE NEIGHBOUR: 'it returns false'. Refute it at one input. -/
def diffLessWrong : ChangeSpec := { name := "diffLess", fn := fun _ => fun
  | [d1, d2] => { results := [.lit (.bool false)], args := [d1, d2] }
  | _ => none }
def DiffLessWrongFalsely : Prop := diffLessRow.holds Try.pinned (OpenSpec.ofChange diffLessWrong)

/-- 'lighteragelaw40.DiffTurns': WHATEVER THE INPUT: true; the input reads as it did. -/
def diffTurnsSpec : ChangeSpec := { name := "diffTurns", fn := fun _ => fun
  | [d1, d2] => { results := [.lit (.bool true)], args := [d1, d2] }
  | _ => none }
def diffTurnsRow : OpenClaim := { program := "ytgkdiknmjgpgmaa", sum := "6a14368385064807ffb12b51d38d338ed350302e51b24f7facebf0704bc895a6", func := "lighterage/lighteragelaw40.DiffTurns", spec := "diffTurns", unfollowed := true, recurses := true, apart := false }
def DiffTurnsSaid : Prop := diffTurnsRow.holds Try.pinned (OpenSpec.ofChange diffTurnsSpec)

/-- ITS FALSE NEIGHBOUR: 'it returns false'. Refute it at one input. -/
def diffTurnsWrong : ChangeSpec := { name := "diffTurns", fn := fun _ => fun
  | [d1, d2] => { results := [.lit (.bool false)], args := [d1, d2] }
  | _ => none }
def DiffTurnsWrongFalsely : Prop := diffTurnsRow.holds Try.pinned (OpenSpec.ofChange diffTurnsWrong)

/- THE SECOND FORM. 'bulk': how many values and letters a reading holds, each counted each time it is reached (what is shared counts as often as it is met; a slice's spare places count too). A statement '..UptoSaid' is the law's where the arguments, and the package variables that the reading takes, are together of bulk at most 1048576: NARROWER than '..Said'. Prove '..Said' where nothing that the law and all that it calls make is longer than what came in: it says more and counts as full. Else prove '..UptoSaid'. A law counts once. -/
mutual
def uptoBulk {H : Type} : DataW H → Nat
  | .lit (.string bytes) => bytes.length + 1
  | .lit _ => 1
  | .nil => 1
  | .ptr d => uptoBulk d + 1
  | .slice elems spare => uptoBulkAll elems + uptoBulkAll spare + 1
  | .agg parts => uptoBulkAll parts + 1
  | .iface _ d => uptoBulk d + 1
  | .map entries => uptoBulkEntries entries + 1
  | .held _ => 1
def uptoBulkAll {H : Type} : List (DataW H) → Nat
  | [] => 0
  | d :: r => uptoBulk d + uptoBulkAll r
def uptoBulkEntries {H : Type} : List (Lit × DataW H) → Nat
  | [] => 0
  | x :: r => uptoBulkEntry x + uptoBulkEntries r
def uptoBulkEntry {H : Type} : Lit × DataW H → Nat
  | (.string bytes, d) => bytes.length + uptoBulk d + 1
  | (_, d) => uptoBulk d + 1
 end
def uptoSmall : (H : Type) → List (DataW H) → Bool := fun _ ds => decide (uptoBulkAll ds ≤ 1048576)
def OpenSpec.upto (s : _root_.Go.ChangeSpec) : _root_.Go.OpenSpec := { _root_.Go.OpenSpec.ofChange s with cond := some uptoSmall }

/-- 'lighteragelaw20.FilesNames', WHERE WHAT IT READS IS OF BULK AT MOST 1048576: true; the input reads as it did. -/
def filesNamesUptoRow : OpenClaim := { program := "ytgkdiknmjgpgmaa", sum := "6a14368385064807ffb12b51d38d338ed350302e51b24f7facebf0704bc895a6", func := "lighterage/lighteragelaw20.FilesNames", spec := "filesNames", unfollowed := true, recurses := true, apart := false, narrowed := true }
def FilesNamesUptoSaid : Prop := filesNamesUptoRow.holds Try.pinned (OpenSpec.upto filesNamesSpec)

/-- 'lighteragelaw20.FilesSays', WHERE WHAT IT READS IS OF BULK AT MOST 1048576: true; the input reads as it did. -/
def filesSaysUptoRow : OpenClaim := { program := "ytgkdiknmjgpgmaa", sum := "6a14368385064807ffb12b51d38d338ed350302e51b24f7facebf0704bc895a6", func := "lighterage/lighteragelaw20.FilesSays", spec := "filesSays", unfollowed := true, recurses := true, apart := false, narrowed := true }
def FilesSaysUptoSaid : Prop := filesSaysUptoRow.holds Try.pinned (OpenSpec.upto filesSaysSpec)

/-- 'lighteragelaw20.FilesFinds', WHERE WHAT IT READS IS OF BULK AT MOST 1048576: true; the input reads as it did. -/
def filesFindsUptoRow : OpenClaim := { program := "ytgkdiknmjgpgmaa", sum := "6a14368385064807ffb12b51d38d338ed350302e51b24f7facebf0704bc895a6", func := "lighterage/lighteragelaw20.FilesFinds", spec := "filesFinds", unfollowed := true, recurses := true, apart := false, narrowed := true }
def FilesFindsUptoSaid : Prop := filesFindsUptoRow.holds Try.pinned (OpenSpec.upto filesFindsSpec)

/-- 'lighteragelaw40.DiffPlays', WHERE WHAT IT READS IS OF BULK AT MOST 1048576: true; the input reads as it did. -/
def diffPlaysUptoRow : OpenClaim := { program := "ytgkdiknmjgpgmaa", sum := "6a14368385064807ffb12b51d38d338ed350302e51b24f7facebf0704bc895a6", func := "lighterage/lighteragelaw40.DiffPlays", spec := "diffPlays", unfollowed := true, recurses := true, apart := false, narrowed := true }
def DiffPlaysUptoSaid : Prop := diffPlaysUptoRow.holds Try.pinned (OpenSpec.upto diffPlaysSpec)

/-- 'lighteragelaw40.DiffRight', WHERE WHAT IT READS IS OF BULK AT MOST 1048576: true; the input reads as it did. -/
def diffRightUptoRow : OpenClaim := { program := "ytgkdiknmjgpgmaa", sum := "6a14368385064807ffb12b51d38d338ed350302e51b24f7facebf0704bc895a6", func := "lighterage/lighteragelaw40.DiffRight", spec := "diffRight", unfollowed := true, recurses := true, apart := false, narrowed := true }
def DiffRightUptoSaid : Prop := diffRightUptoRow.holds Try.pinned (OpenSpec.upto diffRightSpec)

/-- 'lighteragelaw40.DiffLess', WHERE WHAT IT READS IS OF BULK AT MOST 1048576: true; the input reads as it did. -/
def diffLessUptoRow : OpenClaim := { program := "ytgkdiknmjgpgmaa", sum := "6a14368385064807ffb12b51d38d338ed350302e51b24f7facebf0704bc895a6", func := "lighterage/lighteragelaw40.DiffLess", spec := "diffLess", unfollowed := true, recurses := true, apart := false, narrowed := true }
def DiffLessUptoSaid : Prop := diffLessUptoRow.holds Try.pinned (OpenSpec.upto diffLessSpec)

/-- 'lighteragelaw40.DiffTurns', WHERE WHAT IT READS IS OF BULK AT MOST 1048576: true; the input reads as it did. -/
def diffTurnsUptoRow : OpenClaim := { program := "ytgkdiknmjgpgmaa", sum := "6a14368385064807ffb12b51d38d338ed350302e51b24f7facebf0704bc895a6", func := "lighterage/lighteragelaw40.DiffTurns", spec := "diffTurns", unfollowed := true, recurses := true, apart := false, narrowed := true }
def DiffTurnsUptoSaid : Prop := diffTurnsUptoRow.holds Try.pinned (OpenSpec.upto diffTurnsSpec)

end Rows
end Go.Proofs.Ytgkdiknmjgpgmaa
