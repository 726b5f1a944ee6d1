/-
  No cell of these rows narrows 'for every input' (looked for: loops, veiled, ifaces, maps, wideKeys, modest, calm, conditions, laid).
  DERIVED. THE GIVEN ROWS OF THIS SEAT. 9 by the template 'for every input the law returns true; each argument reads behind the call as it read before'; 0 by the template 'total and deterministic' (their statements: YtefgjkaoidifbaaTotals.lean).
  GIVEN WITH THE SEED: the statements are not yours to turn. If you find one false, say at which input.
  Laid BY PROGRAM, IN A SANDBOX (cutbox-rows.mjs): the forced cells as the released guide's own fill.sh prints them over the translation ef1b3ce91d6da6ba… (all of the seat's roots in one cut). By AI agents, Wed Nov 11 2026. No macro, syntax, notation, axiom, sorry.
-/
import Derived.Test.YtefgjkaoidifbaaChecked
import GoSem.Claim
import GoSem.ClaimJoined
import GoSem.ClaimMapViews
import Derived.JoinedTies
import Derived.KernelRfl
namespace Go.Proofs.Ytefgjkaoidifbaa
/- THE CELL 'sum', in the pinned program and in every row, IS THE sha256 OF THE DUMP (.gsa) THAT YtefgjkaoidifbaaProg.lean LOADS. Nothing in Lean hashes anything: it is a label: what it is worth is what the hold of that sum in a sandbox is worth. -/
noncomputable def Try.pinned : Pinned := { name := "ytefgjkaoidifbaa", sum := "ef1b3ce91d6da6ba0fbb04742ef3672d4679d9eda681750e8654189dbe017ae4", checked := Try.checked }
namespace Rows
def none {H : Type} : Left H := { results := [], args := [] }

/-- 'lighteragelaw08.SizesForm': WHATEVER THE INPUT: true; the input reads as it did. -/
def sizesFormSpec : ChangeSpec := { name := "sizesForm", fn := fun _ => fun
  | [d1, d2] => { results := [.lit (.bool true)], args := [d1, d2] }
  | _ => none }
def sizesFormRow : OpenClaim := { program := "ytefgjkaoidifbaa", sum := "ef1b3ce91d6da6ba0fbb04742ef3672d4679d9eda681750e8654189dbe017ae4", func := "lighterage/lighteragelaw08.SizesForm", spec := "sizesForm", unfollowed := true, recurses := true, apart := false }
def SizesFormSaid : Prop := sizesFormRow.holds Try.pinned (OpenSpec.ofChange sizesFormSpec)

/-- ITS FALSE NEIGHBOUR: 'it returns false'. Refute it at one input. -/
def sizesFormWrong : ChangeSpec := { name := "sizesForm", fn := fun _ => fun
  | [d1, d2] => { results := [.lit (.bool false)], args := [d1, d2] }
  | _ => none }
def SizesFormWrongFalsely : Prop := sizesFormRow.holds Try.pinned (OpenSpec.ofChange sizesFormWrong)

/-- 'lighteragelaw38.TallyMails': WHATEVER THE INPUT: true; the input reads as it did. -/
def tallyMailsSpec : ChangeSpec := { name := "tallyMails", fn := fun _ => fun
  | [d] => { results := [.lit (.bool true)], args := [d] }
  | _ => none }
def tallyMailsRow : OpenClaim := { program := "ytefgjkaoidifbaa", sum := "ef1b3ce91d6da6ba0fbb04742ef3672d4679d9eda681750e8654189dbe017ae4", func := "lighterage/lighteragelaw38.TallyMails", spec := "tallyMails", unfollowed := true, recurses := true, apart := false }
def TallyMailsSaid : Prop := tallyMailsRow.holds Try.pinned (OpenSpec.ofChange tallyMailsSpec)

/-- ITS FALSE NEIGHBOUR: 'it returns false'. Refute it at one input. -/
def tallyMailsWrong : ChangeSpec := { name := "tallyMails", fn := fun _ => fun
  | [d] => { results := [.lit (.bool false)], args := [d] }
  | _ => none }
def TallyMailsWrongFalsely : Prop := tallyMailsRow.holds Try.pinned (OpenSpec.ofChange tallyMailsWrong)

/-- 'lighteragelaw14.IsetOne': WHATEVER THE INPUT: true; the input reads as it did. -/
def isetOneSpec : ChangeSpec := { name := "isetOne", fn := fun _ => fun
  | [d1, d2] => { results := [.lit (.bool true)], args := [d1, d2] }
  | _ => none }
def isetOneRow : OpenClaim := { program := "ytefgjkaoidifbaa", sum := "ef1b3ce91d6da6ba0fbb04742ef3672d4679d9eda681750e8654189dbe017ae4", func := "lighterage/lighteragelaw14.IsetOne", spec := "isetOne", unfollowed := true, recurses := true, apart := false }
def IsetOneSaid : Prop := isetOneRow.holds Try.pinned (OpenSpec.ofChange isetOneSpec)

/-- ITS FALSE NEIGHBOUR: 'it returns false'. Refute it at one input. -/
def isetOneWrong : ChangeSpec := { name := "isetOne", fn := fun _ => fun
  | [d1, d2] => { results := [.lit (.bool false)], args := [d1, d2] }
  | _ => none }
def IsetOneWrongFalsely : Prop := isetOneRow.holds Try.pinned (OpenSpec.ofChange isetOneWrong)

/-- 'lighteragelaw14.IsetTwo': WHATEVER THE INPUT: true; the input reads as it did. -/
def isetTwoSpec : ChangeSpec := { name := "isetTwo", fn := fun _ => fun
  | [d1, d2] => { results := [.lit (.bool true)], args := [d1, d2] }
  | _ => none }
def isetTwoRow : OpenClaim := { program := "ytefgjkaoidifbaa", sum := "ef1b3ce91d6da6ba0fbb04742ef3672d4679d9eda681750e8654189dbe017ae4", func := "lighterage/lighteragelaw14.IsetTwo", spec := "isetTwo", unfollowed := true, recurses := true, apart := false }
def IsetTwoSaid : Prop := isetTwoRow.holds Try.pinned (OpenSpec.ofChange isetTwoSpec)

/-- ITS FALSE NEIGHBOUR: 'it returns false'. Refute it at one input. -/
def isetTwoWrong : ChangeSpec := { name := "isetTwo", fn := fun _ => fun
  | [d1, d2] => { results := [.lit (.bool false)], args := [d1, d2] }
  | _ => none }
def IsetTwoWrongFalsely : Prop := isetTwoRow.holds Try.pinned (OpenSpec.ofChange isetTwoWrong)

/-- 'lighteragelaw14.IsetLaws': WHATEVER THE INPUT: true; the input reads as it did. -/
def isetLawsSpec : ChangeSpec := { name := "isetLaws", fn := fun _ => fun
  | [d1, d2] => { results := [.lit (.bool true)], args := [d1, d2] }
  | _ => none }
def isetLawsRow : OpenClaim := { program := "ytefgjkaoidifbaa", sum := "ef1b3ce91d6da6ba0fbb04742ef3672d4679d9eda681750e8654189dbe017ae4", func := "lighterage/lighteragelaw14.IsetLaws", spec := "isetLaws", unfollowed := true, recurses := true, apart := false }
def IsetLawsSaid : Prop := isetLawsRow.holds Try.pinned (OpenSpec.ofChange isetLawsSpec)

/-- ITS FALSE NEIGHBOUR: 'it returns false'. Refute it at one input. -/
def isetLawsWrong : ChangeSpec := { name := "isetLaws", fn := fun _ => fun
  | [d1, d2] => { results := [.lit (.bool false)], args := [d1, d2] }
  | _ => none }
def IsetLawsWrongFalsely : Prop := isetLawsRow.holds Try.pinned (OpenSpec.ofChange isetLawsWrong)

/-- 'lighteragelaw38.TallyCounts': WHATEVER THE INPUT: true; the input reads as it did. -/
def tallyCountsSpec : ChangeSpec := { name := "tallyCounts", fn := fun _ => fun
  | [d1, d2, d3] => { results := [.lit (.bool true)], args := [d1, d2, d3] }
  | _ => none }
def tallyCountsRow : OpenClaim := { program := "ytefgjkaoidifbaa", sum := "ef1b3ce91d6da6ba0fbb04742ef3672d4679d9eda681750e8654189dbe017ae4", func := "lighterage/lighteragelaw38.TallyCounts", spec := "tallyCounts", unfollowed := true, recurses := true, apart := false }
def TallyCountsSaid : Prop := tallyCountsRow.holds Try.pinned (OpenSpec.ofChange tallyCountsSpec)

/-- ITS FALSE NEIGHBOUR: 'it returns false'. Refute it at one input. -/
def tallyCountsWrong : ChangeSpec := { name := "tallyCounts", fn := fun _ => fun
  | [d1, d2, d3] => { results := [.lit (.bool false)], args := [d1, d2, d3] }
  | _ => none }
def TallyCountsWrongFalsely : Prop := tallyCountsRow.holds Try.pinned (OpenSpec.ofChange tallyCountsWrong)

/-- 'lighteragelaw38.TallyAdds': WHATEVER THE INPUT: true; the input reads as it did. -/
def tallyAddsSpec : ChangeSpec := { name := "tallyAdds", fn := fun _ => fun
  | [d1, d2] => { results := [.lit (.bool true)], args := [d1, d2] }
  | _ => none }
def tallyAddsRow : OpenClaim := { program := "ytefgjkaoidifbaa", sum := "ef1b3ce91d6da6ba0fbb04742ef3672d4679d9eda681750e8654189dbe017ae4", func := "lighterage/lighteragelaw38.TallyAdds", spec := "tallyAdds", unfollowed := true, recurses := true, apart := false }
def TallyAddsSaid : Prop := tallyAddsRow.holds Try.pinned (OpenSpec.ofChange tallyAddsSpec)

/-- ITS FALSE NEIGHBOUR: 'it returns false'. Refute it at one input. -/
def tallyAddsWrong : ChangeSpec := { name := "tallyAdds", fn := fun _ => fun
  | [d1, d2] => { results := [.lit (.bool false)], args := [d1, d2] }
  | _ => none }
def TallyAddsWrongFalsely : Prop := tallyAddsRow.holds Try.pinned (OpenSpec.ofChange tallyAddsWrong)

/-- 'lighteragelaw08.SizesTwo': WHATEVER THE INPUT: true; the input reads as it did. -/
def sizesTwoSpec : ChangeSpec := { name := "sizesTwo", fn := fun _ => fun
  | [d1, d2] => { results := [.lit (.bool true)], args := [d1, d2] }
  | _ => none }
def sizesTwoRow : OpenClaim := { program := "ytefgjkaoidifbaa", sum := "ef1b3ce91d6da6ba0fbb04742ef3672d4679d9eda681750e8654189dbe017ae4", func := "lighterage/lighteragelaw08.SizesTwo", spec := "sizesTwo", unfollowed := true, recurses := true, apart := false }
def SizesTwoSaid : Prop := sizesTwoRow.holds Try.pinned (OpenSpec.ofChange sizesTwoSpec)

/-- ITS FALSE NEIGHBOUR: 'it returns false'. Refute it at one input. -/
def sizesTwoWrong : ChangeSpec := { name := "sizesTwo", fn := fun _ => fun
  | [d1, d2] => { results := [.lit (.bool false)], args := [d1, d2] }
  | _ => none }
def SizesTwoWrongFalsely : Prop := sizesTwoRow.holds Try.pinned (OpenSpec.ofChange sizesTwoWrong)

/-- 'lighteragelaw08.SizesCovers': WHATEVER THE INPUT: true; the input reads as it did. -/
def sizesCoversSpec : ChangeSpec := { name := "sizesCovers", fn := fun _ => fun
  | [d1, d2] => { results := [.lit (.bool true)], args := [d1, d2] }
  | _ => none }
def sizesCoversRow : OpenClaim := { program := "ytefgjkaoidifbaa", sum := "ef1b3ce91d6da6ba0fbb04742ef3672d4679d9eda681750e8654189dbe017ae4", func := "lighterage/lighteragelaw08.SizesCovers", spec := "sizesCovers", unfollowed := true, recurses := true, apart := false }
def SizesCoversSaid : Prop := sizesCoversRow.holds Try.pinned (OpenSpec.ofChange sizesCoversSpec)

/-- ITS FALSE NEIGHBOUR: 'it returns false'. Refute it at one input. -/
def sizesCoversWrong : ChangeSpec := { name := "sizesCovers", fn := fun _ => fun
  | [d1, d2] => { results := [.lit (.bool false)], args := [d1, d2] }
  | _ => none }
def SizesCoversWrongFalsely : Prop := sizesCoversRow.holds Try.pinned (OpenSpec.ofChange sizesCoversWrong)

/- THE SECOND FORM. 'bulk': how many values and letters a reading holds, each counted each time it is reached (what is shared counts as often as it is met; a slice's spare places count too). A statement '..UptoSaid' is the law's where the arguments, and the package variables that the reading takes, are together of bulk at most 1048576: NARROWER than '..Said'. Prove '..Said' where nothing that the law and all that it calls make is longer than what came in: it says more and counts as full. Else prove '..UptoSaid'. A law counts once. -/
mutual
def uptoBulk {H : Type} : DataW H → Nat
  | .lit (.string bytes) => bytes.length + 1
  | .lit _ => 1
  | .nil => 1
  | .ptr d => uptoBulk d + 1
  | .slice elems spare => uptoBulkAll elems + uptoBulkAll spare + 1
  | .agg parts => uptoBulkAll parts + 1
  | .iface _ d => uptoBulk d + 1
  | .map entries => uptoBulkEntries entries + 1
  | .held _ => 1
def uptoBulkAll {H : Type} : List (DataW H) → Nat
  | [] => 0
  | d :: r => uptoBulk d + uptoBulkAll r
def uptoBulkEntries {H : Type} : List (Lit × DataW H) → Nat
  | [] => 0
  | x :: r => uptoBulkEntry x + uptoBulkEntries r
def uptoBulkEntry {H : Type} : Lit × DataW H → Nat
  | (.string bytes, d) => bytes.length + uptoBulk d + 1
  | (_, d) => uptoBulk d + 1
 end
def uptoSmall : (H : Type) → List (DataW H) → Bool := fun _ ds => decide (uptoBulkAll ds ≤ 1048576)
def OpenSpec.upto (s : _root_.Go.ChangeSpec) : _root_.Go.OpenSpec := { _root_.Go.OpenSpec.ofChange s with cond := some uptoSmall }

/-- 'lighteragelaw08.SizesForm', WHERE WHAT IT READS IS OF BULK AT MOST 1048576: true; the input reads as it did. -/
def sizesFormUptoRow : OpenClaim := { program := "ytefgjkaoidifbaa", sum := "ef1b3ce91d6da6ba0fbb04742ef3672d4679d9eda681750e8654189dbe017ae4", func := "lighterage/lighteragelaw08.SizesForm", spec := "sizesForm", unfollowed := true, recurses := true, apart := false, narrowed := true }
def SizesFormUptoSaid : Prop := sizesFormUptoRow.holds Try.pinned (OpenSpec.upto sizesFormSpec)

/-- 'lighteragelaw38.TallyMails', WHERE WHAT IT READS IS OF BULK AT MOST 1048576: true; the input reads as it did. -/
def tallyMailsUptoRow : OpenClaim := { program := "ytefgjkaoidifbaa", sum := "ef1b3ce91d6da6ba0fbb04742ef3672d4679d9eda681750e8654189dbe017ae4", func := "lighterage/lighteragelaw38.TallyMails", spec := "tallyMails", unfollowed := true, recurses := true, apart := false, narrowed := true }
def TallyMailsUptoSaid : Prop := tallyMailsUptoRow.holds Try.pinned (OpenSpec.upto tallyMailsSpec)

/-- 'lighteragelaw14.IsetOne', WHERE WHAT IT READS IS OF BULK AT MOST 1048576: true; the input reads as it did. -/
def isetOneUptoRow : OpenClaim := { program := "ytefgjkaoidifbaa", sum := "ef1b3ce91d6da6ba0fbb04742ef3672d4679d9eda681750e8654189dbe017ae4", func := "lighterage/lighteragelaw14.IsetOne", spec := "isetOne", unfollowed := true, recurses := true, apart := false, narrowed := true }
def IsetOneUptoSaid : Prop := isetOneUptoRow.holds Try.pinned (OpenSpec.upto isetOneSpec)

/-- 'lighteragelaw14.IsetTwo', WHERE WHAT IT READS IS OF BULK AT MOST 1048576: true; the input reads as it did. -/
def isetTwoUptoRow : OpenClaim := { program := "ytefgjkaoidifbaa", sum := "ef1b3ce91d6da6ba0fbb04742ef3672d4679d9eda681750e8654189dbe017ae4", func := "lighterage/lighteragelaw14.IsetTwo", spec := "isetTwo", unfollowed := true, recurses := true, apart := false, narrowed := true }
def IsetTwoUptoSaid : Prop := isetTwoUptoRow.holds Try.pinned (OpenSpec.upto isetTwoSpec)

/-- 'lighteragelaw14.IsetLaws', WHERE WHAT IT READS IS OF BULK AT MOST 1048576: true; the input reads as it did. -/
def isetLawsUptoRow : OpenClaim := { program := "ytefgjkaoidifbaa", sum := "ef1b3ce91d6da6ba0fbb04742ef3672d4679d9eda681750e8654189dbe017ae4", func := "lighterage/lighteragelaw14.IsetLaws", spec := "isetLaws", unfollowed := true, recurses := true, apart := false, narrowed := true }
def IsetLawsUptoSaid : Prop := isetLawsUptoRow.holds Try.pinned (OpenSpec.upto isetLawsSpec)

/-- 'lighteragelaw38.TallyCounts', WHERE WHAT IT READS IS OF BULK AT MOST 1048576: true; the input reads as it did. -/
def tallyCountsUptoRow : OpenClaim := { program := "ytefgjkaoidifbaa", sum := "ef1b3ce91d6da6ba0fbb04742ef3672d4679d9eda681750e8654189dbe017ae4", func := "lighterage/lighteragelaw38.TallyCounts", spec := "tallyCounts", unfollowed := true, recurses := true, apart := false, narrowed := true }
def TallyCountsUptoSaid : Prop := tallyCountsUptoRow.holds Try.pinned (OpenSpec.upto tallyCountsSpec)

/-- 'lighteragelaw38.TallyAdds', WHERE WHAT IT READS IS OF BULK AT MOST 1048576: true; the input reads as it did. -/
def tallyAddsUptoRow : OpenClaim := { program := "ytefgjkaoidifbaa", sum := "ef1b3ce91d6da6ba0fbb04742ef3672d4679d9eda681750e8654189dbe017ae4", func := "lighterage/lighteragelaw38.TallyAdds", spec := "tallyAdds", unfollowed := true, recurses := true, apart := false, narrowed := true }
def TallyAddsUptoSaid : Prop := tallyAddsUptoRow.holds Try.pinned (OpenSpec.upto tallyAddsSpec)

/-- 'lighteragelaw08.SizesTwo', WHERE WHAT IT READS IS OF BULK AT MOST 1048576: true; the input reads as it did. -/
def sizesTwoUptoRow : OpenClaim := { program := "ytefgjkaoidifbaa", sum := "ef1b3ce91d6da6ba0fbb04742ef3672d4679d9eda681750e8654189dbe017ae4", func := "lighterage/lighteragelaw08.SizesTwo", spec := "sizesTwo", unfollowed := true, recurses := true, apart := false, narrowed := true }
def SizesTwoUptoSaid : Prop := sizesTwoUptoRow.holds Try.pinned (OpenSpec.upto sizesTwoSpec)

/-- 'lighteragelaw08.SizesCovers', WHERE WHAT IT READS IS OF BULK AT MOST 1048576: true; the input reads as it did. -/
def sizesCoversUptoRow : OpenClaim := { program := "ytefgjkaoidifbaa", sum := "ef1b3ce91d6da6ba0fbb04742ef3672d4679d9eda681750e8654189dbe017ae4", func := "lighterage/lighteragelaw08.SizesCovers", spec := "sizesCovers", unfollowed := true, recurses := true, apart := false, narrowed := true }
def SizesCoversUptoSaid : Prop := sizesCoversUptoRow.holds Try.pinned (OpenSpec.upto sizesCoversSpec)

end Rows
end Go.Proofs.Ytefgjkaoidifbaa
