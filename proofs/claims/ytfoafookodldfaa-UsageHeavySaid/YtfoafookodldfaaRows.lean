/-
  No cell of these rows narrows 'for every input' (looked for: loops, veiled, ifaces, maps, wideKeys, modest, calm, conditions, laid).
  DERIVED. THE GIVEN ROWS OF THIS SEAT. 8 by the template 'for every input the law returns true; each argument reads behind the call as it read before'; 0 by the template 'total and deterministic' (their statements: YtfoafookodldfaaTotals.lean).
  GIVEN WITH THE SEED: the statements are not yours to turn. If you find one false, say at which input.
  Laid BY PROGRAM, IN A SANDBOX (cutbox-rows.mjs): the forced cells as the released guide's own fill.sh prints them over the translation 81fca4618429efc6… (all of the seat's roots in one cut). By AI agents, Wed Nov 11 2026. No macro, syntax, notation, axiom, sorry.
-/
import Derived.Test.YtfoafookodldfaaChecked
import GoSem.Claim
import GoSem.ClaimJoined
import GoSem.ClaimMapViews
import Derived.JoinedTies
import Derived.KernelRfl
namespace Go.Proofs.Ytfoafookodldfaa
/- THE CELL 'sum', in the pinned program and in every row, IS THE sha256 OF THE DUMP (.gsa) THAT YtfoafookodldfaaProg.lean LOADS. Nothing in Lean hashes anything: it is a label: what it is worth is what the hold of that sum in a sandbox is worth. -/
noncomputable def Try.pinned : Pinned := { name := "ytfoafookodldfaa", sum := "81fca4618429efc6b66afd9fc27e30e3ef9effa59a56f527f7543eedb2ed5263", checked := Try.checked }
namespace Rows
def none {H : Type} : Left H := { results := [], args := [] }

/-- 'lighteragelaw42.IndexOrder': WHATEVER THE INPUT: true; the input reads as it did. -/
def indexOrderSpec : ChangeSpec := { name := "indexOrder", fn := fun _ => fun
  | [d1, d2] => { results := [.lit (.bool true)], args := [d1, d2] }
  | _ => none }
def indexOrderRow : OpenClaim := { program := "ytfoafookodldfaa", sum := "81fca4618429efc6b66afd9fc27e30e3ef9effa59a56f527f7543eedb2ed5263", func := "lighterage/lighteragelaw42.IndexOrder", spec := "indexOrder", unfollowed := true, recurses := true, apart := false }
def IndexOrderSaid : Prop := indexOrderRow.holds Try.pinned (OpenSpec.ofChange indexOrderSpec)

/-- ITS FALSE NEIGHBOUR: 'it returns false'. Refute it at one input. -/
def indexOrderWrong : ChangeSpec := { name := "indexOrder", fn := fun _ => fun
  | [d1, d2] => { results := [.lit (.bool false)], args := [d1, d2] }
  | _ => none }
def IndexOrderWrongFalsely : Prop := indexOrderRow.holds Try.pinned (OpenSpec.ofChange indexOrderWrong)

/-- 'lighteragelaw42.IndexDoes': WHATEVER THE INPUT: true; the input reads as it did. -/
def indexDoesSpec : ChangeSpec := { name := "indexDoes", fn := fun _ => fun
  | [d1, d2] => { results := [.lit (.bool true)], args := [d1, d2] }
  | _ => none }
def indexDoesRow : OpenClaim := { program := "ytfoafookodldfaa", sum := "81fca4618429efc6b66afd9fc27e30e3ef9effa59a56f527f7543eedb2ed5263", func := "lighterage/lighteragelaw42.IndexDoes", spec := "indexDoes", unfollowed := true, recurses := true, apart := false }
def IndexDoesSaid : Prop := indexDoesRow.holds Try.pinned (OpenSpec.ofChange indexDoesSpec)

/-- ITS FALSE NEIGHBOUR: 'it returns false'. Refute it at one input. -/
def indexDoesWrong : ChangeSpec := { name := "indexDoes", fn := fun _ => fun
  | [d1, d2] => { results := [.lit (.bool false)], args := [d1, d2] }
  | _ => none }
def IndexDoesWrongFalsely : Prop := indexDoesRow.holds Try.pinned (OpenSpec.ofChange indexDoesWrong)

/-- 'lighteragelaw42.IndexLooks': WHATEVER THE INPUT: true; the input reads as it did. -/
def indexLooksSpec : ChangeSpec := { name := "indexLooks", fn := fun _ => fun
  | [d1, d2, d3] => { results := [.lit (.bool true)], args := [d1, d2, d3] }
  | _ => none }
def indexLooksRow : OpenClaim := { program := "ytfoafookodldfaa", sum := "81fca4618429efc6b66afd9fc27e30e3ef9effa59a56f527f7543eedb2ed5263", func := "lighterage/lighteragelaw42.IndexLooks", spec := "indexLooks", unfollowed := true, recurses := true, apart := false }
def IndexLooksSaid : Prop := indexLooksRow.holds Try.pinned (OpenSpec.ofChange indexLooksSpec)

/-- ITS FALSE NEIGHBOUR: 'it returns false'. Refute it at one input. -/
def indexLooksWrong : ChangeSpec := { name := "indexLooks", fn := fun _ => fun
  | [d1, d2, d3] => { results := [.lit (.bool false)], args := [d1, d2, d3] }
  | _ => none }
def IndexLooksWrongFalsely : Prop := indexLooksRow.holds Try.pinned (OpenSpec.ofChange indexLooksWrong)

/-- 'lighteragelaw42.IndexNone': WHATEVER THE INPUT: true; the input reads as it did. -/
def indexNoneSpec : ChangeSpec := { name := "indexNone", fn := fun _ => fun
  | [d1, d2] => { results := [.lit (.bool true)], args := [d1, d2] }
  | _ => none }
def indexNoneRow : OpenClaim := { program := "ytfoafookodldfaa", sum := "81fca4618429efc6b66afd9fc27e30e3ef9effa59a56f527f7543eedb2ed5263", func := "lighterage/lighteragelaw42.IndexNone", spec := "indexNone", unfollowed := true, recurses := true, apart := false }
def IndexNoneSaid : Prop := indexNoneRow.holds Try.pinned (OpenSpec.ofChange indexNoneSpec)

/-- ITS FALSE NEIGHBOUR: 'it returns false'. Refute it at one input. -/
def indexNoneWrong : ChangeSpec := { name := "indexNone", fn := fun _ => fun
  | [d1, d2] => { results := [.lit (.bool false)], args := [d1, d2] }
  | _ => none }
def IndexNoneWrongFalsely : Prop := indexNoneRow.holds Try.pinned (OpenSpec.ofChange indexNoneWrong)

/-- 'lighteragelaw43.UsageOf': WHATEVER THE INPUT: true; the input reads as it did. -/
def usageOfSpec : ChangeSpec := { name := "usageOf", fn := fun _ => fun
  | [d1, d2] => { results := [.lit (.bool true)], args := [d1, d2] }
  | _ => none }
def usageOfRow : OpenClaim := { program := "ytfoafookodldfaa", sum := "81fca4618429efc6b66afd9fc27e30e3ef9effa59a56f527f7543eedb2ed5263", func := "lighterage/lighteragelaw43.UsageOf", spec := "usageOf", unfollowed := true, recurses := true, apart := false }
def UsageOfSaid : Prop := usageOfRow.holds Try.pinned (OpenSpec.ofChange usageOfSpec)

/-- ITS FALSE NEIGHBOUR: 'it returns false'. Refute it at one input. -/
def usageOfWrong : ChangeSpec := { name := "usageOf", fn := fun _ => fun
  | [d1, d2] => { results := [.lit (.bool false)], args := [d1, d2] }
  | _ => none }
def UsageOfWrongFalsely : Prop := usageOfRow.holds Try.pinned (OpenSpec.ofChange usageOfWrong)

/-- 'lighteragelaw43.UsageParts': WHATEVER THE INPUT: true; the input reads as it did. -/
def usagePartsSpec : ChangeSpec := { name := "usageParts", fn := fun _ => fun
  | [d1, d2, d3] => { results := [.lit (.bool true)], args := [d1, d2, d3] }
  | _ => none }
def usagePartsRow : OpenClaim := { program := "ytfoafookodldfaa", sum := "81fca4618429efc6b66afd9fc27e30e3ef9effa59a56f527f7543eedb2ed5263", func := "lighterage/lighteragelaw43.UsageParts", spec := "usageParts", unfollowed := true, recurses := true, apart := false }
def UsagePartsSaid : Prop := usagePartsRow.holds Try.pinned (OpenSpec.ofChange usagePartsSpec)

/-- ITS FALSE NEIGHBOUR: 'it returns false'. Refute it at one input. -/
def usagePartsWrong : ChangeSpec := { name := "usageParts", fn := fun _ => fun
  | [d1, d2, d3] => { results := [.lit (.bool false)], args := [d1, d2, d3] }
  | _ => none }
def UsagePartsWrongFalsely : Prop := usagePartsRow.holds Try.pinned (OpenSpec.ofChange usagePartsWrong)

/-- 'lighteragelaw43.UsageMost': WHATEVER THE INPUT: true; the input reads as it did. -/
def usageMostSpec : ChangeSpec := { name := "usageMost", fn := fun _ => fun
  | [d1, d2] => { results := [.lit (.bool true)], args := [d1, d2] }
  | _ => none }
def usageMostRow : OpenClaim := { program := "ytfoafookodldfaa", sum := "81fca4618429efc6b66afd9fc27e30e3ef9effa59a56f527f7543eedb2ed5263", func := "lighterage/lighteragelaw43.UsageMost", spec := "usageMost", unfollowed := true, recurses := true, apart := false }
def UsageMostSaid : Prop := usageMostRow.holds Try.pinned (OpenSpec.ofChange usageMostSpec)

/-- ITS FALSE NEIGHBOUR: 'it returns false'. Refute it at one input. -/
def usageMostWrong : ChangeSpec := { name := "usageMost", fn := fun _ => fun
  | [d1, d2] => { results := [.lit (.bool false)], args := [d1, d2] }
  | _ => none }
def UsageMostWrongFalsely : Prop := usageMostRow.holds Try.pinned (OpenSpec.ofChange usageMostWrong)

/-- 'lighteragelaw43.UsageHeavy': WHATEVER THE INPUT: true; the input reads as it did. -/
def usageHeavySpec : ChangeSpec := { name := "usageHeavy", fn := fun _ => fun
  | [d1, d2] => { results := [.lit (.bool true)], args := [d1, d2] }
  | _ => none }
def usageHeavyRow : OpenClaim := { program := "ytfoafookodldfaa", sum := "81fca4618429efc6b66afd9fc27e30e3ef9effa59a56f527f7543eedb2ed5263", func := "lighterage/lighteragelaw43.UsageHeavy", spec := "usageHeavy", unfollowed := true, recurses := true, apart := false }
def UsageHeavySaid : Prop := usageHeavyRow.holds Try.pinned (OpenSpec.ofChange usageHeavySpec)

/-- ITS FALSE NEIGHBOUR: 'it returns false'. Refute it at one input. -/
def usageHeavyWrong : ChangeSpec := { name := "usageHeavy", fn := fun _ => fun
  | [d1, d2] => { results := [.lit (.bool false)], args := [d1, d2] }
  | _ => none }
def UsageHeavyWrongFalsely : Prop := usageHeavyRow.holds Try.pinned (OpenSpec.ofChange usageHeavyWrong)

/- THE SECOND FORM. 'bulk': how many values and letters a reading holds, each counted each time it is reached (what is shared counts as often as it is met; a slice's spare places count too). A statement '..UptoSaid' is the law's where the arguments, and the package variables that the reading takes, are together of bulk at most 1048576: NARROWER than '..Said'. Prove '..Said' where nothing that the law and all that it calls make is longer than what came in: it says more and counts as full. Else prove '..UptoSaid'. A law counts once. -/
mutual
def uptoBulk {H : Type} : DataW H → Nat
  | .lit (.string bytes) => bytes.length + 1
  | .lit _ => 1
  | .nil => 1
  | .ptr d => uptoBulk d + 1
  | .slice elems spare => uptoBulkAll elems + uptoBulkAll spare + 1
  | .agg parts => uptoBulkAll parts + 1
  | .iface _ d => uptoBulk d + 1
  | .map entries => uptoBulkEntries entries + 1
  | .held _ => 1
def uptoBulkAll {H : Type} : List (DataW H) → Nat
  | [] => 0
  | d :: r => uptoBulk d + uptoBulkAll r
def uptoBulkEntries {H : Type} : List (Lit × DataW H) → Nat
  | [] => 0
  | x :: r => uptoBulkEntry x + uptoBulkEntries r
def uptoBulkEntry {H : Type} : Lit × DataW H → Nat
  | (.string bytes, d) => bytes.length + uptoBulk d + 1
  | (_, d) => uptoBulk d + 1
 end
def uptoSmall : (H : Type) → List (DataW H) → Bool := fun _ ds => decide (uptoBulkAll ds ≤ 1048576)
def OpenSpec.upto (s : _root_.Go.ChangeSpec) : _root_.Go.OpenSpec := { _root_.Go.OpenSpec.ofChange s with cond := some uptoSmall }

/-- 'lighteragelaw42.IndexOrder', WHERE WHAT IT READS IS OF BULK AT MOST 1048576: true; the input reads as it did. -/
def indexOrderUptoRow : OpenClaim := { program := "ytfoafookodldfaa", sum := "81fca4618429efc6b66afd9fc27e30e3ef9effa59a56f527f7543eedb2ed5263", func := "lighterage/lighteragelaw42.IndexOrder", spec := "indexOrder", unfollowed := true, recurses := true, apart := false, narrowed := true }
def IndexOrderUptoSaid : Prop := indexOrderUptoRow.holds Try.pinned (OpenSpec.upto indexOrderSpec)

/-- 'lighteragelaw42.IndexDoes', WHERE WHAT IT READS IS OF BULK AT MOST 1048576: true; the input reads as it did. -/
def indexDoesUptoRow : OpenClaim := { program := "ytfoafookodldfaa", sum := "81fca4618429efc6b66afd9fc27e30e3ef9effa59a56f527f7543eedb2ed5263", func := "lighterage/lighteragelaw42.IndexDoes", spec := "indexDoes", unfollowed := true, recurses := true, apart := false, narrowed := true }
def IndexDoesUptoSaid : Prop := indexDoesUptoRow.holds Try.pinned (OpenSpec.upto indexDoesSpec)

/-- 'lighteragelaw42.IndexLooks', WHERE WHAT IT READS IS OF BULK AT MOST 1048576: true; the input reads as it did. -/
def indexLooksUptoRow : OpenClaim := { program := "ytfoafookodldfaa", sum := "81fca4618429efc6b66afd9fc27e30e3ef9effa59a56f527f7543eedb2ed5263", func := "lighterage/lighteragelaw42.IndexLooks", spec := "indexLooks", unfollowed := true, recurses := true, apart := false, narrowed := true }
def IndexLooksUptoSaid : Prop := indexLooksUptoRow.holds Try.pinned (OpenSpec.upto indexLooksSpec)

/-- 'lighteragelaw42.IndexNone', WHERE WHAT IT READS IS OF BULK AT MOST 1048576: true; the input reads as it did. -/
def indexNoneUptoRow : OpenClaim := { program := "ytfoafookodldfaa", sum := "81fca4618429efc6b66afd9fc27e30e3ef9effa59a56f527f7543eedb2ed5263", func := "lighterage/lighteragelaw42.IndexNone", spec := "indexNone", unfollowed := true, recurses := true, apart := false, narrowed := true }
def IndexNoneUptoSaid : Prop := indexNoneUptoRow.holds Try.pinned (OpenSpec.upto indexNoneSpec)

/-- 'lighteragelaw43.UsageOf', WHERE WHAT IT READS IS OF BULK AT MOST 1048576: true; the input reads as it did. -/
def usageOfUptoRow : OpenClaim := { program := "ytfoafookodldfaa", sum := "81fca4618429efc6b66afd9fc27e30e3ef9effa59a56f527f7543eedb2ed5263", func := "lighterage/lighteragelaw43.UsageOf", spec := "usageOf", unfollowed := true, recurses := true, apart := false, narrowed := true }
def UsageOfUptoSaid : Prop := usageOfUptoRow.holds Try.pinned (OpenSpec.upto usageOfSpec)

/-- 'lighteragelaw43.UsageParts', WHERE WHAT IT READS IS OF BULK AT MOST 1048576: true; the input reads as it did. -/
def usagePartsUptoRow : OpenClaim := { program := "ytfoafookodldfaa", sum := "81fca4618429efc6b66afd9fc27e30e3ef9effa59a56f527f7543eedb2ed5263", func := "lighterage/lighteragelaw43.UsageParts", spec := "usageParts", unfollowed := true, recurses := true, apart := false, narrowed := true }
def UsagePartsUptoSaid : Prop := usagePartsUptoRow.holds Try.pinned (OpenSpec.upto usagePartsSpec)

/-- 'lighteragelaw43.UsageMost', WHERE WHAT IT READS IS OF BULK AT MOST 1048576: true; the input reads as it did. -/
def usageMostUptoRow : OpenClaim := { program := "ytfoafookodldfaa", sum := "81fca4618429efc6b66afd9fc27e30e3ef9effa59a56f527f7543eedb2ed5263", func := "lighterage/lighteragelaw43.UsageMost", spec := "usageMost", unfollowed := true, recurses := true, apart := false, narrowed := true }
def UsageMostUptoSaid : Prop := usageMostUptoRow.holds Try.pinned (OpenSpec.upto usageMostSpec)

/-- 'lighteragelaw43.UsageHeavy', WHERE WHAT IT READS IS OF BULK AT MOST 1048576: true; the input reads as it did. -/
def usageHeavyUptoRow : OpenClaim := { program := "ytfoafookodldfaa", sum := "81fca4618429efc6b66afd9fc27e30e3ef9effa59a56f527f7543eedb2ed5263", func := "lighterage/lighteragelaw43.UsageHeavy", spec := "usageHeavy", unfollowed := true, recurses := true, apart := false, narrowed := true }
def UsageHeavyUptoSaid : Prop := usageHeavyUptoRow.holds Try.pinned (OpenSpec.upto usageHeavySpec)

end Rows
end Go.Proofs.Ytfoafookodldfaa
