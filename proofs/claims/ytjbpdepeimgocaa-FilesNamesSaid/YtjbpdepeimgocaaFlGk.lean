/-
  The document's Leaves: some leaves, whose texts are not too long.
-/
import Derived.Test.YtjbpdepeimgocaaFlFk
namespace Go.Proofs.Ytjbpdepeimgocaa
set_option linter.unusedSimpArgs false
set_option linter.unusedVariables false
open Go.RowKit Go.Sort

/-- Fine: an update that may be asked for. -/
def Fine (u : UpdI) : Prop := lightU u = true ∧ okV u.item
def Slight (x : LeafI) : Prop := x.name.size ≤ 300 ∧ x.path.size ≤ 300 ∧ x.d.size ≤ 400
end Go.Proofs.Ytjbpdepeimgocaa
