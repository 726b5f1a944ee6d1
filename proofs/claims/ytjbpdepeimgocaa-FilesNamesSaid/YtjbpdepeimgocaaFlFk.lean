/-
  The document's View of nothing.
-/
import Derived.Test.YtjbpdepeimgocaaFlEk
namespace Go.Proofs.Ytjbpdepeimgocaa
set_option linter.unusedSimpArgs false
set_option linter.unusedVariables false
open Go.RowKit Go.Sort

theorem itemsK_take {l : List UpdI} {k : Nat} (h : k < l.length) : itemsK (l.take (k + 1)) = insL Ver.lt l[k].item (itemsK (l.take k)) := by
  unfold itemsK
  rw [List.take_succ_eq_append_getElem h, List.map_append]
  exact setL_snoc _ _
end Go.Proofs.Ytjbpdepeimgocaa
