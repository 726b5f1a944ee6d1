/-
  vers.Check; the document's Right of a version.
-/
import Derived.Test.YtjbpdepeimgocaaProg
import Derived.Test.YtjbpdepeimgocaaRow
import Derived.Test.YtjbpdepeimgocaaVrE
namespace Go.Proofs.Ytjbpdepeimgocaa
set_option linter.unusedSimpArgs false
set_option linter.unusedVariables false
open Go.RowKit

def rightV (v : Ver) : Bool := decide (1 ≤ v.by_ ∧ v.by_ ≤ 64 ∧ 1 ≤ v.n)
def checkV (v : Ver) : Int := if rightV v then 0 else 2
theorem checkV_yes {v : Ver} (h : rightV v = true) : checkV v = 0 := by unfold checkV; rw [if_pos h]
theorem checkV_no {v : Ver} (h : rightV v = false) : checkV v = 2 := by unfold checkV; rw [h]; rfl
set_option maxHeartbeats 400000 in
theorem vright_c (v : Ver) (w : World) : Calls Try.prog 11 #[v.val] w (Ret (.bool (rightV v)) w) := by
  unfold Ver.val
  go_enter Try.func11, Try.ntmps11
  go_wp2
  all_goals go_ret
  all_goals refine ⟨?_, (Ext.refl _).alloc' _⟩
  all_goals simp_all [rightV]
  all_goals omega
end Go.Proofs.Ytjbpdepeimgocaa
