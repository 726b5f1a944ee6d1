/-
  Versions can be told apart. Of no program.
-/
import Derived.Test.YtjbpdepeimgocaaVerP
namespace Go.Proofs.Ytjbpdepeimgocaa
set_option linter.unusedSimpArgs false
set_option linter.unusedVariables false
open Go.RowKit

instance : DecidableEq Ver := fun a b => if h : a.by_ = b.by_ ∧ a.n = b.n then isTrue (by cases a; cases b; simp_all) else isFalse (by rintro rfl; exact h ⟨rfl, rfl⟩)
end Go.Proofs.Ytjbpdepeimgocaa
