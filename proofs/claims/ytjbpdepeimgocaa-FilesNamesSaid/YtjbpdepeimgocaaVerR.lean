/-
  '==' of versions; the document's Before.
-/
import Derived.Test.YtjbpdepeimgocaaProg
import Derived.Test.YtjbpdepeimgocaaVerP
namespace Go.Proofs.Ytjbpdepeimgocaa
set_option linter.unusedSimpArgs false
set_option linter.unusedVariables false
open Go.RowKit

theorem run_eqIn_ver (a1 a2 b1 b2 : Int) (w : World) : (Op.equalIn 9999 26 (.agg #[.int .i64 a1, .int .i64 a2]) (.agg #[.int .i64 b1, .int .i64 b2])).run Try.prog w = .ok (eq2 a1 a2 b1 b2) w := by
  by_cases h1 : a1 = b1 <;> by_cases h2 : a2 = b2 <;> simp [go_sem, eq2, h1, h2]
theorem run_eq_ver (a1 a2 b1 b2 : Int) (w : World) : (Op.equalIn 10000 26 (.agg #[.int .i64 a1, .int .i64 a2]) (.agg #[.int .i64 b1, .int .i64 b2])).run Try.prog w = .ok (eq2 a1 a2 b1 b2) w := by
  by_cases h1 : a1 = b1 <;> by_cases h2 : a2 = b2 <;> simp [go_sem, eq2, h1, h2]
attribute [go_sem 2000] run_eq_ver
set_option maxHeartbeats 400000 in
theorem rbefore_c (a b : Ver) (w : World) : Calls Try.prog 30 #[a.val, b.val] w (Ret (.bool (a.lt b)) w) := by
  unfold Ver.val
  go_enter Try.func30, Try.ntmps30
  go_wp2
  all_goals go_ret
  all_goals refine ⟨?_, ((Ext.refl _).alloc' _).alloc' _⟩
  all_goals simp_all [Ver.lt]
  all_goals omega
end Go.Proofs.Ytjbpdepeimgocaa
