/-
  answer, Light; '==' of an update and a meta with itself.
-/
import Derived.Test.YtanflgipdiogaaaDoorPkQk
import Derived.Test.YtanflgipdiogaaaDoorQaE
namespace Go.Proofs.YtanflgipdiogaaaDoor
set_option linter.unusedSimpArgs false
set_option linter.unusedVariables false
open Go.RowKit

theorem run_eq_verN (a b : Int) (w : World) : (Op.equalIn 9999 34 (.agg #[.int .i64 a, .int .i64 b]) (.agg #[.int .i64 a, .int .i64 b])).run Tryd.prog w = .ok true w := by
  simp [go_sem]
theorem run_eq_verM (a b : Int) (w : World) : (Op.equalIn 9998 34 (.agg #[.int .i64 a, .int .i64 b]) (.agg #[.int .i64 a, .int .i64 b])).run Tryd.prog w = .ok true w := by
  simp [go_sem]
attribute [go_sem 2000] run_eq_verN run_eq_verM
theorem run_eq_stampN (a b c : Int) (w : World) : (Op.equalIn 9999 36 (.agg #[.int .i64 a, .int .i64 b, .int .i64 c]) (.agg #[.int .i64 a, .int .i64 b, .int .i64 c])).run Tryd.prog w = .ok true w := by
  simp [go_sem]
attribute [go_sem 2000] run_eq_stampN
set_option maxRecDepth 100000 in
set_option maxHeartbeats 1000000 in
theorem run_eq_upd (a b c d e : Int) (p q : ByteArray) (x : Bool) (w : World) : (Op.equalIn 10000 38 (.agg #[.int .i64 a, .int .i64 b, .int .i64 c, .int .i64 d, .int .i64 e, .string p, .string q, .bool x]) (.agg #[.int .i64 a, .int .i64 b, .int .i64 c, .int .i64 d, .int .i64 e, .string p, .string q, .bool x])).run Tryd.prog w = .ok true w := by
  simp [go_sem]
set_option maxRecDepth 100000 in
set_option maxHeartbeats 1000000 in
theorem run_eq_met (a b c d e f : Int) (p : ByteArray) (x : Bool) (w : World) : (Op.equalIn 10000 40 (.agg #[.int .i64 a, .int .i64 b, .int .i64 c, .int .i64 d, .int .i64 e, .string p, .int .i64 f, .bool x]) (.agg #[.int .i64 a, .int .i64 b, .int .i64 c, .int .i64 d, .int .i64 e, .string p, .int .i64 f, .bool x])).run Tryd.prog w = .ok true w := by
  simp [go_sem]
attribute [go_sem 2000] run_eq_upd run_eq_met
def lightU (u : UpdI) : Bool := decide (u.p.size < 200) && decide (u.d.size < 400)
set_option maxRecDepth 100000 in
set_option maxHeartbeats 1000000 in
theorem light16_c (w : World) (u : UpdI) : Calls Tryd.prog 25 #[u.val] w (Ret (.bool (lightU u)) w) := by
  have HE := hid (Ext.alloc w (.cells #[.int .i64 u.item.by_, .int .i64 u.item.n, .int .i64 u.st.v.by_, .int .i64 u.st.v.n, .int .i64 u.st.time, .string u.p, .string u.d, .bool u.dead] 38))
  unfold lightU UpdI.val
  cases d0 : decide (u.p.size < 200) with
  | false =>
    have d0' : decide ((u.p.size : Int) < 200) = false := decide_eq_false (by have := of_decide_eq_false d0; omega)
    go_enter Tryd.func25, Tryd.ntmps25
    go_wp2_with fail
    go_ret
    exact ⟨rfl, HE.out⟩
  | true =>
    have d0' : decide ((u.p.size : Int) < 200) = true := decide_eq_true (by have := of_decide_eq_true d0; omega)
    cases d1 : decide (u.d.size < 400) with
    | false =>
      have d1' : decide ((u.d.size : Int) < 400) = false := decide_eq_false (by have := of_decide_eq_false d1; omega)
      go_enter Tryd.func25, Tryd.ntmps25
      go_wp2_with fail
      go_ret
      exact ⟨rfl, HE.out⟩
    | true =>
      have d1' : decide ((u.d.size : Int) < 400) = true := decide_eq_true (by have := of_decide_eq_true d1; omega)
      go_enter Tryd.func25, Tryd.ntmps25
      go_wp2_with fail
      go_ret
      exact ⟨rfl, HE.out⟩
end Go.Proofs.YtanflgipdiogaaaDoor
