/-
  Of the claim's proof: LtU.
-/
import Derived.Test.YtofjpdgojoppbaaGreatDoorG12
set_option maxRecDepth 100000
set_option maxHeartbeats 16000000
set_option linter.unusedVariables false
set_option linter.unusedSimpArgs false
namespace Go.Proofs.YtofjpdgojoppbaaGreatDoor
open Go.RowKit
theorem zhL (a b:Int) (w:World):(Op.equalIn 9999 51 (.agg #[.int .i64 a,.int .i64 b]) (.agg #[.int .i64 a,.int .i64 b])).run Tryz.prog w=.ok true w:=by
 simp[go_sem]
theorem zhM (a b:Int) (w:World):(Op.equalIn 9998 51 (.agg #[.int .i64 a,.int .i64 b]) (.agg #[.int .i64 a,.int .i64 b])).run Tryz.prog w=.ok true w:=by
 simp[go_sem]
attribute [go_sem 2000] zhL zhM
theorem zgc (a b c:Int) (w:World):(Op.equalIn 9999 53 (.agg #[.int .i64 a,.int .i64 b,.int .i64 c]) (.agg #[.int .i64 a,.int .i64 b,.int .i64 c])).run Tryz.prog w=.ok true w:=by
 simp[go_sem]
attribute [go_sem 2000] zgc
theorem ziQ (a b c d e:Int) (p q:ByteArray) (x:Bool) (w:World):(Op.equalIn 10000 55 (.agg #[.int .i64 a,.int .i64 b,.int .i64 c,.int .i64 d,.int .i64 e,.string p,.string q,.bool x]) (.agg #[.int .i64 a,.int .i64 b,.int .i64 c,.int .i64 d,.int .i64 e,.string p,.string q,.bool x])).run Tryz.prog w=.ok true w:=by
 simp[go_sem]
theorem ziR (a b c d e f:Int) (p:ByteArray) (x:Bool) (w:World):(Op.equalIn 10000 57 (.agg #[.int .i64 a,.int .i64 b,.int .i64 c,.int .i64 d,.int .i64 e,.string p,.int .i64 f,.bool x]) (.agg #[.int .i64 a,.int .i64 b,.int .i64 c,.int .i64 d,.int .i64 e,.string p,.int .i64 f,.bool x])).run Tryz.prog w=.ok true w:=by
 simp[go_sem]
attribute [go_sem 2000] ziQ ziR
end Go.Proofs.YtofjpdgojoppbaaGreatDoor
