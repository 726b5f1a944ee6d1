/-
  What versions and numbers that come in read as.
-/
import Derived.Test.YtggbkjmedoooaaaGreatDoorRows
import Derived.Test.YtggbkjmedoooaaaGreatDoorOpen
namespace Go.Proofs.YtggbkjmedoooaaaGreatDoor
set_option linter.unusedSimpArgs false
set_option linter.unusedVariables false
open Go.RowKit Go.ChangeShapes Go.WideShapes Go.ChangeAt Go.Deep

theorem underlyingBool : Tryz.prog.underlying 4 = some .bool := Tryz.underlying4
theorem own : ownKnob Tryz.prog.godebug = none := by kernel_rfl
theorem laidOut : laidOutB Tryz.prog = true := by kernel_rfl
theorem cellsInt : Tryz.prog.cellsOf 3 = 1 := by kernel_rfl

theorem opens_i64 (w : World) : Opens Tryz.prog w 3 (fun z : Int => [.int .i64 z]) okI := opens_int Tryz.underlying3

end Go.Proofs.YtggbkjmedoooaaaGreatDoor
