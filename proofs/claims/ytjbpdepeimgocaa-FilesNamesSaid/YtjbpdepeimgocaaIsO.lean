/-
  What versions and numbers that come in read as.
-/
import Derived.Test.YtjbpdepeimgocaaRows
import Derived.Test.YtjbpdepeimgocaaVerP
import Derived.Test.YtjbpdepeimgocaaOpen
namespace Go.Proofs.Ytjbpdepeimgocaa
set_option linter.unusedSimpArgs false
set_option linter.unusedVariables false
open Go.RowKit Go.ChangeShapes Go.WideShapes Go.ChangeAt Go.Deep

theorem underlyingBool : Try.prog.underlying 4 = some .bool := Try.underlying4
theorem own : ownKnob Try.prog.godebug = none := by kernel_rfl
theorem laidOut : laidOutB Try.prog = true := by kernel_rfl
theorem cellsVer : Try.prog.cellsOf 26 = 2 := by kernel_rfl
theorem cellsInt : Try.prog.cellsOf 3 = 1 := by kernel_rfl

theorem opens_i64 (w : World) : Opens Try.prog w 3 (fun z : Int => [.int .i64 z]) okI := opens_int Try.underlying3

set_option maxRecDepth 100000 in
theorem opens_ver (w : World) : Opens Try.prog w 26 Ver.cells (fun v => okI v.by_ ∧ okI v.n) := by
  intro H enc fuel cs x h
  obtain ⟨xs, n, _, _, hlen, hxs, hf⟩ := DataW.trod_struct Try.underlying26 h
  rw [cellsVer] at hlen
  match cs, hlen with
  | [c0, c1], _ =>
    obtain ⟨a, ha, oa⟩ := field_at hxs hf (i := 0) rfl cellsInt (opens_i64 w)
    obtain ⟨b, hb, ob⟩ := field_at hxs hf (i := 1) rfl cellsInt (opens_i64 w)
    simp at ha hb
    subst ha hb
    exact ⟨⟨a, b⟩, rfl, oa, ob⟩
end Go.Proofs.Ytjbpdepeimgocaa
