/-
  answer of chapter 17.
-/
import Derived.Test.YtanflgipdiogaaaDoorPkAk
namespace Go.Proofs.YtanflgipdiogaaaDoor
set_option linter.unusedSimpArgs false
set_option linter.unusedVariables false
open Go.RowKit

set_option maxRecDepth 100000 in
set_option maxHeartbeats 1000000 in
theorem answer17_c (w : World) (b : Bool) (s : ByteArray) : Calls Tryd.prog 20 #[.string (putB b s), .int .i64 (okZ b), .bool b, .string s] w (Ret (.bool true) w) := by
  cases b with
  | false =>
    rw [show putB false s = ⟨#[]⟩ from rfl, show okZ false = 2 from rfl]
    go_enter Tryd.func20, Tryd.ntmps20
    go_wp2_with fail
    go_ret
    exact ⟨rfl, Ext.refl _⟩
  | true =>
    rw [show putB true s = s from rfl, show okZ true = 0 from rfl]
    have d0 : (s.toList == s.toList) = true := by simp
    go_enter Tryd.func20, Tryd.ntmps20
    go_wp2_with fail
    go_ret
    exact ⟨rfl, Ext.refl _⟩
end Go.Proofs.YtanflgipdiogaaaDoor
