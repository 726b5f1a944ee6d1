/-
  Of the claim's proof: MgQ.
-/
import Derived.Test.YtofjpdgojoppbaaGreatDoorS27
import Derived.Test.YtofjpdgojoppbaaGreatDoorS32
set_option maxRecDepth 100000
set_option maxHeartbeats 16000000
set_option linter.unusedVariables false
set_option linter.unusedSimpArgs false
namespace Go.Proofs.YtofjpdgojoppbaaGreatDoor
open Go.RowKit
theorem sl_n {α:Type} {code:α→List Value} {sz:Nat} {l:List α} {s:SlV} {w:World} (h:Sl w sz s.val (l.map code)):s.n=l.length:=by
 obtain⟨A,c,e,_⟩:=zr h;unfold SlV.val at e;injection e
attribute [-simp] Tryz.isAgg36 Tryz.sizeOf36 Tryz.isAgg33 Tryz.sizeOf33
end Go.Proofs.YtofjpdgojoppbaaGreatDoor
