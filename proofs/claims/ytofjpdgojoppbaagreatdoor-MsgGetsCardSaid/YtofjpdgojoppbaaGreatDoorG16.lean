/-
  Of the claim's proof: KnC.
-/
import Derived.Test.YtofjpdgojoppbaaGreatDoorG14
set_option maxRecDepth 100000
set_option maxHeartbeats 16000000
set_option linter.unusedVariables false
set_option linter.unusedSimpArgs false
namespace Go.Proofs.YtofjpdgojoppbaaGreatDoor
open Go.RowKit
theorem zae {w:World} {b off:Nat} {cs:Array Value} (hz:cs.size=65) (h:∀ (j:Nat) v,cs[j]? = some v→w.cell? ⟨b,off+j,none⟩=some v):(loadVar 33 ⟨b,off,none⟩).run Tryz.prog w=.ok (.agg cs) w:=by
 have:=run_loadVar_mid (P:=Tryz.prog) w b off 33 cs.toList _ (fun j v hv=>h j v (by simpa using hv)) Tryz.underlying33 rfl (by rw[Array.length_toList,hz];exact zY);simpa using this
theorem zbo:(Tryz.prog.info? 126).map (·.size)=some 67:=by kernel_rfl
theorem zbB {w:World} {b off:Nat} {cs:Array Value} (hz:cs.size=67) (h:∀ (j:Nat) v,cs[j]? = some v→w.cell? ⟨b,off+j,none⟩=some v):(loadVar 126 ⟨b,off,none⟩).run Tryz.prog w=.ok (.agg cs) w:=by
 have:=run_loadVar_mid (P:=Tryz.prog) w b off 126 cs.toList _ (fun j v hv=>h j v (by simpa using hv)) Tryz.underlying126 rfl (by rw[Array.length_toList,hz];exact zbo);simpa using this
end Go.Proofs.YtofjpdgojoppbaaGreatDoor
