/-
  Rows of texts: what append asks of them; the order of texts.
-/
import Derived.Test.YtggbkjmedoooaaaGreatDoorProg
import Derived.Test.YtggbkjmedoooaaaGreatDoorRow
import Derived.Test.YtggbkjmedoooaaaGreatDoorSrt
import Derived.Test.YtggbkjmedoooaaaGreatDoorStr
namespace Go.Proofs.YtggbkjmedoooaaaGreatDoor
set_option linter.unusedSimpArgs false
set_option linter.unusedVariables false
open Go.RowKit

theorem str_info : (Tryz.prog.info? 9).map (fun i => (i.zero, i.size, i.bytes)) = some (some (.string ⟨#[]⟩), 1, 16) := by kernel_rfl
theorem str_elem : Elem Tryz.prog 43 9 1 16 := by
  obtain ⟨i0, h0, h1, h2, h3⟩ := info_parts str_info
  exact ⟨Tryz.underlying43, i0, _, h0, h1, h2, h3, rfl⟩
def strC (s : ByteArray) : List Value := [.string s]
theorem str_coded : Coded strC 1 := ⟨fun _ => rfl, fun a u hu => by simp [strC] at hu; rcases hu with rfl; rfl⟩
theorem blt_strict : Strict blt := ⟨blt_irrefl, fun _ _ _ => blt_trans, fun _ _ => blt_total⟩
end Go.Proofs.YtggbkjmedoooaaaGreatDoor
