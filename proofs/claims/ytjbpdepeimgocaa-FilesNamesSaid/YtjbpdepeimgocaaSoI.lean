/-
  The library's sort laid at this program (written by the kit's lay-plain).
-/
import Derived.Shelf.SlSortCmp.NoneTotal
import Derived.Test.YtjbpdepeimgocaaProg
namespace Go.Proofs.Ytjbpdepeimgocaa
open Go Go.Proofs Go.Shelf
def Try.insLeaf_ren : Go.Shelf.Ren := ⟨fun | 20 => 35 | n => n, fun | 24 => 35 | 22 => 31 | 3 => 3 | 25 => 44 | 4 => 4 | 0 => 0 | n => n, fun | n => n⟩
theorem Try.insLeaf : Go.Proofs.SlLaysF0.n20 Try.prog Try.insLeaf_ren := {
  mixed := by kernel_rfl
  f20 := ⟨Try.f35.name, by decide, Try.func35.trans (congrArg some (by kernel_rfl))⟩
  t0 := Try.underlying0
  a0 := Try.isAgg0
  z0 := Try.sizeOf0
  v0 := Try.zeroValue0
  t3 := Try.underlying3
  a3 := Try.isAgg3
  z3 := Try.sizeOf3
  v3 := Try.zeroValue3
  t4 := Try.underlying4
  a4 := Try.isAgg4
  z4 := Try.sizeOf4
  v4 := Try.zeroValue4
  t22 := Try.underlying31
  a22 := Try.isAgg31
  z22 := Try.sizeOf31
  v22 := Try.zeroValue31
  t25 := Try.underlying44
  a25 := Try.isAgg44
  z25 := Try.sizeOf44
  v25 := Try.zeroValue44 }
end Go.Proofs.Ytjbpdepeimgocaa
