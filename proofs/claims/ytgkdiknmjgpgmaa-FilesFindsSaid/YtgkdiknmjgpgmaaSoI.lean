/-
  The library's sort laid at this program (written by the kit's lay-plain).
-/
import Derived.Shelf.SlSortCmp.NoneTotal
import Derived.Test.YtgkdiknmjgpgmaaProg
namespace Go.Proofs.Ytgkdiknmjgpgmaa
open Go Go.Proofs Go.Shelf
def Try.insLeaf_ren : Go.Shelf.Ren := ⟨fun | 20 => 77 | n => n, fun | 24 => 35 | 22 => 31 | 3 => 3 | 25 => 65 | 4 => 4 | 0 => 0 | n => n, fun | n => n⟩
theorem Try.insLeaf : Go.Proofs.SlLaysF0.n20 Try.prog Try.insLeaf_ren := {
  mixed := by kernel_rfl
  f20 := ⟨Try.f77.name, by decide, Try.func77.trans (congrArg some (by kernel_rfl))⟩
  t0 := Try.underlying0
  a0 := Try.isAgg0
  z0 := Try.sizeOf0
  v0 := Try.zeroValue0
  t3 := Try.underlying3
  a3 := Try.isAgg3
  z3 := Try.sizeOf3
  v3 := Try.zeroValue3
  t4 := Try.underlying4
  a4 := Try.isAgg4
  z4 := Try.sizeOf4
  v4 := Try.zeroValue4
  t22 := Try.underlying31
  a22 := Try.isAgg31
  z22 := Try.sizeOf31
  v22 := Try.zeroValue31
  t25 := Try.underlying65
  a25 := Try.isAgg65
  z25 := Try.sizeOf65
  v25 := Try.zeroValue65 }
end Go.Proofs.Ytgkdiknmjgpgmaa
