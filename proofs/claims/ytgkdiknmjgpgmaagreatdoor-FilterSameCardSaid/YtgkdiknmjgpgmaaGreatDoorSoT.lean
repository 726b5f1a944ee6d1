/-
  slices.Sort of texts, laid at this program (written by the kit's lay-shelf and lay-plain).
-/
import Derived.Shelf.Sort.Plain
import Derived.Shelf.Slices.In.SortNone
import Derived.Test.YtgkdiknmjgpgmaaGreatDoorProg
namespace Go.Proofs.YtgkdiknmjgpgmaaGreatDoor
open Go Go.Proofs Go.Shelf
def Tryz.lays190_ren : Go.Shelf.Ren := ⟨fun | 190 => 34 | 125 => 51 | 258 => 50 | 128 => 70 | 129 => 71 | 302 => 61 | 303 => 62 | 304 => 63 | 305 => 64 | 306 => 65 | 307 => 66 | 308 => 67 | 309 => 68 | 310 => 69 | 333 => 79 | 329 => 80 | 330 => 81 | 334 => 82 | 335 => 83 | 336 => 84 | 344 => 96 | n => n, fun | 31 => 38 | 9 => 9 | 3 => 3 | 46 => 66 | 0 => 0 | 51 => 83 | 53 => 85 | 4 => 4 | 183 => 76 | 182 => 75 | 131 => 80 | 5 => 5 | 218 => 90 | 222 => 94 | 228 => 105 | 229 => 106 | n => n, fun | n => n⟩
theorem Tryz.lays190 : Go.Proofs.Lays.n190 Tryz.prog Tryz.lays190_ren := {
  mixed := by kernel_rfl
  f125 := Tryz.func51.trans (congrArg some (by kernel_rfl))
  f128 := Tryz.func70.trans (congrArg some (by kernel_rfl))
  f129 := Tryz.func71.trans (congrArg some (by kernel_rfl))
  f190 := Tryz.func34.trans (congrArg some (by kernel_rfl))
  f258 := Tryz.func50.trans (congrArg some (by kernel_rfl))
  f302 := Tryz.func61.trans (congrArg some (by kernel_rfl))
  f303 := Tryz.func62.trans (congrArg some (by kernel_rfl))
  f304 := Tryz.func63.trans (congrArg some (by kernel_rfl))
  f305 := Tryz.func64.trans (congrArg some (by kernel_rfl))
  f306 := Tryz.func65.trans (congrArg some (by kernel_rfl))
  f307 := Tryz.func66.trans (congrArg some (by kernel_rfl))
  f308 := Tryz.func67.trans (congrArg some (by kernel_rfl))
  f309 := Tryz.func68.trans (congrArg some (by kernel_rfl))
  f310 := Tryz.func69.trans (congrArg some (by kernel_rfl))
  f329 := Tryz.func80.trans (congrArg some (by kernel_rfl))
  f330 := Tryz.func81.trans (congrArg some (by kernel_rfl))
  f333 := Tryz.func79.trans (congrArg some (by kernel_rfl))
  f334 := Tryz.func82.trans (congrArg some (by kernel_rfl))
  f335 := Tryz.func83.trans (congrArg some (by kernel_rfl))
  f336 := Tryz.func84.trans (congrArg some (by kernel_rfl))
  f344 := Tryz.func96.trans (congrArg some (by kernel_rfl))
  t0 := Tryz.underlying0
  a0 := Tryz.isAgg0
  z0 := Tryz.sizeOf0
  v0 := Tryz.zeroValue0
  t3 := Tryz.underlying3
  a3 := Tryz.isAgg3
  z3 := Tryz.sizeOf3
  v3 := Tryz.zeroValue3
  t4 := Tryz.underlying4
  a4 := Tryz.isAgg4
  z4 := Tryz.sizeOf4
  v4 := Tryz.zeroValue4
  t5 := Tryz.underlying5
  a5 := Tryz.isAgg5
  z5 := Tryz.sizeOf5
  v5 := Tryz.zeroValue5
  t9 := Tryz.underlying9
  a9 := Tryz.isAgg9
  z9 := Tryz.sizeOf9
  v9 := Tryz.zeroValue9
  t31 := Tryz.underlying38
  a31 := Tryz.isAgg38
  z31 := Tryz.sizeOf38
  v31 := Tryz.zeroValue38
  t46 := Tryz.underlying66
  a46 := Tryz.isAgg66
  z46 := Tryz.sizeOf66
  v46 := Tryz.zeroValue66
  t51 := Tryz.underlying83
  a51 := Tryz.isAgg83
  z51 := Tryz.sizeOf83
  v51 := Tryz.zeroValue83
  t53 := Tryz.underlying85
  a53 := Tryz.isAgg85
  z53 := Tryz.sizeOf85
  v53 := Tryz.zeroValue85
  t131 := Tryz.underlying80
  a131 := Tryz.isAgg80
  z131 := Tryz.sizeOf80
  v131 := Tryz.zeroValue80
  t182 := Tryz.underlying75
  a182 := Tryz.isAgg75
  z182 := Tryz.sizeOf75
  v182 := Tryz.zeroValue75
  t183 := Tryz.underlying76
  a183 := Tryz.isAgg76
  z183 := Tryz.sizeOf76
  v183 := Tryz.zeroValue76
  t218 := Tryz.underlying90
  a218 := Tryz.isAgg90
  z218 := Tryz.sizeOf90
  v218 := Tryz.zeroValue90
  t222 := Tryz.underlying94
  a222 := Tryz.isAgg94
  z222 := Tryz.sizeOf94
  v222 := Tryz.zeroValue94
  t228 := Tryz.underlying105
  a228 := Tryz.isAgg105
  z228 := Tryz.sizeOf105
  v228 := Tryz.zeroValue105
  t229 := Tryz.underlying106
  a229 := Tryz.isAgg106
  z229 := Tryz.sizeOf106
  v229 := Tryz.zeroValue106 }
open Go.Sort Go.RowKit in
theorem Tryz.slices_Sort_string (blk off cap : Nat) (ss : List (List UInt8)) (w : World) (hH : Holds encStr w blk off ss.toArray) (hblk : blk < w.heap.size) (hsz : ss.length < 4611686018427387904) :
    Calls Tryz.prog 34 #[.slice (some ⟨blk, off, none⟩) ss.length cap] w fun e w' =>
      e = .returned (.tuple #[]) ∧ ∃ n os, w' = grow (putRow encStr (Sort.ahead w n) blk off (ss.mergeSort fun x y => decide (x ≤ y)).toArray) os := Any.slices_Sort_string Tryz.lays190 blk off cap ss w hH hblk hsz
open Go.RowKit Go.Sort in
theorem Tryz.slices_Sort_string_none (p : Option Addr) (cap : Nat) (w : World) :
    Calls Tryz.prog 34 #[.slice p 0 cap] w fun e w' => e = .returned (.tuple #[]) ∧ w' = w := Any.slices_Sort_string_none Tryz.lays190 p cap w
end Go.Proofs.YtgkdiknmjgpgmaaGreatDoor
