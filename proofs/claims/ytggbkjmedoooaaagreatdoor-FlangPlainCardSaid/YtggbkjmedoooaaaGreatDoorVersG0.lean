/-
  Written by mkd.py out of XVers: vers.order, the draws counted: what slices.SortFunc asks of it.
-/
import Derived.Test.YtggbkjmedoooaaaGreatDoorProg
import Derived.Test.YtggbkjmedoooaaaGreatDoorVerP
import Derived.Test.YtggbkjmedoooaaaGreatDoorBaseD
import Derived.Sort.Grow
namespace Go.Proofs.YtggbkjmedoooaaaGreatDoor.D
open Go.RowKit

set_option maxHeartbeats 400000 in
theorem isNaN_c (a : Int) (w : World) : Calls Tryz.prog 102 #[.int .i64 a] w (Ret (.bool false) w) := by
  go_enter Tryz.func102, Tryz.ntmps102
  go_wp2
  go_ret
  exact ⟨rfl, Ext.refl _⟩

set_option maxHeartbeats 400000 in
theorem compare_c (a b : Int) (w : World) : Calls Tryz.prog 81 #[.int .i64 a, .int .i64 b] w (Ret (.int .i64 (cmpI a b)) w) := by
  go_enter Tryz.func81, Tryz.ntmps81
  go_wp2_with (go_at_call 102; refine (isNaN_c _ _).mono ?_; rintro e w' ⟨rfl, hx⟩)
  all_goals go_ret
  all_goals refine ⟨?_, by exact Ext.trans (by assumption) (by assumption)⟩
  all_goals simp_all [cmpI]
  all_goals omega

end Go.Proofs.YtggbkjmedoooaaaGreatDoor.D
