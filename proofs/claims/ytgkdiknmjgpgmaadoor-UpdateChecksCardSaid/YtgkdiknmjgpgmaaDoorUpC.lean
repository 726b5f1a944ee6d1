/-
  vers.Check, CheckStamp; the document's Right of a version; which updates may be.
-/
import Derived.Test.YtgkdiknmjgpgmaaDoorUpB
namespace Go.Proofs.YtgkdiknmjgpgmaaDoor
set_option linter.unusedSimpArgs false
set_option linter.unusedVariables false
open Go.RowKit

def rightV (v : Ver) : Bool := decide (1 ≤ v.by_ ∧ v.by_ ≤ 64 ∧ 1 ≤ v.n)
def checkV (v : Ver) : Int := if rightV v then 0 else 2
theorem checkV_yes {v : Ver} (h : rightV v = true) : checkV v = 0 := by unfold checkV; rw [if_pos h]
theorem checkV_no {v : Ver} (h : rightV v = false) : checkV v = 2 := by unfold checkV; rw [h]; rfl
set_option maxHeartbeats 400000 in
theorem vcheck_c (v : Ver) (w : World) : Calls Tryd.prog 47 #[v.val] w (Ret (.int .i64 (checkV v)) w) := by
  unfold Ver.val
  go_enter Tryd.func47, Tryd.ntmps47
  go_wp2
  all_goals go_ret
  all_goals refine ⟨?_, (Ext.refl _).alloc' _⟩
  all_goals simp_all [checkV, rightV]
  all_goals omega
def rightS (s : Stamp) : Bool := decide (1 ≤ s.time) && rightV s.v
def checkS (s : Stamp) : Int := if rightS s then 0 else 2
theorem checkS_yes {s : Stamp} (h : rightS s = true) : checkS s = 0 := by unfold checkS; rw [if_pos h]
theorem checkS_no {s : Stamp} (h : rightS s = false) : checkS s = 2 := by unfold checkS; rw [h]; rfl
set_option maxHeartbeats 400000 in
theorem vstamp_c (s : Stamp) (w : World) : Calls Tryd.prog 48 #[s.val] w (Ret (.int .i64 (checkS s)) w) := by
  unfold Stamp.val
  have hb := fun W => vcheck_c s.v W
  unfold Ver.val at hb
  have Hb := hid hb
  clear hb
  go_enter Tryd.func48, Tryd.ntmps48
  go_wp2_with (go_at_call 47; refine (Hb.out _).mono ?_; rintro e w' ⟨rfl, hx⟩)
  · go_ret
    exact ⟨by simp_all [checkS, rightS] <;> omega, (Ext.refl _).alloc' _⟩
  · go_ret
    exact ⟨by simp_all [checkS, checkV, rightS] <;> omega, ((Ext.refl _).alloc' _).trans hx⟩
set_option maxHeartbeats 400000 in
theorem vright_c (v : Ver) (w : World) : Calls Tryd.prog 50 #[v.val] w (Ret (.bool (rightV v)) w) := by
  unfold Ver.val
  go_enter Tryd.func50, Tryd.ntmps50
  go_wp2
  all_goals go_ret
  all_goals refine ⟨?_, (Ext.refl _).alloc' _⟩
  all_goals simp_all [rightV]
  all_goals omega
end Go.Proofs.YtgkdiknmjgpgmaaDoor
