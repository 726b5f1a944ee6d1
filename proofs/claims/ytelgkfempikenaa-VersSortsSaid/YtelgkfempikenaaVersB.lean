/-
  Package vers, and what holds it against its document: contracts of the small functions.
-/
import Derived.Test.YtelgkfempikenaaVers
import Derived.Test.YtelgkfempikenaaVerR
namespace Go.Proofs.Ytelgkfempikenaa
set_option linter.unusedSimpArgs false
set_option linter.unusedVariables false
open Go.RowKit

def Stamp.lt (a b : Stamp) : Bool := if a.time = b.time then a.v.lt b.v else decide (a.time < b.time)
set_option maxHeartbeats 400000 in
theorem older_c (a b : Stamp) (w : World) : Calls Try.prog 8 #[a.val, b.val] w (Ret (.bool (a.lt b)) w) := by
  unfold Stamp.val
  have hb := fun W => rbefore_c a.v b.v W
  unfold Ver.val at hb
  have Hb := hid hb
  clear hb
  by_cases ht : a.time = b.time
  · have hl : a.lt b = a.v.lt b.v := by simp [Stamp.lt, ht]
    rw [hl]
    clear hl
    go_enter Try.func8, Try.ntmps8
    go_wp2_with (go_at_call 20; refine (Hb.out _).mono ?_; rintro e w' ⟨rfl, hx⟩)
    go_ret
    exact ⟨rfl, (((Ext.refl _).alloc' _).alloc' _).trans hx⟩
  · have hl : a.lt b = decide (a.time < b.time) := by simp [Stamp.lt, ht]
    rw [hl]
    clear hl
    go_enter Try.func8, Try.ntmps8
    go_wp2_with fail
    go_ret
    exact ⟨rfl, (((Ext.refl _).alloc' _).alloc' _)⟩
def checkV (v : Ver) : Int := if 1 ≤ v.by_ ∧ v.by_ ≤ 64 ∧ 1 ≤ v.n then 0 else 2
set_option maxHeartbeats 400000 in
theorem check_c (v : Ver) (w : World) : Calls Try.prog 11 #[v.val] w (Ret (.int .i64 (checkV v)) w) := by
  unfold Ver.val
  go_enter Try.func11, Try.ntmps11
  go_wp2
  all_goals go_ret
  all_goals refine ⟨?_, (Ext.refl _).alloc' _⟩
  all_goals simp_all [checkV]
  all_goals omega
set_option maxHeartbeats 400000 in
theorem right_c (v : Ver) (w : World) : Calls Try.prog 13 #[v.val] w (Ret (.bool (decide (1 ≤ v.by_ ∧ v.by_ ≤ 64 ∧ 1 ≤ v.n))) w) := by
  unfold Ver.val
  go_enter Try.func13, Try.ntmps13
  go_wp2
  all_goals go_ret
  all_goals refine ⟨?_, (Ext.refl _).alloc' _⟩
  all_goals simp_all
  all_goals omega
def checkS (s : Stamp) : Int := if s.time < 1 then 2 else checkV s.v
set_option maxHeartbeats 400000 in
theorem checkStamp_c (s : Stamp) (w : World) : Calls Try.prog 12 #[s.val] w (Ret (.int .i64 (checkS s)) w) := by
  unfold Stamp.val
  have hb := fun W => check_c s.v W
  unfold Ver.val at hb
  have Hb := hid hb
  clear hb
  go_enter Try.func12, Try.ntmps12
  go_wp2_with (go_at_call 11; refine (Hb.out _).mono ?_; rintro e w' ⟨rfl, hx⟩)
  · go_ret
    exact ⟨by simp_all [checkS], (Ext.refl _).alloc' _⟩
  · go_ret
    exact ⟨by simp_all [checkS]; omega, ((Ext.refl _).alloc' _).trans hx⟩
set_option maxHeartbeats 400000 in
theorem high_c (a b : Int) (w : World) : Calls Try.prog 14 #[.int .i64 a, .int .i64 b] w (Ret (.int .i64 (max a b)) w) := by
  go_enter Try.func14, Try.ntmps14
  go_wp2
  all_goals go_ret
  all_goals refine ⟨?_, Ext.refl _⟩
  all_goals simp
  all_goals omega
set_option maxHeartbeats 400000 in
theorem stamp_c (a b c : Int) (w : World) : Calls Try.prog 24 #[.int .i64 a, .int .i64 b, .int .i64 c] w (Ret (Stamp.val ⟨⟨b, c⟩, a⟩) w) := by
  unfold Stamp.val
  go_enter Try.func24, Try.ntmps24
  go_wp2
  exact bodyPost_ret (v := .agg #[.int .i64 b, .int .i64 c, .int .i64 a]) (by simp [results, Try.results24, go_sem]) rfl ⟨rfl, (Ext.refl _).alloc' _⟩
end Go.Proofs.Ytelgkfempikenaa
