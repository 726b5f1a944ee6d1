/-
  vers.Before, Check, CheckStamp; the document's Right, Older: contracts of the small functions.
-/
import Derived.Test.YtjbpdepeimgocaaUpA
import Derived.Test.YtjbpdepeimgocaaVerS
namespace Go.Proofs.Ytjbpdepeimgocaa
set_option linter.unusedSimpArgs false
set_option linter.unusedVariables false
open Go.RowKit

set_option maxHeartbeats 400000 in
theorem before_c (a b : Ver) (w : World) : Calls Try.prog 26 #[a.val, b.val] w (Ret (.bool (a.lt b)) w) := by
  unfold Ver.val
  have hb := fun W => order_e a b W
  unfold Ver.val at hb
  have Hb := hid hb
  have HL := hid (cmpVer_neg a b)
  clear hb
  generalize cmpVer a b = z at Hb HL
  go_enter Try.func26, Try.ntmps26
  go_wp2_with (go_at_call 32; refine (Hb.out _).mono ?_; rintro e w' ⟨rfl, hx⟩; have HX := hid hx; clear hx)
  go_ret
  exact ⟨by rw [← HL.out]; rfl, (((Ext.refl _).alloc' _).alloc' _).trans HX.out⟩
theorem older_eq (a b : Stamp) : older a b = if a.time = b.time then a.v.lt b.v else decide (a.time < b.time) := by
  unfold older Ver.lt
  by_cases h : a.time = b.time
  · rw [if_pos h, decide_eq_decide]; omega
  · rw [if_neg h, decide_eq_decide]; omega
set_option maxHeartbeats 400000 in
theorem older_c (a b : Stamp) (w : World) : Calls Try.prog 20 #[a.val, b.val] w (Ret (.bool (older a b)) w) := by
  rw [older_eq]
  unfold Stamp.val
  have hb := fun W => rbefore_c a.v b.v W
  unfold Ver.val at hb
  have Hb := hid hb
  clear hb
  by_cases ht : a.time = b.time
  · rw [if_pos ht]
    go_enter Try.func20, Try.ntmps20
    go_wp2_with (go_at_call 30; refine (Hb.out _).mono ?_; rintro e w' ⟨rfl, hx⟩)
    go_ret
    exact ⟨rfl, (((Ext.refl _).alloc' _).alloc' _).trans hx⟩
  · rw [if_neg ht]
    go_enter Try.func20, Try.ntmps20
    go_wp2_with fail
    go_ret
    exact ⟨rfl, (((Ext.refl _).alloc' _).alloc' _)⟩
theorem run_eqIn_stamp (a1 a2 a3 b1 b2 b3 : Int) (w : World) : (Op.equalIn 9999 28 (.agg #[.int .i64 a1, .int .i64 a2, .int .i64 a3]) (.agg #[.int .i64 b1, .int .i64 b2, .int .i64 b3])).run Try.prog w = .ok (eq3 a1 a2 a3 b1 b2 b3) w := by
  by_cases h1 : a1 = b1 <;> by_cases h2 : a2 = b2 <;> by_cases h3 : a3 = b3 <;> simp [go_sem, eq3, h1, h2, h3]
theorem run_eq_stamp (a1 a2 a3 b1 b2 b3 : Int) (w : World) : (Op.equalIn 10000 28 (.agg #[.int .i64 a1, .int .i64 a2, .int .i64 a3]) (.agg #[.int .i64 b1, .int .i64 b2, .int .i64 b3])).run Try.prog w = .ok (eq3 a1 a2 a3 b1 b2 b3) w := by
  by_cases h1 : a1 = b1 <;> by_cases h2 : a2 = b2 <;> by_cases h3 : a3 = b3 <;> simp [go_sem, eq3, h1, h2, h3]
attribute [go_sem 2000] run_eq_stamp
end Go.Proofs.Ytjbpdepeimgocaa
