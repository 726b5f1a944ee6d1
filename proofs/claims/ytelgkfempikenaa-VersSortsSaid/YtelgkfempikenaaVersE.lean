/-
  What must come at any rate (awake).
-/
import Derived.Test.YtelgkfempikenaaVersD
namespace Go.Proofs.Ytelgkfempikenaa
set_option linter.unusedSimpArgs false
set_option linter.unusedVariables false
open Go.RowKit

theorem stamp_raw (a b c : Int) (w : World) : Calls Try.prog 24 #[.int .i64 a, .int .i64 b, .int .i64 c] w (Ret (.agg #[.int .i64 b, .int .i64 c, .int .i64 a]) w) := stamp_c a b c w
theorem awake_cmp (w : World) : Calls Try.prog 9 #[.agg #[.int .i64 2, .int .i64 9, .int .i64 5], .agg #[.int .i64 3, .int .i64 1, .int .i64 5]] w (Ret (.int .i64 (-1)) w) := by
  have := vcompare_c ⟨⟨2, 9⟩, 5⟩ ⟨⟨3, 1⟩, 5⟩ w
  rw [show cmpStamp ⟨⟨2, 9⟩, 5⟩ ⟨⟨3, 1⟩, 5⟩ = -1 from by decide] at this
  exact this
theorem awake_chk (w : World) : Calls Try.prog 11 #[.agg #[.int .i64 64, .int .i64 1]] w (Ret (.int .i64 0) w) := by
  have := check_c ⟨64, 1⟩ w
  rw [show checkV ⟨64, 1⟩ = 0 from by decide] at this
  exact this
theorem awake_chk2 (w : World) : Calls Try.prog 11 #[.agg #[.int .i64 65, .int .i64 1]] w (Ret (.int .i64 2) w) := by
  have := check_c ⟨65, 1⟩ w
  rw [show checkV ⟨65, 1⟩ = 2 from by decide] at this
  exact this
theorem awake_newest (v : Value) (w : World) (h : Sl w 3 v (Stamps [⟨⟨2, 9⟩, 5⟩, ⟨⟨3, 1⟩, 5⟩, ⟨⟨9, 9⟩, 4⟩])) : Calls Try.prog 7 #[v] w (Ret (.tuple #[.agg #[.int .i64 3, .int .i64 1, .int .i64 5], .bool true]) w) := by
  have := newest_c _ _ w h
  rw [show newestK [⟨⟨2, 9⟩, 5⟩, ⟨⟨3, 1⟩, 5⟩, ⟨⟨9, 9⟩, 4⟩] = ⟨⟨3, 1⟩, 5⟩ from by simp [newestK, takeNew, cmpStamp, orI, cmpI, zeroStamp]] at this
  exact this
set_option maxHeartbeats 1000000 in
theorem awake_c (w : World) : Calls Try.prog 10 #[] w (Ret (.bool true) w) := by
  go_enter Try.func10, Try.ntmps10
  go_wp2_with (first
    | (go_at_call 24; (with_reducible refine (stamp_raw 5 2 9 _).mono ?_); rintro e v1 ⟨rfl, x1⟩)
    | (go_at_call 24; (with_reducible refine (stamp_raw 5 3 1 _).mono ?_); rintro e v2 ⟨rfl, x2⟩)
    | (go_at_call 24; (with_reducible refine (stamp_raw 4 9 9 _).mono ?_); rintro e v3 ⟨rfl, x3⟩)
    | (go_at_call 7; refine (awake_newest _ _ ?_).mono ?_; (· exact Sl.of_flat (Blk.new _ _ _) ⟨[], rfl⟩ (by simp [Stamps, Stamp.cells]) rfl (Nat.le_refl _) (by simp [maxLen])); rintro e v4 ⟨rfl, x4⟩))
  have e4 := ((x1.trans x2).trans x3).trans ((Ext.alloc _ _).trans x4)
  clear x1 x2 x3 x4
  refine wp_region_any_order (by kernel_rfl) (by kernel_rfl) (by kernel_rfl) ?_
  repeat (first
    | (refine AWq.val rfl rfl rfl rfl (fun K hK => ?_); go_big_quiet_op; refine hK _ ?_; clear hK K)
    | (refine AWq.skip rfl rfl rfl ?_; simp only [Act.put, List.setIfInBounds_toArray, List.set_cons_succ, List.set_cons_zero])
    | (refine AWq.call rfl Try.func24 (by kernel_rfl) (by kernel_rfl) rfl rfl rfl ?_; apply Exists.intro; refine And.intro (fun wc hc => ?_) ?_; (· (simp only [argsOf, anyAt, ↓reduceIte, Nat.reduceEqDiff, Array.getD_eq_getD_getElem?, List.getElem?_toArray, List.getElem?_cons_succ, List.getElem?_cons_zero, Option.getD_some]; with_reducible exact stamp_raw _ _ _ _)); simp only [Act.put, List.setIfInBounds_toArray, List.set_cons_succ, List.set_cons_zero])
    | (refine AWq.call rfl Try.func9 (by kernel_rfl) (by kernel_rfl) rfl rfl rfl ?_; apply Exists.intro; refine And.intro (fun wc hc => ?_) ?_; (· (simp only [argsOf, anyAt, ↓reduceIte, Nat.reduceEqDiff, Array.getD_eq_getD_getElem?, List.getElem?_toArray, List.getElem?_cons_succ, List.getElem?_cons_zero, Option.getD_some]; with_reducible exact awake_cmp _)); simp only [Act.put, List.setIfInBounds_toArray, List.set_cons_succ, List.set_cons_zero])
    | (refine AWq.call rfl Try.func11 (by kernel_rfl) (by kernel_rfl) rfl rfl rfl ?_; apply Exists.intro; refine And.intro (fun wc hc => ?_) ?_; (· (simp only [argsOf, anyAt, ↓reduceIte, Nat.reduceEqDiff, Array.getD_eq_getD_getElem?, List.getElem?_toArray, List.getElem?_cons_succ, List.getElem?_cons_zero, Option.getD_some]; with_reducible exact awake_chk _)); simp only [Act.put, List.setIfInBounds_toArray, List.set_cons_succ, List.set_cons_zero])
    | (refine AWq.call rfl Try.func11 (by kernel_rfl) (by kernel_rfl) rfl rfl rfl ?_; apply Exists.intro; refine And.intro (fun wc hc => ?_) ?_; (· (simp only [argsOf, anyAt, ↓reduceIte, Nat.reduceEqDiff, Array.getD_eq_getD_getElem?, List.getElem?_toArray, List.getElem?_cons_succ, List.getElem?_cons_zero, Option.getD_some]; with_reducible exact awake_chk2 _)); simp only [Act.put, List.setIfInBounds_toArray, List.set_cons_succ, List.set_cons_zero]))
  refine AWq.done rfl rfl rfl (fun w1 h1 => ?_)
  simp only [closeAny, Act.put, List.setIfInBounds_toArray, List.set_cons_succ, List.set_cons_zero]
  go_wp2
  go_ret
  exact ⟨rfl, e4.trans ((Ext.alloc _ _).trans h1)⟩
end Go.Proofs.Ytelgkfempikenaa
