/-
  The law FilesSays: its walk.
-/
import Derived.Test.YtgkdiknmjgpgmaaFnH
namespace Go.Proofs.Ytgkdiknmjgpgmaa
set_option linter.unusedSimpArgs false
set_option linter.unusedVariables false
open Go.RowKit Go.Sort

set_option maxRecDepth 100000 in
set_option maxHeartbeats 4000000 in
theorem filesSays_walk (w : World) (p : ByteArray) (it : Ver) (h : okV it) : Calls Try.prog 4 #[.string p, it.val] w (Ret (.bool true) w) := by
  by_cases h3 : 300 < p.size
  · have d0 : decide ((300 : Int) < p.size) = true := by simp; omega
    unfold Ver.val
    go_enter Try.func4, Try.ntmps4
    go_wp2_with (go_at_call 14; refine (awake20_c _).mono ?_; rintro e w3 ⟨rfl, hx3⟩; have HW3 := hid hx3; clear hx3)
    go_ret
    exact ⟨rfl, (Ext.alloc _ _).trans HW3.out⟩
  · have d0 : decide ((300 : Int) < p.size) = false := by simp; omega
    have H1 := fun W => hid (fname_c p it W (by omega) h)
    have H2 := fun W => hid (rname20_c p it W (by omega) h)
    have H0 := fun W => hid (awake20_c W)
    generalize nameK p it = z at H1 H2
    unfold Ver.val at H1 H2 ⊢
    go_enter Try.func4, Try.ntmps4
    go_wp2_with fail
    refine wp_region_any_order (by kernel_rfl) (by kernel_rfl) (by kernel_rfl) ?_
    repeat (first
      | (refine AWq.val rfl rfl rfl rfl (fun K hK => ?_); go_big_quiet_op; refine hK _ ?_; clear hK K)
      | (refine AWq.skip rfl rfl rfl ?_; simp only [Act.put, List.setIfInBounds_toArray, List.set_cons_succ, List.set_cons_zero])
      | (refine AWq.call rfl Try.func14 (by kernel_rfl) (by kernel_rfl) rfl rfl rfl ?_; apply Exists.intro; refine And.intro (fun wc hc => ?_) ?_; (· (simp only [argsOf, anyAt, ↓reduceIte, Nat.reduceEqDiff, Array.getD_eq_getD_getElem?, List.getElem?_toArray, List.getElem?_cons_succ, List.getElem?_cons_zero, Option.getD_some]; with_reducible exact (H0 _).out)); simp only [Act.put, List.setIfInBounds_toArray, List.set_cons_succ, List.set_cons_zero])
      | (refine AWq.call rfl Try.func16 (by kernel_rfl) (by kernel_rfl) rfl rfl rfl ?_; apply Exists.intro; refine And.intro (fun wc hc => ?_) ?_; (· (simp only [argsOf, anyAt, ↓reduceIte, Nat.reduceEqDiff, Array.getD_eq_getD_getElem?, List.getElem?_toArray, List.getElem?_cons_succ, List.getElem?_cons_zero, Option.getD_some]; with_reducible exact (H1 _).out)); simp only [Act.put, List.setIfInBounds_toArray, List.set_cons_succ, List.set_cons_zero])
      | (refine AWq.call rfl Try.func17 (by kernel_rfl) (by kernel_rfl) rfl rfl rfl ?_; apply Exists.intro; refine And.intro (fun wc hc => ?_) ?_; (· (simp only [argsOf, anyAt, ↓reduceIte, Nat.reduceEqDiff, Array.getD_eq_getD_getElem?, List.getElem?_toArray, List.getElem?_cons_succ, List.getElem?_cons_zero, Option.getD_some]; with_reducible exact (H2 _).out)); simp only [Act.put, List.setIfInBounds_toArray, List.set_cons_succ, List.set_cons_zero]))
    refine AWq.done rfl rfl rfl (fun w2 x2 => ?_)
    simp only [closeAny, Act.put, List.setIfInBounds_toArray, List.set_cons_succ, List.set_cons_zero]
    go_wp2_with fail
    go_ret
    exact ⟨by simp, (Ext.alloc _ _).trans x2⟩
end Go.Proofs.Ytgkdiknmjgpgmaa
