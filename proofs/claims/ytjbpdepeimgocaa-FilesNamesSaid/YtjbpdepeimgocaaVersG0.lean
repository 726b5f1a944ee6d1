/-
  Written by mkd.py out of XVers: vers.order, the draws counted: what slices.SortFunc asks of it.
-/
import Derived.Test.YtjbpdepeimgocaaProg
import Derived.Test.YtjbpdepeimgocaaVerP
import Derived.Test.YtjbpdepeimgocaaBaseD
import Derived.Sort.Grow
namespace Go.Proofs.Ytjbpdepeimgocaa.D
open Go.RowKit

set_option maxHeartbeats 400000 in
theorem isNaN_c (a : Int) (w : World) : Calls Try.prog 52 #[.int .i64 a] w (Ret (.bool false) w) := by
  go_enter Try.func52, Try.ntmps52
  go_wp2
  go_ret
  exact ⟨rfl, Ext.refl _⟩

set_option maxHeartbeats 400000 in
theorem compare_c (a b : Int) (w : World) : Calls Try.prog 40 #[.int .i64 a, .int .i64 b] w (Ret (.int .i64 (cmpI a b)) w) := by
  go_enter Try.func40, Try.ntmps40
  go_wp2_with (go_at_call 52; refine (isNaN_c _ _).mono ?_; rintro e w' ⟨rfl, hx⟩)
  all_goals go_ret
  all_goals refine ⟨?_, by exact Ext.trans (by assumption) (by assumption)⟩
  all_goals simp_all [cmpI]
  all_goals omega

set_option maxHeartbeats 400000 in
theorem or_c (zs : List Int) (v : Value) (w : World) (hs : Sl w 1 v (Ints zs)) : Calls Try.prog 39 #[v] w (Ret (.int .i64 (orI zs)) w) := by
  obtain ⟨A, c, rfl, hn, hm, hc⟩ := hs
  simp only [Ints, List.length_map] at hn hc ⊢
  unfold maxLen at hm
  go_enter Try.func39, Try.ntmps39
  go_wp2
  go_loop [8] (fun i => ∃ k : Nat, k ≤ zs.length ∧ i = .int .i64 k ∧ orI zs = orI (zs.drop k)) (fun i => zs.length - (intOf i).toNat)
  case atStart => exact ⟨0, by omega, rfl, by simp⟩
  case round =>
    obtain ⟨k, hk, rfl, hor⟩ := hrel
    have Hor := hid hor
    clear hor
    by_cases hlt : k < zs.length
    · obtain ⟨b, o, rfl, hb, hcell⟩ := hc (by omega)
      have hck := hcell k [.int .i64 zs[k]] 0 (.int .i64 zs[k]) (by simp [hlt]) rfl
      simp only [Nat.mul_one, Nat.add_zero] at hck
      clear hc hcell
      go_wp2
      · go_ret
        exact ⟨(by rw [Hor.out, orI_hit zs k hlt (by simp_all)]; rfl), Ext.refl _⟩
      · go_round
        case rel => exact ⟨k+1, by omega, by go_num, by rw [Hor.out, orI_drop zs k hlt (by simp_all)]⟩
        case measure => simp [intOf]; omega
    · clear hc
      go_wp2
      go_ret
      exact ⟨by rw [Hor.out, List.drop_eq_nil_of_le (by omega)]; rfl, Ext.refl _⟩

set_option maxRecDepth 100000 in
set_option maxHeartbeats 1000000 in
theorem order_c (a b : Ver) (w : World) : Calls Try.prog 32 #[a.val, b.val] w (Ret (.int .i64 (cmpVer a b)) w) := by
  unfold Ver.val
  go_enter Try.func32, Try.ntmps32
  go_wp2_with fail
  refine wp_region_any_order (by kernel_rfl) (by kernel_rfl) (by kernel_rfl) ?_
  repeat (first
    | (refine AWq.val rfl rfl rfl rfl (fun K hK => ?_); go_big_quiet_op; refine hK _ ?_; clear hK K)
    | (refine AWq.skip rfl rfl rfl ?_; simp only [Act.put, List.setIfInBounds_toArray, List.set_cons_succ, List.set_cons_zero])
    | (refine AWq.call rfl Try.func40 (by kernel_rfl) (by kernel_rfl) rfl rfl rfl ?_; apply Exists.intro; refine And.intro (fun wc hc => ?_) ?_; (· (simp only [argsOf, anyAt, ↓reduceIte, Nat.reduceEqDiff, Array.getD_eq_getD_getElem?, List.getElem?_toArray, List.getElem?_cons_succ, List.getElem?_cons_zero, Option.getD_some]; with_reducible exact compare_c _ _ _)); simp only [Act.put, List.setIfInBounds_toArray, List.set_cons_succ, List.set_cons_zero])
    | (refine AWq.opV (NewSl 3 #[.int .i64 (cmpI a.by_ b.by_), .int .i64 (cmpI a.n b.n)] 2 2) (NewSl.steady _ _ _ _) rfl rfl rfl rfl (fun wc hc => ?_) ?_; (· (have hc' := hc.rule; clear hc; go_simp; dsimp only [Gives]; exact ⟨⟨_, rfl, Blk.new _ _ _⟩, Ext.alloc _ _⟩)))
    | (refine AWq.call rfl Try.func39 (by kernel_rfl) (by kernel_rfl) rfl rfl rfl ?_; apply Exists.intro; refine And.intro (fun wc hc => ?_) ?_; (· (simp only [argsOf, anyAt, ↓reduceIte, Nat.reduceEqDiff, Array.getD_eq_getD_getElem?, List.getElem?_toArray, List.getElem?_cons_succ, List.getElem?_cons_zero, Option.getD_some]; intro y hy; obtain ⟨g, rfl, hg⟩ := hy; exact or_c _ _ _ (sl_ints (zs := [_, _]) hg (by simp [maxLen])))); simp only [Act.put, List.setIfInBounds_toArray, List.set_cons_succ, List.set_cons_zero]))
  refine AWq.done rfl rfl rfl (fun w1 h1 => ?_)
  simp only [closeAny, Act.put, List.setIfInBounds_toArray, List.set_cons_succ, List.set_cons_zero]
  intro _ _
  go_wp2
  go_ret
  exact ⟨rfl, (((Ext.refl _).alloc' _).alloc' _).trans h1⟩

theorem order_g (a b : Ver) (W : World) : Calls Try.prog 32 #[a.val, b.val] W fun e w' => e = .returned (.int .i64 (cmpVer a b)) ∧ ∃ q os', w' = Go.Sort.grow (W.drewN q) os' :=
  (order_c a b W).mono fun e w' ⟨he, hx⟩ => by
    obtain ⟨E, hE⟩ := hx.wext
    exact ⟨he, E.drawn, E.objs, hE⟩
end Go.Proofs.Ytjbpdepeimgocaa.D
