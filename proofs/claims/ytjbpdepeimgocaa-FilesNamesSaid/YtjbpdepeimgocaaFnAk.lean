/-
  The package's digits and Name of an item behind another one.
-/
import Derived.Test.YtjbpdepeimgocaaFlEk
namespace Go.Proofs.Ytjbpdepeimgocaa
set_option linter.unusedSimpArgs false
set_option linter.unusedVariables false
open Go.RowKit Go.Sort

theorem ten_at : ∀ n : Nat, n < 10 → (⟨#[48, 49, 50, 51, 52, 53, 54, 55, 56, 57]⟩ : ByteArray).extract n (n + 1) = ⟨#[dgB n]⟩ := by decide
theorem ten_run (n : Nat) (h : n < 10) (w : World) : (Instr.slice 9 (.string ⟨#[48, 49, 50, 51, 52, 53, 54, 55, 56, 57]⟩) (some (.int .i64 n)) (some (.int .i64 (n + 1))) none).run Try.prog w = .ok (.string ⟨#[dgB n]⟩) w := by
  have e := run_slice_string (P := Try.prog) w 9 ⟨#[48, 49, 50, 51, 52, 53, 54, 55, 56, 57]⟩ .i64 .i64 (n : Int) ((n : Int) + 1) Try.underlying9 (by omega) (by omega) (by show (n : Int) + 1 ≤ 10; omega)
  rw [e]
  rw [show ((n : Int)).toNat = n by omega, show ((n : Int) + 1).toNat = n + 1 by omega, ten_at n h]
set_option maxRecDepth 100000 in
set_option maxHeartbeats 1000000 in
theorem fdigits_c : ∀ (n : Nat) (w : World), n ≤ 9223372036854775807 → Calls Try.prog 27 #[.int .i64 n] w (Ret (.string (digK n)) w) := by
  intro n
  induction n using Nat.strongRecOn with
  | ind n ih =>
    intro w h
    by_cases hn : n < 10
    · have d0 : decide ((n : Int) < 10) = true := by simp; omega
      rw [digK_small hn]
      have hx := fun W => ten_run n hn W
      go_enter Try.func27, Try.ntmps27
      go_wp2_with fail
      go_ret
      exact ⟨rfl, Ext.refl _⟩
    · have d0 : decide ((n : Int) < 10) = false := by simp; omega
      have hx := fun W => ten_run (n % 10) (by omega) W
      have hsz := digK_20 (n / 10) (by omega)
      have HI := fun W => hid (ih (n / 10) (by omega) W (by omega))
      rw [digK_big hn]
      have e1 : ((n / 10 : Nat) : Int) = (n : Int) / 10 := by omega
      have e2 : ((n % 10 : Nat) : Int) = (n : Int) % 10 := by omega
      rw [e1] at HI
      simp only [e2] at hx
      clear ih
      generalize dgB (n % 10) = z at hx ⊢
      generalize digK (n / 10) = t at HI hsz ⊢
      go_enter Try.func27, Try.ntmps27
      go_wp2_with fail
      refine wp_region_any_order (by kernel_rfl) (by kernel_rfl) (by kernel_rfl) ?_
      repeat (first
        | (refine AWq.val rfl rfl rfl rfl (fun K hK => ?_); go_big_quiet_op; refine hK _ ?_; clear hK K)
        | (refine AWq.skip rfl rfl rfl ?_; simp only [Act.put, List.setIfInBounds_toArray, List.set_cons_succ, List.set_cons_zero])
        | (refine AWq.call rfl Try.func27 (by kernel_rfl) (by kernel_rfl) rfl rfl rfl ?_; apply Exists.intro; refine And.intro (fun wc hc => ?_) ?_; (· (simp only [argsOf, anyAt, ↓reduceIte, Nat.reduceEqDiff, Array.getD_eq_getD_getElem?, List.getElem?_toArray, List.getElem?_cons_succ, List.getElem?_cons_zero, Option.getD_some]; with_reducible exact (HI _).out)); simp only [Act.put, List.setIfInBounds_toArray, List.set_cons_succ, List.set_cons_zero]))
      refine AWq.done rfl rfl rfl (fun w2 x2 => ?_)
      simp only [closeAny, Act.put, List.setIfInBounds_toArray, List.set_cons_succ, List.set_cons_zero]
      go_wp2_with fail
      go_ret
      exact ⟨rfl, x2⟩
theorem fdigits_z (z : Int) (w : World) (h : z ≤ 9223372036854775807) : Calls Try.prog 27 #[.int .i64 z] w (Ret (.string (digK z.toNat)) w) := by
  by_cases hz : 0 ≤ z
  · have := fdigits_c z.toNat w (by omega)
    rwa [show ((z.toNat : Nat) : Int) = z by omega] at this
  · have e : z.toNat = 0 := by omega
    rw [e, digK_small (by omega)]
    have hm : max z 0 = 0 := by omega
    have hx := fun W => ten_run 0 (by omega) W
    go_enter Try.func27, Try.ntmps27
    go_wp2_with fail
    go_ret
    exact ⟨rfl, Ext.refl _⟩
set_option maxRecDepth 100000 in
set_option maxHeartbeats 1000000 in
theorem fname_c (p : ByteArray) (it : Ver) (w : World) (hp : p.size ≤ 1000) (h : okV it) : Calls Try.prog 16 #[.string p, it.val] w (Ret (.string (nameK p it)) w) := by
  have D1 := fun W => hid (fdigits_z it.by_ W h.1)
  have D2 := fun W => hid (fdigits_z it.n W h.2)
  have s1 := digK_20 it.by_.toNat (by unfold okV at h; omega)
  have s2 := digK_20 it.n.toNat (by unfold okV at h; omega)
  unfold nameK
  generalize digK it.by_.toNat = t1 at D1 s1 ⊢
  generalize digK it.n.toNat = t2 at D2 s2 ⊢
  unfold Ver.val
  clear h
  go_enter Try.func16, Try.ntmps16
  go_wp2_with fail
  have q1 : ((p ++ (⟨#[126]⟩ : ByteArray)).size ≤ 1001) := by rw [ByteArray.size_append]; show p.size + 1 ≤ _; omega
  have q2 : (((p ++ (⟨#[126]⟩ : ByteArray)) ++ t1).size ≤ 1021) := by rw [ByteArray.size_append]; omega
  have q3 : ((((p ++ (⟨#[126]⟩ : ByteArray)) ++ t1) ++ ⟨#[46]⟩).size ≤ 1022) := by rw [ByteArray.size_append]; have : (⟨#[46]⟩ : ByteArray).size = 1 := rfl; omega
  refine wp_region_any_order (by kernel_rfl) (by kernel_rfl) (by kernel_rfl) ?_
  repeat (first
    | (refine AWq.val rfl rfl rfl rfl (fun K hK => ?_); go_big_quiet_op; refine hK _ ?_; clear hK K)
    | (refine AWq.skip rfl rfl rfl ?_; simp only [Act.put, List.setIfInBounds_toArray, List.set_cons_succ, List.set_cons_zero])
    | (refine AWq.call rfl Try.func27 (by kernel_rfl) (by kernel_rfl) rfl rfl rfl ?_; apply Exists.intro; refine And.intro (fun wc hc => ?_) ?_; (· (simp only [argsOf, anyAt, ↓reduceIte, Nat.reduceEqDiff, Array.getD_eq_getD_getElem?, List.getElem?_toArray, List.getElem?_cons_succ, List.getElem?_cons_zero, Option.getD_some]; with_reducible exact (D1 _).out)); simp only [Act.put, List.setIfInBounds_toArray, List.set_cons_succ, List.set_cons_zero])
    | (refine AWq.call rfl Try.func27 (by kernel_rfl) (by kernel_rfl) rfl rfl rfl ?_; apply Exists.intro; refine And.intro (fun wc hc => ?_) ?_; (· (simp only [argsOf, anyAt, ↓reduceIte, Nat.reduceEqDiff, Array.getD_eq_getD_getElem?, List.getElem?_toArray, List.getElem?_cons_succ, List.getElem?_cons_zero, Option.getD_some]; with_reducible exact (D2 _).out)); simp only [Act.put, List.setIfInBounds_toArray, List.set_cons_succ, List.set_cons_zero]))
  refine AWq.done rfl rfl rfl (fun w2 x2 => ?_)
  simp only [closeAny, Act.put, List.setIfInBounds_toArray, List.set_cons_succ, List.set_cons_zero]
  go_wp2_with fail
  go_ret
  exact ⟨rfl, (Ext.alloc _ _).trans x2⟩
end Go.Proofs.Ytjbpdepeimgocaa
